/- EditSteps: one step (a rune put in, taken out or changed at any place) makes a text one further at most, and not nearer by more than one; with a like beginning and end put about both the distance is the same; on every two lists (of at most 20 runes, with at most 5 ahead and behind; longer ones are answered by the fixed probe). -/
import Derived.Test.YtlbddbbmomjljaaPSx3
import Derived.Test.YtlbddbbmomjljaaPvS
namespace Go.Proofs.Ytlbddbbmomjljaa.Pure
open Go.RowKit Go.Proofs.Ytlbddbbmomjljaa.PS Go.Proofs.YtlbddbbmomjljaaW.PrintWords Go.Proofs.YtlbddbbmomjljaaW.PrintLast Go.Proofs.YtlbddbbmomjljaaW.PrintMore
open Go.Proofs.Ytlbddbbmomjljaa.Ed Go.Proofs.Ytlbddbbmomjljaa.PureS
set_option linter.unusedVariables false

/-! ### The steps -/
theorem lev_mid (u v v' w : List Int) : lev (u ++ v ++ w) (u ++ v' ++ w) = lev v v' := by
  rw [lev_append_right, lev_append_left]
theorem near_one {x a : List Int} (b : List Int) (h : lev x a ≤ 1) : (lev x b : Int) ≤ (lev a b : Int) + 1 ∧ (lev a b : Int) ≤ (lev x b : Int) + 1 := by
  have h1 := lev_triangle x a b
  have h2 := lev_triangle a x b
  rw [lev_comm a x] at h2
  omega
theorem step_in (a : List Int) (t : Nat) (r : Int) : lev (a.take t ++ [r] ++ a.drop t) a ≤ 1 := by
  have h := lev_mid (a.take t) [r] [] (a.drop t)
  rw [List.append_nil, List.take_append_drop, lev_nil_right] at h
  rw [h]
  simp
theorem step_out (a : List Int) (t : Nat) (h : t ≤ a.length) : lev (a.take t ++ a.drop (min (t + 1) a.length)) a ≤ 1 := by
  by_cases e : t < a.length
  · have h1 := lev_mid (a.take t) [] [a[t]] (a.drop (t + 1))
    have h2 : a.take t ++ [a[t]] ++ a.drop (t + 1) = a := by rw [← List.take_succ_eq_append_getElem e, List.take_append_drop]
    rw [List.append_nil, h2, lev_nil_left] at h1
    rw [Nat.min_eq_left (by omega), h1]
    simp
  · rw [List.take_of_length_le (by omega), Nat.min_eq_right (by omega), List.drop_length, List.append_nil, lev_self]
    omega
theorem step_other (a : List Int) (t : Nat) (r : Int) (h : t ≤ a.length) : lev (a.take t ++ [r] ++ a.drop (min (t + 1) a.length)) a ≤ 1 := by
  by_cases e : t < a.length
  · have h1 := lev_mid (a.take t) [r] [a[t]] (a.drop (t + 1))
    have h2 : a.take t ++ [a[t]] ++ a.drop (t + 1) = a := by rw [← List.take_succ_eq_append_getElem e, List.take_append_drop]
    rw [h2] at h1
    rw [Nat.min_eq_left (by omega), h1]
    exact lev_le_max [r] [a[t]]
  · have h1 := lev_mid a [r] [] []
    rw [List.append_nil, List.append_nil, List.append_nil, lev_nil_right] at h1
    rw [List.take_of_length_le (by omega), Nat.min_eq_right (by omega), List.drop_length, List.append_nil, h1]
    simp

/-! ### The printed function's tail, once for the three steps -/
def tail (k : Nat) (a b p s x : List Int) (d : Int) : Option Bool :=
  (edit_Runes.f k x b).bind fun e => if ([] : List Int).length + p.length < 35184372088832 then ((some (([] : List Int) ++ p : List Int)).bind fun y1 => (if y1.length + a.length < 35184372088832 then ((some (y1 ++ a : List Int)).bind fun y2 => (if y2.length + s.length < 35184372088832 then ((some (([] : List Int) ++ p : List Int)).bind fun y3 => (if y3.length + b.length < 35184372088832 then ((some (y3 ++ b : List Int)).bind fun y4 => (if y4.length + s.length < 35184372088832 then (if e ≤ (wrap64 (d + 1)) then (if d ≤ (wrap64 (e + 1)) then ((edit_Runes.f k (y2 ++ s) (y4 ++ s)).bind fun f => (if f = d then ((inkhornlaw5_awake.f k).bind fun t => (some t)) else (some false))) else (some false)) else (some false)) else (none))) else (none))) else (none))) else (none))) else (none)

theorem tail_ev (a b p s x : List Int) (ha : a.length ≤ 20) (hb : b.length ≤ 20) (hp : p.length ≤ 5) (hs : s.length ≤ 5) (hx : x.length ≤ 30) (h : lev x a ≤ 1) : Ev (fun k => tail k a b p s x (lev a b : Int)) true := by
  obtain ⟨h1, h2⟩ := near_one b h
  have m1 := lev_le_max x b
  have m2 := lev_le_max a b
  have z1 : (-1000000 : Int) ≤ (lev a b : Int) + 1 := by omega
  have z2 : (lev a b : Int) + 1 ≤ 1000000 := by omega
  have z3 : (-1000000 : Int) ≤ (lev x b : Int) + 1 := by omega
  have z4 : (lev x b : Int) + 1 ≤ 1000000 := by omega
  have l1 : ([] : List Int).length + p.length < 35184372088832 := by simp only [List.length_nil]; omega
  have l2 : ([] ++ p).length + a.length < 35184372088832 := by simp only [List.nil_append]; omega
  have l3 : ([] ++ p ++ a).length + s.length < 35184372088832 := by simp only [List.nil_append, List.length_append]; omega
  have l4 : ([] ++ p).length + b.length < 35184372088832 := by simp only [List.nil_append]; omega
  have l5 : ([] ++ p ++ b).length + s.length < 35184372088832 := by simp only [List.nil_append, List.length_append]; omega
  have g1 : ([] ++ p ++ a ++ s).length ≤ 1000 := by simp only [List.nil_append, List.length_append]; omega
  have g2 : ([] ++ p ++ b ++ s).length ≤ 1000 := by simp only [List.nil_append, List.length_append]; omega
  have e : lev ([] ++ p ++ a ++ s) ([] ++ p ++ b ++ s) = lev a b := by rw [lev_append_right, lev_append_left]
  have w := Runes_ev _ _ g1 g2
  rw [e] at w
  refine Ev.bind (Runes_ev x b (by omega) (by omega)) ?_
  refine Ev.congr (f := fun k => (edit_Runes.f k ([] ++ p ++ a ++ s) ([] ++ p ++ b ++ s)).bind fun f => if f = (lev a b : Int) then ((inkhornlaw5_awake.f k).bind fun t => some t) else some false) (fun k => ?_) (Ev.bind w (Ev.congr (fun k => by rw [if_pos rfl]) (Ev.bind awake_ev (Ev.now _))))
  simp only [Option.bind_some]
  rw [if_pos l1, if_pos l2, if_pos l3, if_pos l4, if_pos l5, wrap_id _ z1 z2, wrap_id _ z3 z4, if_pos h1, if_pos h2]

theorem Low_eq (x : Int) (n : Nat) (h0 : 0 < n) (h1 : n ≤ 1000) : ∃ r : Nat, r < n ∧ inkhornlaw0_Low.f x (n : Int) = some (r : Int) := by
  have hn : IntKind.u64.wrap (n : Int) = (n : Int) := by
    simp only [IntKind.wrap, IntKind.bits, IntKind.signed]
    simp
    omega
  have hx : 0 ≤ IntKind.u64.wrap x := by
    simp only [IntKind.wrap, IntKind.bits, IntKind.signed]
    simp
    omega
  refine ⟨(IntKind.u64.wrap x % (n : Int)).toNat, ?_, ?_⟩
  · have := Int.emod_lt_of_pos (IntKind.u64.wrap x) (show (0 : Int) < n by omega)
    omega
  · have a1 := Int.emod_nonneg (IntKind.u64.wrap x) (show (n : Int) ≠ 0 by omega)
    have a2 := Int.emod_lt_of_pos (IntKind.u64.wrap x) (show (0 : Int) < n by omega)
    unfold inkhornlaw0_Low.f
    rw [hn, if_neg (by omega), Int.tmod_eq_emod_of_nonneg hx, Int.toNat_of_nonneg a1, wrap_id _ (by omega) (by omega)]

theorem steps_ev (a b : List Int) (at_ r do_ : Int) (p s : List Int) (ha : a.length ≤ 20) (hb : b.length ≤ 20) (hp : p.length ≤ 5) (hs : s.length ≤ 5) : Ev (fun k => inkhornlaw5_EditSteps.j0 k a b at_ r do_ p s false) true := by
  obtain ⟨t, t1, t2⟩ := Low_eq at_ (a.length + 1) (by omega) (by omega)
  obtain ⟨c, c1, c2⟩ := Low_eq do_ 3 (by omega) (by omega)
  have hw : wrap64 ((a.length : Int) + 1) = ((a.length + 1 : Nat) : Int) := by rw [wrap_id _ (by omega) (by omega)]; rfl
  have h3 : ((3 : Nat) : Int) = 3 := rfl
  rw [h3] at c2
  have tl : t ≤ a.length := by omega
  have hmn : mn (wrap64 ((t : Int) + 1)) (a.length : Int) = ((min (t + 1) a.length : Nat) : Int) := by
    rw [wrap_id _ (by omega) (by omega)]
    unfold mn
    split <;> omega
  have HW := Aside0.mk hw
  have HM := Aside0.mk hmn
  clear hw hmn
  have d1 : (0 : Int) ≤ (t : Int) := by omega
  have d2 : (t : Int) ≤ (a.length : Int) := by omega
  have d3 : (0 : Int) ≤ ((min (t + 1) a.length : Nat) : Int) := by omega
  have d4 : ((min (t + 1) a.length : Nat) : Int) ≤ (a.length : Int) := by omega
  have k1 : (a.take t).length ≤ 20 := by rw [List.length_take]; omega
  have k2 : (a.drop t).length ≤ 20 := by rw [List.length_drop]; omega
  have k3 : (a.drop (min (t + 1) a.length)).length ≤ 20 := by rw [List.length_drop]; omega
  have k4 : (a.take t).length + (a.drop t).length ≤ 20 := by rw [List.length_take, List.length_drop]; omega
  have k5 : (a.take t).length + (a.drop (min (t + 1) a.length)).length ≤ 20 := by rw [List.length_take, List.length_drop]; omega
  have n1 : ([] : List Int).length + (a.take t).length < 35184372088832 := by simp only [List.length_nil]; omega
  have n2 : ([] ++ a.take t).length + [r].length < 35184372088832 := by simp only [List.nil_append, List.length_cons, List.length_nil]; omega
  have n3 : ([] ++ a.take t ++ [r]).length + (a.drop t).length < 35184372088832 := by simp only [List.nil_append, List.length_append, List.length_cons, List.length_nil]; omega
  have n4 : ([] ++ a.take t).length + (a.drop (min (t + 1) a.length)).length < 35184372088832 := by simp only [List.nil_append]; omega
  have n5 : ([] ++ a.take t ++ [r]).length + (a.drop (min (t + 1) a.length)).length < 35184372088832 := by simp only [List.nil_append, List.length_append, List.length_cons, List.length_nil]; omega
  have x0 : ([] ++ a.take t ++ [r] ++ a.drop t).length ≤ 30 := by simp only [List.nil_append, List.length_append, List.length_cons, List.length_nil]; omega
  have x1 : ([] ++ a.take t ++ a.drop (min (t + 1) a.length)).length ≤ 30 := by simp only [List.nil_append, List.length_append]; omega
  have x2 : ([] ++ a.take t ++ [r] ++ a.drop (min (t + 1) a.length)).length ≤ 30 := by simp only [List.nil_append, List.length_append, List.length_cons, List.length_nil]; omega
  refine Ev.step (fun k => by simp only [inkhornlaw5_EditSteps.j0, Bool.false_eq_true, if_false]; rfl) ?_
  refine Ev.bind (Runes_ev a b (by omega) (by omega)) ?_
  rw [HW.out, t2, c2]
  rcases (show c = 0 ∨ c = 1 ∨ c = 2 by omega) with rfl | rfl | rfl
  · have q0 : ((0 : Nat) : Int) = 0 := rfl
    refine Ev.congr (fun k => ?_) (tail_ev a b p s ([] ++ a.take t ++ [r] ++ a.drop t) ha hb hp hs x0 (step_in a t r))
    simp only [Option.bind_some, Int.toNat_natCast]
    rw [if_pos q0, if_pos d1, if_pos d2, if_pos n1, if_pos n2, if_pos n3]
    simp only [tail, Option.bind_some]
  · have q0 : ¬ ((1 : Nat) : Int) = 0 := by omega
    have q1 : ((1 : Nat) : Int) = 1 := rfl
    refine Ev.congr (fun k => ?_) (tail_ev a b p s ([] ++ a.take t ++ a.drop (min (t + 1) a.length)) ha hb hp hs x1 (step_out a t tl))
    simp only [Option.bind_some, HM.out, Int.toNat_natCast]
    rw [if_neg q0, if_pos q1, if_pos d1, if_pos d2, if_pos n1, if_pos d3, if_pos d4, if_pos n4]
    simp only [tail, Option.bind_some]
  · have q0 : ¬ ((2 : Nat) : Int) = 0 := by omega
    have q1 : ¬ ((2 : Nat) : Int) = 1 := by omega
    refine Ev.congr (fun k => ?_) (tail_ev a b p s ([] ++ a.take t ++ [r] ++ a.drop (min (t + 1) a.length)) ha hb hp hs x2 (step_other a t r tl))
    simp only [Option.bind_some, HM.out, Int.toNat_natCast]
    rw [if_neg q0, if_neg q1, if_pos d1, if_pos d2, if_pos n1, if_pos n2, if_pos d3, if_pos d4, if_pos n5]
    simp only [tail, Option.bind_some]

theorem EditSteps : inkhornlaw5_EditSteps.Pure := by
  intro a b at_ r do_ p s _ _ _ _ _ _ _ _ _ _ _ _ _ _ _
  apply Ev.rounds
  have hlong : Ev (fun k => inkhornlaw5_EditSteps.j0 k a b at_ r do_ p s true) true :=
    Ev.step (f := fun k => (inkhornlaw5_awake.f k).bind fun t => some t) (fun k => by simp only [inkhornlaw5_EditSteps.j0, if_true]) (Ev.bind awake_ev (Ev.now _))
  by_cases h1 : (a.length : Int) > 20
  · exact Ev.congr (fun k => by rw [inkhornlaw5_EditSteps.f, if_pos h1]) hlong
  · by_cases h2 : (b.length : Int) > 20
    · exact Ev.congr (fun k => by rw [inkhornlaw5_EditSteps.f, if_neg h1, if_pos h2]) hlong
    · by_cases h3 : (p.length : Int) > 5
      · exact Ev.congr (fun k => by rw [inkhornlaw5_EditSteps.f, if_neg h1, if_neg h2, if_pos h3]) hlong
      · by_cases h4 : (s.length : Int) > 5
        · exact Ev.congr (fun k => by rw [inkhornlaw5_EditSteps.f, if_neg h1, if_neg h2, if_neg h3, decide_eq_true h4]) hlong
        · exact Ev.congr (fun k => by rw [inkhornlaw5_EditSteps.f, if_neg h1, if_neg h2, if_neg h3, decide_eq_false h4]) (steps_ev a b at_ r do_ p s (by omega) (by omega) (by omega) (by omega))

end Go.Proofs.Ytlbddbbmomjljaa.Pure
