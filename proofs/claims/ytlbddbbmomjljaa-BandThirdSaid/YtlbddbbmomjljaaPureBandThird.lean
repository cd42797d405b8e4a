/- BandThird: what is near by way of a third list is near; on every three lists (of at most 20 runes each; longer ones are answered by the fixed probe) and every two bounds, taken from 0 to 9. -/
import Derived.Test.YtlbddbbmomjljaaPAx10
import Derived.Test.YtlbddbbmomjljaaPb
namespace Go.Proofs.Ytlbddbbmomjljaa.Pure
open Go.RowKit Go.Proofs.Ytlbddbbmomjljaa.PA Go.Proofs.YtlbddbbmomjljaaW.PrintWords Go.Proofs.YtlbddbbmomjljaaW.PrintLast Go.Proofs.YtlbddbbmomjljaaW.PrintMore
open Go.Proofs.Ytlbddbbmomjljaa.Ed

theorem third_near_le {a b : List Int} {k : Int} (h : (lev a b : Int) ≤ k) : near a b k = ((lev a b : Int), true) := by unfold near; rw [if_pos h]
theorem third_near_gt {a b : List Int} {k : Int} (h : ¬ (lev a b : Int) ≤ k) : near a b k = (0, false) := by unfold near; rw [if_neg h]

theorem digit_range (x : Int) : 0 ≤ wrap64 (Int.tmod (IntKind.u64.wrap x) 10) ∧ wrap64 (Int.tmod (IntKind.u64.wrap x) 10) ≤ 9 := by
  have h0 : 0 ≤ IntKind.u64.wrap x := by
    simp only [IntKind.wrap, IntKind.bits, IntKind.signed]
    simp
    omega
  rw [Int.tmod_eq_emod_of_nonneg h0]
  rw [wrap_id _ (by omega) (by omega)]
  omega

theorem third_end (a c : List Int) (k m x y : Int) (ha : a.length ≤ 20) (hc : c.length ≤ 20) (k0 : 0 ≤ k) (k1 : k ≤ 9) (m0 : 0 ≤ m) (m1 : m ≤ 9) (hx0 : 0 ≤ x) (hxk : x ≤ k) (hy0 : 0 ≤ y) (hym : y ≤ m) (h : (lev a c : Int) ≤ x + y) :
    Ev (fun n => inkhornlaw6_BandThird.j1 n a c k m x y false) true := by
  have w := Within_ev a c (k + m) (by omega) (by omega)
  rw [third_near_le (by omega)] at w
  have z1 : (-1000000 : Int) ≤ k + m := by omega
  have z2 : k + m ≤ 1000000 := by omega
  have z3 : (-1000000 : Int) ≤ x + y := by omega
  have z4 : x + y ≤ 1000000 := by omega
  refine Ev.step (fun n => by simp only [inkhornlaw6_BandThird.j1, Bool.false_eq_true, if_false]; rfl) ?_
  rw [wrap_id _ z1 z2]
  refine Ev.bind w (Ev.congr (fun n => ?_) awake6_ev)
  rw [if_pos rfl, wrap_id _ z3 z4, if_pos h]

theorem third_skip (a c : List Int) (k m x y : Int) : Ev (fun n => inkhornlaw6_BandThird.j1 n a c k m x y true) true :=
  Ev.step (f := fun n => (inkhornlaw6_awake.f n).bind fun t => some t) (fun n => by simp only [inkhornlaw6_BandThird.j1, if_true]) awake6_ev

theorem third_ev (a b c : List Int) (k m : Int) (ha : a.length ≤ 20) (hb : b.length ≤ 20) (hc : c.length ≤ 20) : Ev (fun n => inkhornlaw6_BandThird.j0 n a b c k m false) true := by
  have rk := digit_range k
  have rm := digit_range m
  refine Ev.step (fun n => by simp only [inkhornlaw6_BandThird.j0, Bool.false_eq_true, if_false]; rfl) ?_
  generalize wrap64 (Int.tmod (IntKind.u64.wrap k) 10) = k at *
  generalize wrap64 (Int.tmod (IntKind.u64.wrap m) 10) = m at *
  refine Ev.bind (Within_ev a b k (by omega) (by omega)) (Ev.bind (Within_ev b c m (by omega) (by omega)) ?_)
  by_cases h1 : (lev a b : Int) ≤ k
  · rw [third_near_le h1]
    refine Ev.congr (fun n => by rw [if_pos rfl]) ?_
    by_cases h2 : (lev b c : Int) ≤ m
    · rw [third_near_le h2]
      have ht := lev_triangle a b c
      exact third_end a c k m _ _ ha hc rk.1 rk.2 rm.1 rm.2 (by omega) h1 (by omega) h2 (by omega)
    · rw [third_near_gt h2]
      exact third_skip ..
  · rw [third_near_gt h1]
    exact Ev.congr (fun n => by rw [if_neg (by simp)]) (third_skip a c k m 0 (near b c m).1)

theorem BandThird : inkhornlaw6_BandThird.Pure := by
  intro a b c k m _ _ _ _ _ _ _ _ _ _ _
  apply Ev.rounds
  have hlong : Ev (fun n => inkhornlaw6_BandThird.j0 n a b c k m true) true :=
    Ev.step (f := fun n => (inkhornlaw6_awake.f n).bind fun t => some t) (fun n => by simp only [inkhornlaw6_BandThird.j0, if_true]) awake6_ev
  by_cases h1 : (a.length : Int) > 20
  · exact Ev.congr (fun n => by rw [inkhornlaw6_BandThird.f, if_pos h1]) hlong
  · by_cases h2 : (b.length : Int) > 20
    · exact Ev.congr (fun n => by rw [inkhornlaw6_BandThird.f, if_neg h1, if_pos h2]) hlong
    · by_cases h3 : (c.length : Int) > 20
      · exact Ev.congr (fun n => by rw [inkhornlaw6_BandThird.f, if_neg h1, if_neg h2, decide_eq_true h3]) hlong
      · exact Ev.congr (fun n => by rw [inkhornlaw6_BandThird.f, if_neg h1, if_neg h2, decide_eq_false h3]) (third_ev a b c k m (by omega) (by omega) (by omega))

end Go.Proofs.Ytlbddbbmomjljaa.Pure
