/- What the printed function Within of package band comes to: the distance, if it is not above the bound. -/
import Derived.Test.YtlbddbbmomjljaaPAx8
import Derived.Test.YtlbddbbmomjljaaPw
namespace Go.Proofs.Ytlbddbbmomjljaa.Pure
open Go.RowKit Go.Proofs.Ytlbddbbmomjljaa.PA Go.Proofs.YtlbddbbmomjljaaW.PrintWords Go.Proofs.YtlbddbbmomjljaaW.PrintLast Go.Proofs.YtlbddbbmomjljaaW.PrintMore
open Go.Proofs.Ytlbddbbmomjljaa.Ed

/-- The distance, but never beyond K + 1. -/
def E (a b : List Int) (K i j : Nat) : Nat := min (D a b i j) (K + 1)
theorem E_le (a b : List Int) (K i j : Nat) : E a b K i j ≤ K + 1 := by unfold E; omega
theorem E_far (a b : List Int) (K i j : Nat) (hi : i ≤ a.length) (hj : j ≤ b.length) (h : i + K < j ∨ j + K < i) : E a b K i j = K + 1 := by
  have := D_ge a b i j hi hj
  unfold E
  omega
theorem E_zero_left (a b : List Int) (K j : Nat) (hj : j ≤ b.length) : E a b K 0 j = min j (K + 1) := by unfold E; rw [D_zero_left a b j hj]
theorem E_zero_right (a b : List Int) (K i : Nat) (hi : i ≤ a.length) : E a b K i 0 = min i (K + 1) := by unfold E; rw [D_zero_right a b i hi]
theorem E_succ (a b : List Int) (K i j : Nat) (hi : i < a.length) (hj : j < b.length) :
    E a b K (i + 1) (j + 1) = min (min (min (E a b K i (j + 1) + 1) (E a b K (i + 1) j + 1)) (E a b K i j + if a[i] = b[j] then 0 else 1)) (K + 1) := by
  unfold E
  rw [D_succ a b i j hi hj]
  split <;> omega

/-- At row i's head: the band's entries, and all behind. -/
def Inv (a b : List Int) (K i : Nat) (x : List Int) : Prop := x.length = b.length + 1 ∧ ∀ j, j ≤ b.length → i ≤ j + K → x.getD j 0 = (E a b K i j : Int)
/-- Midway in row i: the entries from f - 1 to below p are row i + 1's. -/
def MidB (a b : List Int) (K i f p : Nat) (x : List Int) : Prop := x.length = b.length + 1 ∧ ∀ j, j ≤ b.length → f ≤ j + 1 → x.getD j 0 = if j < p then (E a b K (i + 1) j : Int) else (E a b K i j : Int)

/-- Where row i's band begins and ends. -/
structure Span (b : List Int) (K i f t : Nat) : Prop where
  f1 : 1 ≤ f
  f2 : f ≤ i + 1
  f3 : i + 1 ≤ f + K
  f4 : f = 1 ∨ f + K = i + 1
  t1 : t ≤ b.length
  t2 : t ≤ i + 1 + K
  t3 : t = b.length ∨ t = i + 1 + K

theorem val_same (p q r K v : Nat) (hs : v = min (min (min (p + 1) (q + 1)) (r + 0)) (K + 1)) : mn (mn (mn ((p : Int) + 1) ((q : Int) + 1)) (r : Int)) ((K : Int) + 1) = (v : Int) := by
  subst hs
  unfold mn
  repeat' split
  all_goals omega
theorem val_unlike (p q r K v : Nat) (hs : v = min (min (min (p + 1) (q + 1)) (r + 1)) (K + 1)) : mn (mn (mn ((p : Int) + 1) ((q : Int) + 1)) ((r : Int) + 1)) ((K : Int) + 1) = (v : Int) := by
  subst hs
  unfold mn
  repeat' split
  all_goals omega

theorem mid_step (a b : List Int) (K i f p : Nat) (x : List Int) (hp : p < b.length) (hx : MidB a b K i f (p + 1) x) : MidB a b K i f (p + 2) (x.set (p + 1) ((E a b K (i + 1) (p + 1) : Nat) : Int)) := by
  obtain ⟨hl, hv⟩ := hx
  refine ⟨by rw [List.length_set]; exact hl, fun j hj2 hjf => ?_⟩
  rw [getD_set _ _ _ _ (by rw [hl]; omega)]
  by_cases e : j = p + 1
  · subst e
    rw [if_pos rfl, if_pos (by omega)]
  · rw [if_neg e, hv j hj2 hjf]
    by_cases e2 : j < p + 1
    · rw [if_pos e2, if_pos (by omega)]
    · rw [if_neg e2, if_neg (by omega)]

theorem mid_end_far (a b : List Int) (K i f t : Nat) (x : List Int) (hi : i < a.length) (sp : Span b K i f t) (hx : MidB a b K i f (t + 1) x) (ht : t < b.length) : Inv a b K (i + 1) (x.set (t + 1) ((K : Int) + 1)) := by
  obtain ⟨hl, hv⟩ := hx
  obtain ⟨f1, f2, f3, f4, t1, t2, t3⟩ := sp
  refine ⟨by rw [List.length_set]; exact hl, fun j hj hjK => ?_⟩
  rw [getD_set _ _ _ _ (by rw [hl]; omega)]
  by_cases e : j = t + 1
  · rw [if_pos e, E_far a b K (i + 1) j (by omega) hj (by omega)]
    rfl
  · rw [if_neg e, hv j hj (by omega)]
    by_cases e2 : j < t + 1
    · rw [if_pos e2]
    · rw [if_neg e2, E_far a b K (i + 1) j (by omega) hj (by omega), E_far a b K i j (by omega) hj (by omega)]
theorem mid_end (a b : List Int) (K i f t : Nat) (x : List Int) (sp : Span b K i f t) (hx : MidB a b K i f (t + 1) x) (ht : ¬ t < b.length) : Inv a b K (i + 1) x := by
  obtain ⟨hl, hv⟩ := hx
  obtain ⟨f1, f2, f3, f4, t1, t2, t3⟩ := sp
  refine ⟨hl, fun j hj hjK => ?_⟩
  rw [hv j hj (by omega), if_pos (by omega)]

theorem w_succ (q : Nat) (h : q ≤ 10000) : wrap64 ((q : Int) + 1) = ((q + 1 : Nat) : Int) := by rw [wrap_id _ (by omega) (by omega)]; rfl
theorem w_sum (q f p : Nat) (h : f + q = p + 1) (hp : p ≤ 10000) : wrap64 ((q : Int) + (f : Int)) = ((p + 1 : Nat) : Int) := by rw [wrap_id _ (by omega) (by omega)]; omega
theorem w_pred (p : Nat) (h : p ≤ 10000) : wrap64 (((p + 1 : Nat) : Int) - 1) = (p : Int) := by rw [wrap_id _ (by omega) (by omega)]; omega
theorem w_pred' (f p : Nat) (hf : f = p + 1) (h : p ≤ 10000) : wrap64 ((f : Int) - 1) = (p : Int) := by subst hf; exact w_pred p h
theorem w_cnt (t f : Nat) (ht : t ≤ 10000) (hf : f ≤ 10000) : wrap64 (wrap64 ((t : Int) - (f : Int)) + 1) = (t : Int) - (f : Int) + 1 := by
  rw [wrap_id (_ - _) (by omega) (by omega), wrap_id _ (by omega) (by omega)]
theorem w_E (a b : List Int) (K i j : Nat) (hK : K ≤ 2000) : wrap64 ((E a b K i j : Int) + 1) = (E a b K i j : Int) + 1 := by
  have := E_le a b K i j
  exact wrap_id _ (by omega) (by omega)

/-- One round of the inner loop. -/
theorem band_round (a b : List Int) (K i f t q p k : Nat) (x : List Int) (ha : a.length ≤ 1000) (hb : b.length ≤ 1000) (hK : K ≤ 2000) (hi : i < a.length) (hp : f + q = p + 1) (hpt : p < t) (hpb : p < b.length) (hf1 : 1 ≤ f) (hfp : f ≤ p + 1) (hx : MidB a b K i f (p + 1) x) :
    band_Within.l2 (k + 1) a b (K : Int) ((K : Int) + 1) x (i : Int) (f : Int) (t : Int) (E a b K i p : Int) (a.length : Int) (i : Int) ((t : Int) - (f : Int) + 1) (q : Int) =
    band_Within.l2 k a b (K : Int) ((K : Int) + 1) (x.set (p + 1) ((E a b K (i + 1) (p + 1) : Nat) : Int)) (i : Int) (f : Int) (t : Int) (E a b K i (p + 1) : Int) (a.length : Int) (i : Int) ((t : Int) - (f : Int) + 1) ((q + 1 : Nat) : Int) := by
  obtain ⟨hl, hv⟩ := hx
  have h1 : (q : Int) < (t : Int) - (f : Int) + 1 := by omega
  have h2 : (0 : Int) ≤ (i : Int) := by omega
  have h3 : (i : Int) < (a.length : Int) := by omega
  have h4 : (0 : Int) ≤ (p : Int) := by omega
  have h5 : (p : Int) < (b.length : Int) := by omega
  have h6 : (0 : Int) ≤ ((p + 1 : Nat) : Int) := by omega
  have h7 : ((p + 1 : Nat) : Int) < (x.length : Int) := by omega
  have h8 : (p : Int) < (x.length : Int) := by omega
  have e0 := hv (p + 1) (by omega) (by omega)
  have e1 := hv p (by omega) (by omega)
  have n1 : ¬ p + 1 < p + 1 := by omega
  have n2 : p < p + 1 := by omega
  have z1 : q ≤ 10000 := by omega
  have z2 : p ≤ 10000 := by omega
  have hq := w_succ q z1
  have hj := w_sum q f p hp z2
  have hj1 := w_pred p z2
  have w0 := w_E a b K i (p + 1) hK
  have w1 := w_E a b K (i + 1) p hK
  have w2 := w_E a b K i p hK
  rw [if_neg n1] at e0
  rw [if_pos n2] at e1
  have hs := E_succ a b K i p hi hpb
  rw [← getD_get a i hi, ← getD_get b p hpb] at hs
  simp only [band_Within.l2, hq, hj, hj1, rd_nat, Int.toNat_natCast]
  rw [if_pos h1, if_pos h2, if_pos h3, if_pos h4, if_pos h5, e0, e1, w0, w1, w2]
  by_cases he : a.getD i 0 = b.getD p 0
  · rw [if_pos he] at hs
    rw [if_pos he, if_pos h6, if_pos h7, if_pos h8, val_same _ _ _ _ _ hs]
  · rw [if_neg he] at hs
    rw [if_neg he, if_pos h6, if_pos h7, if_pos h8, val_unlike _ _ _ _ _ hs]

theorem band_l2 (a b : List Int) (K i f t : Nat) (ha : a.length ≤ 1000) (hb : b.length ≤ 1000) (hK : K ≤ 2000) (hi : i < a.length) (sp : Span b K i f t) (hft : f ≤ t + 1) (r : Int × Bool)
    (Good : (∀ x, Inv a b K (i + 1) x → Ev (fun k => band_Within.l1 k a b (K : Int) ((K : Int) + 1) x (a.length : Int) ((i + 1 : Nat) : Int)) r)) (d : Nat) :
    ∀ (q p : Nat) (x : List Int), f + q = p + 1 → p + d = t → MidB a b K i f (p + 1) x →
      Ev (fun k => band_Within.l2 k a b (K : Int) ((K : Int) + 1) x (i : Int) (f : Int) (t : Int) (E a b K i p : Int) (a.length : Int) (i : Int) ((t : Int) - (f : Int) + 1) (q : Int)) r := by
  induction d with
  | zero =>
    intro q p x hqp hd hx
    obtain rfl : p = t := by omega
    have s1 := sp.t1
    have hl := hx.1
    have z1 : i ≤ 10000 := by omega
    have z2 : p ≤ 10000 := by omega
    have h0 : ¬ (q : Int) < (p : Int) - (f : Int) + 1 := by omega
    have h1 : (0 : Int) ≤ ((p + 1 : Nat) : Int) := by omega
    by_cases ht : p < b.length
    · have h2 : (p : Int) < (b.length : Int) := by omega
      have h3 : ((p + 1 : Nat) : Int) < (x.length : Int) := by omega
      have hwi := w_succ i z1
      have hwt := w_succ p z2
      refine Ev.step (fun k => ?_) (Good _ (mid_end_far a b K i f p x hi sp hx ht))
      simp only [band_Within.l2, hwi, hwt]
      rw [if_neg h0, if_pos h2, if_pos h1, if_pos h3, Int.toNat_natCast]
    · have h2 : ¬ (p : Int) < (b.length : Int) := by omega
      have hwi := w_succ i z1
      refine Ev.step (fun k => ?_) (Good _ (mid_end a b K i f p x sp hx ht))
      simp only [band_Within.l2, hwi]
      rw [if_neg h0, if_neg h2]
  | succ d ih =>
    intro q p x hqp hd hx
    have s1 := sp.t1
    have h := ih (q + 1) (p + 1) _ (by omega) (by omega) (mid_step a b K i f p x (by omega) hx)
    exact Ev.step (fun k => band_round a b K i f t q p k x ha hb hK hi hqp (by omega) (by omega) sp.f1 (by omega) hx) h

/-- What is told in the end. -/
def told (a b : List Int) (K : Nat) : Int × Bool := if lev a b ≤ K then ((lev a b : Int), true) else (0, false)

theorem band_end (a b : List Int) (K : Nat) (x : List Int) (hlen : a.length ≤ b.length + K) (hx : Inv a b K a.length x) (k : Nat) : band_Within.l1 (k + 1) a b (K : Int) ((K : Int) + 1) x (a.length : Int) (a.length : Int) = some (told a b K) := by
  obtain ⟨hl, hv⟩ := hx
  have e := hv b.length (Nat.le_refl _) (by omega)
  unfold E at e
  rw [D_full] at e
  have h1 : (b.length : Int) < (x.length : Int) := by omega
  simp only [band_Within.l1, rd_nat]
  rw [if_neg (by omega), if_pos (by omega), if_pos h1, e]
  clear e hv
  unfold told
  by_cases h : lev a b ≤ K
  · rw [if_neg (by omega), if_pos h]
    congr 2
    omega
  · rw [if_pos (by omega), if_neg h]

theorem mid_begin_one (a b : List Int) (K i f : Nat) (x : List Int) (hi : i < a.length) (hx : Inv a b K i x) (hf : f = 1) (hb : i ≤ K) : MidB a b K i f (0 + 1) ((x.set (f - 1) ((K : Int) + 1)).set 0 (mn ((i + 1 : Nat) : Int) ((K : Int) + 1))) := by
  obtain ⟨hl, hv⟩ := hx
  subst hf
  refine ⟨by rw [List.length_set, List.length_set]; exact hl, fun j hj hjf => ?_⟩
  rw [getD_set _ _ _ _ (by rw [List.length_set, hl]; omega)]
  by_cases e2 : j = 0
  · subst e2
    rw [if_pos rfl, if_pos (by omega), E_zero_right a b K (i + 1) (by omega)]
    unfold mn
    split <;> omega
  · rw [if_neg e2, getD_set _ _ _ _ (by rw [hl]; omega), if_neg (by omega), if_neg (by omega), hv j hj (by omega)]
theorem mid_begin (a b : List Int) (K i f p : Nat) (x : List Int) (hi : i < a.length) (hx : Inv a b K i x) (hf : f + K = i + 1) (hp : f = p + 1) (hpb : p ≤ b.length) : MidB a b K i f (p + 1) (x.set (f - 1) ((K : Int) + 1)) := by
  obtain ⟨hl, hv⟩ := hx
  subst hp
  refine ⟨by rw [List.length_set]; exact hl, fun j hj hjf => ?_⟩
  rw [getD_set _ _ _ _ (by rw [hl]; omega)]
  by_cases e2 : j = p
  · subst e2
    rw [if_pos (by omega), if_pos (by omega), E_far a b K (i + 1) j (by omega) hj (by omega)]
    rfl
  · rw [if_neg (by omega), if_neg (by omega), hv j hj (by omega)]

theorem band_l1 (a b : List Int) (K : Nat) (ha : a.length ≤ 1000) (hb : b.length ≤ 1000) (hK : K ≤ 2000) (hlen : a.length ≤ b.length + K) (d : Nat) :
    ∀ (i : Nat) (x : List Int), i ≤ a.length → a.length - i = d → Inv a b K i x → Ev (fun k => band_Within.l1 k a b (K : Int) ((K : Int) + 1) x (a.length : Int) (i : Int)) (told a b K) := by
  induction d with
  | zero =>
    intro i x hi hd hx
    obtain rfl : i = a.length := by omega
    exact Ev.step (f := fun _ => some (told a b K)) (fun k => band_end a b K x hlen hx k) (Ev.now _)
  | succ d ih =>
    intro i x hi hd hx
    have hlt : i < a.length := by omega
    have hl := hx.1
    obtain ⟨f, t, p, hmx, hmn, sp, hft, hfp⟩ : ∃ f t p : Nat, mx (wrap64 (((i + 1 : Nat) : Int) - (K : Int))) 1 = (f : Int) ∧ mn (wrap64 (((i + 1 : Nat) : Int) + (K : Int))) (b.length : Int) = (t : Int) ∧ Span b K i f t ∧ f ≤ t + 1 ∧ f = p + 1 := by
      rw [wrap_id _ (by omega) (by omega), wrap_id _ (by omega) (by omega)]
      clear ih hx
      refine ⟨max (i + 1 - K) 1, min (i + 1 + K) b.length, max (i + 1 - K) 1 - 1, ?_, ?_, ⟨by omega, by omega, by omega, by omega, by omega, by omega, by omega⟩, by omega, by omega⟩
      · unfold mx
        split <;> omega
      · unfold mn
        split <;> omega
    have HM := Aside0.mk hmx
    have HN := Aside0.mk hmn
    clear hmx hmn
    have s1 := sp.t1
    have s2 := sp.f2
    have s3 := sp.f3
    have s4 := sp.f4
    have e := hx.2 p (by omega) (by omega)
    have hp0 : (0 : Int) ≤ (p : Int) := by omega
    have hpx : (p : Int) < (x.length : Int) := by omega
    have hx0 : (0 : Int) < (x.length : Int) := by omega
    have hia : (i : Int) < (a.length : Int) := by omega
    have hfe : f - 1 = p := by omega
    have z1 : i ≤ 10000 := by omega
    have key : ∀ y : List Int, MidB a b K i f (p + 1) y → Ev (fun k => band_Within.j3 k a b (K : Int) ((K : Int) + 1) y (i : Int) (f : Int) (t : Int) (E a b K i p : Int) (a.length : Int) (i : Int)) (told a b K) := by
      intro y hy
      have h := band_l2 a b K i f t ha hb hK hlt sp hft (told a b K) (fun x hx => ih (i + 1) x (by omega) (by omega) hx) (t - p) 0 p y (by omega) (by omega) hy
      have e0 : ((0 : Nat) : Int) = 0 := rfl
      rw [e0] at h
      have hcnt := w_cnt t f (by omega) (by omega)
      refine Ev.step (fun k => ?_) h
      simp only [band_Within.j3, hcnt]
    by_cases h1 : f = 1
    · have hy := mid_begin_one a b K i f x hlt hx h1 (by omega)
      obtain rfl : p = 0 := by omega
      rw [hfe] at hy
      have h1' : (f : Int) = 1 := by omega
      have hw1 := w_pred' f 0 hfp (by omega)
      have hwi := w_succ i z1
      refine Ev.step (fun k => ?_) (key _ hy)
      simp only [band_Within.l1, hwi, HM.out, HN.out, hw1, rd_nat, Int.toNat_natCast, Option.bind_some]
      rw [if_pos hia, if_pos hp0, if_pos hpx, if_pos h1', if_pos hx0, e]
      rfl
    · have hy := mid_begin a b K i f p x hlt hx (by omega) hfp (by omega)
      rw [hfe] at hy
      have h1' : ¬ (f : Int) = 1 := by omega
      have hw1 := w_pred' f p hfp (by omega)
      have hwi := w_succ i z1
      refine Ev.step (fun k => ?_) (key _ hy)
      simp only [band_Within.l1, hwi, HM.out, HN.out, hw1, rd_nat, Int.toNat_natCast, Option.bind_some]
      rw [if_pos hia, if_pos hp0, if_pos hpx, if_neg h1', e]

theorem band_l0 (a b : List Int) (K : Nat) (ha : a.length ≤ 1000) (hb : b.length ≤ 1000) (hK : K ≤ 2000) (hlen : a.length ≤ b.length + K) (d : Nat) :
    ∀ (j : Nat) (x : List Int), j ≤ b.length + 1 → b.length + 1 - j = d → x.length = b.length + 1 → (∀ q, q < j → x.getD q 0 = (min q (K + 1) : Nat)) → Ev (fun k => band_Within.l0 k a b (K : Int) ((K : Int) + 1) x (x.length : Int) (j : Int)) (told a b K) := by
  induction d with
  | zero =>
    intro j x hj hd hl hx
    have h := band_l1 a b K ha hb hK hlen a.length 0 x (by omega) rfl ⟨hl, fun q hq _ => by rw [hx q (by omega), E_zero_left a b K q hq]⟩
    have e0 : ((0 : Nat) : Int) = 0 := rfl
    rw [e0] at h
    refine Ev.step (fun k => ?_) h
    simp only [band_Within.l0]
    rw [if_neg (by rw [hl]; omega)]
  | succ d ih =>
    intro j x hj hd hl hx
    have hl' : (x.set j ((min j (K + 1) : Nat) : Int)).length = b.length + 1 := by rw [List.length_set]; exact hl
    have h := ih (j + 1) (x.set j ((min j (K + 1) : Nat) : Int)) (by omega) (by omega) hl' (fun q hq => by
      rw [getD_set _ _ _ _ (by omega)]
      by_cases e : q = j
      · rw [if_pos e, e]
      · rw [if_neg e]
        exact hx q (by omega))
    rw [List.length_set] at h
    have z1 : j ≤ 10000 := by omega
    have c1 : (j : Int) < (x.length : Int) := by omega
    have c2 : (0 : Int) ≤ (j : Int) := by omega
    have hm : mn (j : Int) ((K : Int) + 1) = ((min j (K + 1) : Nat) : Int) := by
      unfold mn
      split <;> omega
    have hw := w_succ j z1
    refine Ev.step (fun k => ?_) h
    simp only [band_Within.l0, hw, hm, Int.toNat_natCast]
    rw [if_pos c1, if_pos c2, if_pos c1]

/-- What Within comes to, at any bound. -/
def near (a b : List Int) (k : Int) : Int × Bool := if (lev a b : Int) ≤ k then ((lev a b : Int), true) else (0, false)

theorem near_told (a b : List Int) (k : Int) (K : Nat) (h1 : (K : Int) ≤ k) (h2 : (K : Int) = k ∨ (K : Int) = a.length + b.length) : near a b k = told a b K := by
  have g3 := lev_le_max a b
  unfold near told
  by_cases h : lev a b ≤ K
  · rw [if_pos (by omega), if_pos h]
  · rw [if_neg (by omega), if_neg h]
theorem near_far (a b : List Int) (k : Int) (h : k < 0 ∨ (a.length : Int) - (b.length : Int) > k ∨ (b.length : Int) - (a.length : Int) > k) : near a b k = (0, false) := by
  have g1 := lev_ge_left a b
  have g2 := lev_ge_right a b
  unfold near
  rw [if_neg (by omega)]
theorem least (k : Int) (n : Nat) (h : 0 ≤ k) : ∃ K : Nat, mn k (n : Int) = (K : Int) ∧ (K : Int) ≤ k ∧ K ≤ n ∧ ((K : Int) = k ∨ K = n) := by
  refine ⟨(mn k (n : Int)).toNat, ?_⟩
  unfold mn
  split <;> omega

theorem w_sub (m n : Nat) (hm : m ≤ 10000) (hn : n ≤ 10000) : wrap64 ((m : Int) - (n : Int)) = (m : Int) - (n : Int) := wrap_id _ (by omega) (by omega)
theorem w_add (m n : Nat) (hm : m ≤ 10000) (hn : n ≤ 10000) : wrap64 ((m : Int) + (n : Int)) = ((m + n : Nat) : Int) := by rw [wrap_id _ (by omega) (by omega)]; rfl
theorem w_far (K : Nat) (hK : K ≤ 10000) : wrap64 ((K : Int) + 1) = (K : Int) + 1 := wrap_id _ (by omega) (by omega)

theorem Within_ev (a b : List Int) (k : Int) (ha : a.length ≤ 1000) (hb : b.length ≤ 1000) : Ev (fun n => band_Within.f n a b k) (near a b k) := by
  have za : a.length ≤ 10000 := by omega
  have zb : b.length ≤ 10000 := by omega
  by_cases hout : k < 0 ∨ (a.length : Int) - (b.length : Int) > k ∨ (b.length : Int) - (a.length : Int) > k
  · rw [near_far a b k hout]
    refine Ev.congr (f := fun n => band_Within.j0 n a b k true) (fun n => ?_) (Ev.step (f := fun _ => some (0, false)) (fun n => by simp only [band_Within.j0, if_true]) (Ev.now _))
    simp only [band_Within.f, w_sub _ _ za zb, w_sub _ _ zb za]
    by_cases h0 : k < 0
    · rw [if_pos h0]
    · rw [if_neg h0]
      by_cases h1 : (a.length : Int) - (b.length : Int) > k
      · rw [if_pos h1]
      · rw [if_neg h1, decide_eq_true (by omega)]
  · obtain ⟨K, hKe, k1, k2, k3⟩ := least k (a.length + b.length) (by omega)
    have hn := near_told a b k K k1 (by omega)
    have h := band_l0 a b K ha hb (by omega) (by omega) (b.length + 1) 0 (List.replicate (b.length + 1) 0) (by omega) rfl (by simp) (fun q hq => by omega)
    have e0 : ((0 : Nat) : Int) = 0 := rfl
    rw [e0, ← hn] at h
    have zK : K ≤ 10000 := by omega
    have c1 : ¬ k < 0 := by omega
    have c2 : ¬ (a.length : Int) - (b.length : Int) > k := by omega
    have c3 : ¬ (b.length : Int) - (a.length : Int) > k := by omega
    have c4 : (0 : Int) ≤ ((b.length + 1 : Nat) : Int) := by omega
    have c5 : b.length + 1 ≤ 35184372088832 := by omega
    refine Ev.congr (f := fun n => band_Within.j0 n a b k false) (fun n => ?_) (Ev.step (fun n => ?_) h)
    · simp only [band_Within.f, w_sub _ _ za zb, w_sub _ _ zb za]
      rw [if_neg c1, if_neg c2, decide_eq_false c3]
    · simp only [band_Within.j0, w_add _ _ za zb, hKe, w_far K zK, w_succ _ zb, Bool.false_eq_true, if_false, Int.toNat_natCast, Option.bind_some]
      rw [if_pos c4, if_pos c5]

theorem awake6_some : inkhornlaw6_awake.f 40 = some true := by decide +kernel
theorem awake6_ev : Ev (fun k => (inkhornlaw6_awake.f k).bind fun t => some t) true := Ev.bind (Ev.of inkhornlaw6_awake.mono awake6_some) (Ev.now _)
end Go.Proofs.Ytlbddbbmomjljaa.Pure
