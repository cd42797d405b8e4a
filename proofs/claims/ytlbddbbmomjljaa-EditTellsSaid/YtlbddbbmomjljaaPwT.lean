/- What the printed functions of package edit come to: rows tells the table's last column, Runes the distance. -/
import Derived.Test.YtlbddbbmomjljaaPTx1
import Derived.Test.YtlbddbbmomjljaaEd
set_option linter.unusedVariables false
set_option linter.unusedSimpArgs false
namespace Go.Proofs.Ytlbddbbmomjljaa.PureT
open Go.RowKit Go.Proofs.Ytlbddbbmomjljaa.PT Go.Proofs.YtlbddbbmomjljaaW.PrintWords Go.Proofs.YtlbddbbmomjljaaW.PrintLast Go.Proofs.YtlbddbbmomjljaaW.PrintMore
open Go.Proofs.Ytlbddbbmomjljaa.Ed

theorem wrap_id (x : Int) (h0 : -1000000 ≤ x) (h1 : x ≤ 1000000) : wrap64 x = x := by unfold wrap64; omega
theorem rd_nat (xs : List Int) (i : Nat) : rd xs (i : Int) = xs.getD i 0 := by simp [rd]
theorem rd_zero (xs : List Int) : rd xs 0 = xs.getD 0 0 := rfl
theorem getD_get (xs : List Int) (i : Nat) (h : i < xs.length) : xs.getD i 0 = xs[i] := by simp [List.getD_eq_getElem?_getD, List.getElem?_eq_getElem h]
theorem getD_set (xs : List Int) (i j : Nat) (v : Int) (h : i < xs.length) : (xs.set i v).getD j 0 = if j = i then v else xs.getD j 0 := by
  simp only [List.getD_eq_getElem?_getD, List.getElem?_set]
  by_cases e : i = j
  · subst e
    simp [h]
  · simp [e, Ne.symm e]

/-- Midway: up to i the column is m + 1, behind it m. -/
def Mid (a b : List Int) (m i : Nat) (x : List Int) : Prop := x.length = a.length + 1 ∧ ∀ j, j ≤ a.length → x.getD j 0 = if j ≤ i then (D a b j (m + 1) : Int) else (D a b j m : Int)
def Col (a b : List Int) (m : Nat) (x : List Int) : Prop := x.length = a.length + 1 ∧ ∀ j, j ≤ a.length → x.getD j 0 = (D a b j m : Int)

theorem D_small (a b : List Int) (i k : Nat) (hi : i ≤ 1000) (hk : k ≤ 1000) : (D a b i k : Int) ≤ 1000 := by
  have := D_le a b i k
  omega

/-- One round of the inmost loop. -/
theorem rows_round (a b x : List Int) (m i : Nat) (ha : a.length ≤ 1000) (hb : b.length ≤ 1000) (hm : m < b.length) (hi : i < a.length) (hx : Mid a b m i x) :
    Mid a b m (i + 1) (x.set (i + 1) (mn (mn (wrap64 (x.getD (i + 1) 0 + 1)) (wrap64 (x.getD i 0 + 1))) (if a.getD i 0 = b.getD m 0 then (D a b i m : Int) else wrap64 ((D a b i m : Int) + 1)))) := by
  obtain ⟨hl, hv⟩ := hx
  have e1 := hv (i + 1) (by omega)
  have e2 := hv i (by omega)
  rw [if_neg (by omega)] at e1
  rw [if_pos (by omega)] at e2
  have hd := D_succ a b i m hi hm
  have b1 := D_small a b (i + 1) m (by omega) (by omega)
  have b2 := D_small a b i (m + 1) (by omega) (by omega)
  have b3 := D_small a b i m (by omega) (by omega)
  refine ⟨by rw [List.length_set]; exact hl, fun j hj => ?_⟩
  rw [getD_set _ _ _ _ (by omega), e1, e2, getD_get a i hi, getD_get b m hm, wrap_id _ (by omega) (by omega), wrap_id _ (by omega) (by omega), wrap_id _ (by omega) (by omega)]
  by_cases hj1 : j = i + 1
  · subst hj1
    rw [if_pos rfl, if_pos (Nat.le_refl _), hd]
    unfold mn
    by_cases he : a[i] = b[m]
    · simp only [he, if_true]
      split <;> split <;> omega
    · simp only [he, if_false]
      split <;> split <;> omega
  · rw [if_neg hj1, hv j hj]
    by_cases h1 : j ≤ i
    · rw [if_pos h1, if_pos (by omega)]
    · rw [if_neg h1, if_neg (by omega)]

/-- The inmost loop: what follows it decides. -/
theorem rows_l2 (a b : List Int) (m : Nat) (ha : a.length ≤ 1000) (hb : b.length ≤ 1000) (hm : m < b.length) (Post : List Int → Prop)
    (hk : ∀ x, Col a b (m + 1) x → ∃ r, Ev (fun k => edit_rows.l1 k a x b (b.length : Int) ((m : Int) + 1)) r ∧ Post r) (d : Nat) :
    ∀ (i : Nat) (x : List Int), i ≤ a.length → a.length - i = d → Mid a b m i x → ∃ r, Ev (fun k => edit_rows.l2 k a x (b.getD m 0) (D a b i m : Int) b (b.length : Int) (m : Int) a (a.length : Int) (i : Int)) r ∧ Post r := by
  induction d with
  | zero =>
    intro i x hi hd hx
    obtain rfl : i = a.length := by omega
    obtain ⟨r, hr, hp⟩ := hk x ⟨hx.1, fun j hj => by rw [hx.2 j hj, if_pos hj]⟩
    refine ⟨r, Ev.step (fun k => ?_) hr, hp⟩
    simp only [edit_rows.l2]
    rw [if_neg (by omega), wrap_id _ (by omega) (by omega)]
  | succ d ih =>
    intro i x hi hd hx
    have hlt : i < a.length := by omega
    obtain ⟨r, hr, hp⟩ := ih (i + 1) _ (by omega) (by omega) (rows_round a b x m i ha hb hm hlt hx)
    refine ⟨r, Ev.step (fun k => ?_) hr, hp⟩
    have hw : wrap64 ((i : Int) + 1) = ((i + 1 : Nat) : Int) := by rw [wrap_id _ (by omega) (by omega)]; rfl
    have e1 := hx.2 (i + 1) (by omega)
    rw [if_neg (by omega)] at e1
    simp only [edit_rows.l2, hw]
    rw [if_pos (by omega), if_pos (by omega), if_pos (by omega)]
    simp only [rd_nat, Int.toNat_natCast]
    by_cases he : a.getD i 0 = b.getD m 0
    · rw [if_pos he, if_pos (by omega), if_pos (by rw [hx.1]; omega), if_pos (by rw [hx.1]; omega), if_pos he, e1]
    · rw [if_neg he, if_pos (by omega), if_pos (by rw [hx.1]; omega), if_pos (by rw [hx.1]; omega), if_neg he, e1]

theorem rows_l1 (a b : List Int) (ha : a.length ≤ 1000) (hb : b.length ≤ 1000) (d : Nat) :
    ∀ (m : Nat) (x : List Int), m ≤ b.length → b.length - m = d → Col a b m x → ∃ r, Ev (fun k => edit_rows.l1 k a x b (b.length : Int) (m : Int)) r ∧ Col a b b.length r := by
  induction d with
  | zero =>
    intro m x hm hd hx
    obtain rfl : m = b.length := by omega
    refine ⟨x, Ev.step (fun k => ?_) (Ev.now x), hx⟩
    simp only [edit_rows.l1]
    rw [if_neg (by omega)]
  | succ d ih =>
    intro m x hm hd hx
    have hlt : m < b.length := by omega
    have e0 := hx.2 0 (by omega)
    have e1 := D_zero_left a b (m + 1) (by omega)
    have hmid : Mid a b m 0 (x.set 0 (((m + 1 : Nat)) : Int)) := by
      refine ⟨by rw [List.length_set]; exact hx.1, fun j hj => ?_⟩
      rw [getD_set _ _ _ _ (by rw [hx.1]; omega)]
      by_cases hj0 : j = 0
      · subst hj0
        rw [if_pos rfl, if_pos (Nat.le_refl _), e1]
      · rw [if_neg hj0, if_neg (by omega), hx.2 j hj]
    obtain ⟨r, hr, hp⟩ := rows_l2 a b m ha hb hlt (Col a b b.length) (fun x hx => ih (m + 1) x (by omega) (by omega) hx) a.length 0 _ (by omega) rfl hmid
    refine ⟨r, Ev.step (fun k => ?_) hr, hp⟩
    have hw : wrap64 ((m : Int) + 1) = ((m + 1 : Nat) : Int) := by rw [wrap_id _ (by omega) (by omega)]; rfl
    simp only [edit_rows.l1, hw]
    rw [if_pos (by omega), if_pos (by omega), if_pos (by omega), if_pos (by rw [hx.1]; omega)]
    simp only [rd_nat, rd_zero, e0]
    rfl

theorem rows_l0 (a b : List Int) (ha : a.length ≤ 1000) (hb : b.length ≤ 1000) (d : Nat) :
    ∀ (i : Nat) (x : List Int), i ≤ a.length + 1 → a.length + 1 - i = d → x.length = a.length + 1 → (∀ j, j < i → x.getD j 0 = (j : Int)) → ∃ r, Ev (fun k => edit_rows.l0 k a b x (x.length : Int) (i : Int)) r ∧ Col a b b.length r := by
  induction d with
  | zero =>
    intro i x hi hd hl hx
    obtain rfl : i = a.length + 1 := by omega
    obtain ⟨r, hr, hp⟩ := rows_l1 a b ha hb b.length 0 x (by omega) rfl ⟨hl, fun j hj => by rw [hx j (by omega), D_zero_right a b j hj]⟩
    refine ⟨r, Ev.step (fun k => ?_) hr, hp⟩
    simp only [edit_rows.l0]
    rw [if_neg (by rw [hl]; omega)]
    rfl
  | succ d ih =>
    intro i x hi hd hl hx
    have hlt : i < a.length + 1 := by omega
    have hl' : (x.set i (i : Int)).length = a.length + 1 := by rw [List.length_set]; exact hl
    obtain ⟨r, hr, hp⟩ := ih (i + 1) (x.set i (i : Int)) (by omega) (by omega) hl' (fun j hj => by
      rw [getD_set _ _ _ _ (by omega)]
      by_cases e : j = i
      · rw [if_pos e, e]
      · rw [if_neg e]
        exact hx j (by omega))
    refine ⟨r, Ev.step (fun k => ?_) hr, hp⟩
    have hw : wrap64 ((i : Int) + 1) = ((i + 1 : Nat) : Int) := by rw [wrap_id _ (by omega) (by omega)]; rfl
    simp only [edit_rows.l0, hw]
    rw [if_pos (by rw [hl]; omega), if_pos (by omega), if_pos (by rw [hl]; omega), List.length_set]
    simp only [Int.toNat_natCast]

/-- rows comes to the table's last column. -/
theorem rows_ev (a b : List Int) (ha : a.length ≤ 1000) (hb : b.length ≤ 1000) : ∃ r, Ev (fun k => edit_rows.f k a b) r ∧ Col a b b.length r := by
  obtain ⟨r, hr, hp⟩ := rows_l0 a b ha hb (a.length + 1) 0 (List.replicate (a.length + 1) 0) (by omega) rfl (by simp) (fun j hj => by omega)
  refine ⟨r, Ev.congr (fun k => ?_) hr, hp⟩
  have hw : wrap64 ((a.length : Int) + 1) = ((a.length + 1 : Nat) : Int) := by rw [wrap_id _ (by omega) (by omega)]; rfl
  simp only [edit_rows.f, hw, Int.toNat_natCast]
  rw [if_pos (by omega), if_pos (by omega)]
  rfl

theorem Runes_ev (a b : List Int) (ha : a.length ≤ 1000) (hb : b.length ≤ 1000) : Ev (fun k => edit_Runes.f k a b) (lev a b : Int) := by
  obtain ⟨r, hr, hl, hp⟩ := rows_ev a b ha hb
  refine Ev.bind hr (Ev.congr (fun k => ?_) (Ev.now _))
  have e := hp a.length (Nat.le_refl _)
  rw [D_full] at e
  rw [if_pos (by omega), if_pos (by rw [hl]; omega), rd_nat, e]

/-- The rows, as a list. -/
def colList (a b : List Int) : List Int := (List.range (a.length + 1)).map fun j => (D a b j b.length : Int)
theorem col_list {a b r : List Int} (h : Col a b b.length r) : r = colList a b := by
  obtain ⟨hl, hv⟩ := h
  apply List.ext_getElem
  · simp [colList, hl]
  · intro i h1 h2
    have e := hv i (by omega)
    rw [getD_get r i h1] at e
    simp [colList, e]
theorem Rows_ev (a b : List Int) (ha : a.length ≤ 1000) (hb : b.length ≤ 1000) : Ev (fun k => edit_Rows.f k a b) (colList a b) := by
  obtain ⟨r, hr, hp⟩ := rows_ev a b ha hb
  refine Ev.bind hr (Ev.congr (fun k => ?_) (Ev.now _))
  simp only [slices_Clone_int_int.f]
  rw [if_pos (by rw [hp.1]; omega), col_list hp]
  rfl
end Go.Proofs.Ytlbddbbmomjljaa.PureT
