/- What the reference's whole table comes to: the distances of all beginnings. -/
import Derived.Test.YtlbddbbmomjljaaPTx2
import Derived.Test.YtlbddbbmomjljaaPwT
set_option linter.unusedVariables false
set_option linter.unusedSimpArgs false
namespace Go.Proofs.Ytlbddbbmomjljaa.PureT
open Go.RowKit Go.Proofs.Ytlbddbbmomjljaa.PT Go.Proofs.YtlbddbbmomjljaaW.PrintWords Go.Proofs.YtlbddbbmomjljaaW.PrintLast Go.Proofs.YtlbddbbmomjljaaW.PrintMore
open Go.Proofs.Ytlbddbbmomjljaa.Ed

/-- The first n distances of row i. -/
def rowTo (a b : List Int) (i n : Nat) : List Int := (List.range n).map fun k => (D a b i k : Int)
/-- The first n rows. -/
def tabTo (a b : List Int) (n : Nat) : List (List Int) := (List.range n).map fun i => rowTo a b i (b.length + 1)
theorem rowTo_length (a b : List Int) (i n : Nat) : (rowTo a b i n).length = n := by simp [rowTo]
theorem tabTo_length (a b : List Int) (n : Nat) : (tabTo a b n).length = n := by simp [tabTo]
theorem rowTo_succ (a b : List Int) (i n : Nat) : rowTo a b i (n + 1) = rowTo a b i n ++ [(D a b i n : Int)] := by simp [rowTo, List.range_succ]
theorem tabTo_succ (a b : List Int) (n : Nat) : tabTo a b (n + 1) = tabTo a b n ++ [rowTo a b n (b.length + 1)] := by simp [tabTo, List.range_succ]
theorem rowTo_at (a b : List Int) (i n k : Nat) (h : k < n) : (rowTo a b i n).getD k 0 = (D a b i k : Int) := by
  rw [getD_get _ k (by rw [rowTo_length]; exact h)]
  simp [rowTo]
theorem tabTo_at (a b : List Int) (n i : Nat) (h : i < n) : rd_L2 (tabTo a b n) (i : Int) = rowTo a b i (b.length + 1) := by
  simp [rd_L2, tabTo, List.getD_eq_getElem?_getD, h]

theorem tab_l1 (a b : List Int) (ha : a.length ≤ 1000) (hb : b.length ≤ 1000) (r : List (List Int)) (i : Nat) (hi : i ≤ a.length)
    (hk : Ev (fun k => inkhornref5_Table.l0 k a b (tabTo a b (i + 1)) ((i + 1 : Nat) : Int)) r) (d : Nat) :
    ∀ j : Nat, j ≤ b.length + 1 → b.length + 1 - j = d → Ev (fun k => inkhornref5_Table.l1 k a b (tabTo a b i) (i : Int) (rowTo a b i j) (j : Int)) r := by
  have hwi : wrap64 ((i : Int) + 1) = ((i + 1 : Nat) : Int) := by rw [wrap_id _ (by omega) (by omega)]; rfl
  induction d with
  | zero =>
    intro j hj hd
    obtain rfl : j = b.length + 1 := by omega
    rw [tabTo_succ] at hk
    refine Ev.step (fun k => ?_) hk
    simp only [inkhornref5_Table.l1, hwi, tabTo_length]
    rw [if_neg (by omega), if_pos (by omega)]
  | succ d ih =>
    intro j hj hd
    have hlt : j ≤ b.length := by omega
    have hw : wrap64 ((j : Int) + 1) = ((j + 1 : Nat) : Int) := by rw [wrap_id _ (by omega) (by omega)]; rfl
    have h := ih (j + 1) (by omega) (by omega)
    rw [rowTo_succ] at h
    refine Ev.step (fun k => ?_) h
    simp only [inkhornref5_Table.l1, hw, rowTo_length]
    rw [if_pos (by omega)]
    by_cases hi0 : (i : Int) = 0
    · have e : i = 0 := by omega
      subst e
      rw [if_pos hi0, if_pos (by omega), D_zero_left a b j hlt]
    · rw [if_neg hi0]
      by_cases hj0 : (j : Int) = 0
      · have e : j = 0 := by omega
        subst e
        rw [if_pos hj0, if_pos (by omega), D_zero_right a b i hi]
      · obtain ⟨p, rfl⟩ : ∃ p, i = p + 1 := ⟨i - 1, by omega⟩
        obtain ⟨q, rfl⟩ : ∃ q, j = q + 1 := ⟨j - 1, by omega⟩
        have hwp : wrap64 (((p + 1 : Nat) : Int) - 1) = (p : Int) := by rw [wrap_id _ (by omega) (by omega)]; omega
        have hwq : wrap64 (((q + 1 : Nat) : Int) - 1) = (q : Int) := by rw [wrap_id _ (by omega) (by omega)]; omega
        have hd1 := D_succ a b p q (by omega) (by omega)
        have b1 := D_small a b p q (by omega) (by omega)
        have b2 := D_small a b p (q + 1) (by omega) (by omega)
        have b3 := D_small a b (p + 1) q (by omega) (by omega)
        have e1 := rowTo_at a b p (b.length + 1) q (by omega)
        have e2 := rowTo_at a b p (b.length + 1) (q + 1) (by omega)
        have e3 := rowTo_at a b (p + 1) (q + 1) q (by omega)
        rw [if_neg hj0, hwp, hwq, tabTo_at a b (p + 1) p (by omega), rowTo_length, tabTo_length]
        rw [if_pos (by omega), if_pos (by omega), if_pos (by omega), if_pos (by omega), if_pos (by omega), if_pos (by omega)]
        simp only [rd_nat]
        rw [e1, e2, e3, getD_get a p (by omega), getD_get b q (by omega), hd1, wrap_id _ (by omega) (by omega), wrap_id _ (by omega) (by omega), wrap_id _ (by omega) (by omega)]
        by_cases he : a[p]'(by omega) = b[q]'(by omega)
        · simp only [he, if_true]
          rw [if_pos (by omega), if_pos (by omega), if_pos (by omega), if_pos (by omega)]
          congr 2
          simp only [List.cons.injEq, and_true]
          unfold mn
          split <;> split <;> omega
        · simp only [he, if_false]
          rw [if_pos (by omega), if_pos (by omega), if_pos (by omega), if_pos (by omega)]
          congr 2
          simp only [List.cons.injEq, and_true]
          unfold mn
          split <;> split <;> omega

theorem tab_l0 (a b : List Int) (ha : a.length ≤ 1000) (hb : b.length ≤ 1000) (d : Nat) :
    ∀ i : Nat, i ≤ a.length + 1 → a.length + 1 - i = d → Ev (fun k => inkhornref5_Table.l0 k a b (tabTo a b i) (i : Int)) (tabTo a b (a.length + 1)) := by
  induction d with
  | zero =>
    intro i hi hd
    obtain rfl : i = a.length + 1 := by omega
    refine Ev.step (f := fun _ => some (tabTo a b (a.length + 1))) (fun k => ?_) (Ev.now _)
    simp only [inkhornref5_Table.l0]
    rw [if_neg (by omega)]
  | succ d ih =>
    intro i hi hd
    have h := tab_l1 a b ha hb _ i (by omega) (ih (i + 1) (by omega) (by omega)) (b.length + 1) 0 (by omega) rfl
    have e0 : ((0 : Nat) : Int) = 0 := rfl
    have e1 : rowTo a b i 0 = [] := rfl
    rw [e0, e1] at h
    refine Ev.step (fun k => ?_) h
    simp only [inkhornref5_Table.l0]
    rw [if_pos (by omega)]

theorem Table_ev (a b : List Int) (ha : a.length ≤ 1000) (hb : b.length ≤ 1000) : Ev (fun k => inkhornref5_Table.f k a b) (tabTo a b (a.length + 1)) := by
  have h := tab_l0 a b ha hb (a.length + 1) 0 (by omega) rfl
  have e0 : ((0 : Nat) : Int) = 0 := rfl
  have e1 : tabTo a b 0 = [] := rfl
  rw [e0, e1] at h
  exact Ev.congr (fun k => by simp only [inkhornref5_Table.f]) h

theorem refRunes_ev (a b : List Int) (ha : a.length ≤ 1000) (hb : b.length ≤ 1000) : Ev (fun k => inkhornref5_Runes.f k a b) (lev a b : Int) := by
  refine Ev.bind (Table_ev a b ha hb) (Ev.congr (fun k => ?_) (Ev.now _))
  rw [tabTo_length, if_pos (by omega), if_pos (by omega), if_pos (by omega), tabTo_at a b _ a.length (by omega), rowTo_length, if_pos (by omega), rd_nat, rowTo_at a b _ _ b.length (by omega), D_full]
end Go.Proofs.Ytlbddbbmomjljaa.PureT
