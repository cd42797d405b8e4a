/- EditRows: the rows go from the second text's length on, by one at most from one to the next, to the distance, and each is the distance of a beginning; on every two lists (of at most 30 runes each; longer ones are answered by the fixed probe). -/
import Derived.Test.YtlbddbbmomjljaaPAx5
import Derived.Test.YtlbddbbmomjljaaPv
namespace Go.Proofs.Ytlbddbbmomjljaa.Pure
open Go.RowKit Go.Proofs.Ytlbddbbmomjljaa.PA Go.Proofs.YtlbddbbmomjljaaW.PrintWords Go.Proofs.YtlbddbbmomjljaaW.PrintLast Go.Proofs.YtlbddbbmomjljaaW.PrintMore
open Go.Proofs.Ytlbddbbmomjljaa.Ed

theorem colList_length (a b : List Int) : (colList a b).length = a.length + 1 := by simp [colList]
theorem colList_at (a b : List Int) (i : Nat) (hi : i ≤ a.length) : (colList a b).getD i 0 = (lev (a.take i) b : Int) := by
  rw [getD_get _ i (by rw [colList_length]; omega)]
  simp [colList, D, List.take_length]

theorem rows_l (a b : List Int) (ha : a.length ≤ 30) (hb : b.length ≤ 30) (d : Nat) : ∀ i : Nat, i ≤ a.length + 1 → a.length + 1 - i = d → Ev (fun k => inkhornlaw5_EditRows.l0 k a b (colList a b) (i : Int)) true := by
  induction d with
  | zero =>
    intro i hi hd
    refine Ev.step (f := fun k => (inkhornlaw5_awake.f k).bind fun t256 => some t256) (fun k => ?_) (Ev.bind awake_ev (Ev.now _))
    simp only [inkhornlaw5_EditRows.l0, colList_length]
    rw [if_neg (by omega)]
  | succ d ih =>
    intro i hi hd
    have hlt : i ≤ a.length := by omega
    have hw : wrap64 ((i : Int) + 1) = ((i + 1 : Nat) : Int) := by rw [wrap_id _ (by omega) (by omega)]; rfl
    have hnext := ih (i + 1) (by omega) (by omega)
    have hx := colList_at a b i hlt
    have hlen : (a.take i).length ≤ 30 := by rw [List.length_take]; omega
    have hm := lev_le_max (a.take i) b
    refine Ev.step (f := fun k => (edit_Runes.f k (a.take i) b).bind fun t251 => if rd (colList a b) (i : Int) = t251 then inkhornlaw5_EditRows.l0 k a b (colList a b) ((i + 1 : Nat) : Int) else some false) (fun k => ?_) ?_
    · simp only [inkhornlaw5_EditRows.l0, colList_length, hw, Int.toNat_natCast]
      rw [if_pos (by omega), if_pos (by omega), if_pos (by omega)]
      congr 1
      funext t
      by_cases ht : rd (colList a b) (i : Int) = t
      case neg => rw [if_neg ht, if_neg ht]
      rw [if_pos ht, if_pos ht]
      by_cases h0 : (i : Int) > 0
      · have hw2 : wrap64 ((i : Int) - 1) = ((i - 1 : Nat) : Int) := by rw [wrap_id _ (by omega) (by omega)]; omega
        have hy := colList_at a b (i - 1) (by omega)
        have hs := D_step a b (i - 1) b.length
        have hm2 := lev_le_max (a.take (i - 1)) b
        have hlen2 : (a.take (i - 1)).length ≤ 30 := by rw [List.length_take]; omega
        unfold D at hs
        rw [List.take_length, Nat.sub_add_cancel (by omega)] at hs
        rw [if_pos h0, hw2, if_pos (by omega), if_pos (by omega), rd_nat, rd_nat, hx, hy, wrap_id _ (by omega) (by omega), wrap_id _ (by omega) (by omega), if_neg (by omega), if_neg (by omega)]
      · rw [if_neg h0]
    · refine Ev.bind (Runes_ev (a.take i) b (by omega) (by omega)) (Ev.congr (fun k => ?_) hnext)
      rw [rd_nat, hx, if_pos rfl]

theorem rows_j0 (a b : List Int) (ha : a.length ≤ 30) (hb : b.length ≤ 30) : Ev (fun k => inkhornlaw5_EditRows.j0 k a b (colList a b) false) true := by
  have h := rows_l a b ha hb (a.length + 1) 0 (by omega) rfl
  have e0 : ((0 : Nat) : Int) = 0 := rfl
  rw [e0] at h
  refine Ev.step (fun k => ?_) h
  simp only [inkhornlaw5_EditRows.j0, Bool.false_eq_true, if_false]

theorem rows_main (a b : List Int) (ha : a.length ≤ 30) (hb : b.length ≤ 30) : Ev (fun k => (edit_Runes.f k a b).bind fun t248 => inkhornlaw5_EditRows.j0 k a b (colList a b) ((rd (colList a b) (a.length : Int)) != t248)) true := by
  refine Ev.bind (Runes_ev a b (by omega) (by omega)) ?_
  have h1 := colList_at a b a.length (Nat.le_refl _)
  rw [List.take_length] at h1
  refine Ev.congr (fun k => ?_) (rows_j0 a b ha hb)
  rw [rd_nat, h1, bne_self_eq_false]

theorem rows_f (a b : List Int) (ha : a.length ≤ 30) (hb : b.length ≤ 30) (k : Nat) : inkhornlaw5_EditRows.f k a b = (edit_Rows.f k a b).bind fun t243 => (if (t243.length : Int) = (wrap64 ((a.length : Int) + 1)) then (if 0 < (t243.length : Int) then (if (rd t243 0) = (b.length : Int) then (if 0 ≤ (a.length : Int) then (if (a.length : Int) < (t243.length : Int) then ((edit_Runes.f k a b).bind fun t248 => (inkhornlaw5_EditRows.j0 k a b t243 ((rd t243 (a.length : Int)) != t248))) else (none)) else (none)) else (inkhornlaw5_EditRows.j0 k a b t243 true)) else (none)) else (inkhornlaw5_EditRows.j0 k a b t243 true)) := by
  unfold inkhornlaw5_EditRows.f inkhornlaw5_long.f
  rw [if_neg (by omega), decide_eq_false (by omega : ¬ (b.length : Int) > 30), Option.bind_some, if_neg (by simp)]

theorem rows_short (a b : List Int) (ha : a.length ≤ 30) (hb : b.length ≤ 30) : Ev (fun k => inkhornlaw5_EditRows.f k a b) true := by
  refine Ev.congr (rows_f a b ha hb) ?_
  refine Ev.bind (Rows_ev a b (by omega) (by omega)) ?_
  have h0 := colList_at a b 0 (by omega)
  rw [List.take_zero, lev_nil_left] at h0
  refine Ev.congr (fun k => ?_) (rows_main a b ha hb)
  rw [colList_length, wrap_id _ (by omega) (by omega), if_pos (by omega), if_pos (by omega), rd_zero, h0, if_pos rfl, if_pos (by omega), if_pos (by omega)]

theorem rows_long (a b : List Int) (h : (a.length : Int) > 30 ∨ (b.length : Int) > 30) : Ev (fun k => inkhornlaw5_EditRows.f k a b) true := by
  have e : inkhornlaw5_long.f a b = some true := by
    unfold inkhornlaw5_long.f
    rcases h with h | h
    · rw [if_pos h]
    · rw [decide_eq_true h]
      split <;> rfl
  refine Ev.congr (f := fun k => (inkhornlaw5_awake.f k).bind fun t242 => some t242) (fun k => ?_) (Ev.bind awake_ev (Ev.now _))
  unfold inkhornlaw5_EditRows.f
  rw [e, Option.bind_some, if_pos rfl]

theorem EditRows : inkhornlaw5_EditRows.Pure := by
  intro a b _ _ _ _ _ _
  apply Ev.rounds
  by_cases h : (a.length : Int) > 30 ∨ (b.length : Int) > 30
  · exact rows_long a b h
  · exact rows_short a b (by omega) (by omega)

end Go.Proofs.Ytlbddbbmomjljaa.Pure
