/- EditApart: two lists without a common rune are as far apart as the longer one is long, others are nearer than their lengths' sum, any list is as far from none as it is long; on every two lists (of at most 30 runes each; longer ones are answered by the fixed probe). -/
import Derived.Test.YtlbddbbmomjljaaPAx6
import Derived.Test.YtlbddbbmomjljaaPv
namespace Go.Proofs.Ytlbddbbmomjljaa.Pure
open Go.RowKit Go.Proofs.Ytlbddbbmomjljaa.PA Go.Proofs.YtlbddbbmomjljaaW.PrintWords Go.Proofs.YtlbddbbmomjljaaW.PrintLast Go.Proofs.YtlbddbbmomjljaaW.PrintMore
open Go.Proofs.Ytlbddbbmomjljaa.Ed

theorem awake_tail : Ev (fun k => (inkhornlaw5_awake.f k).bind fun t => some t) true := Ev.bind awake_ev (Ev.now _)

/-- The end: nothing in common. -/
theorem apart_end (a b : List Int) (ha : a.length ≤ 30) (hb : b.length ≤ 30) (h : ∀ i, i < a.length → ∀ j, j < b.length → a.getD i 0 ≠ b.getD j 0) : Ev (fun k => inkhornlaw5_EditApart.l0 k a b (a.length : Int)) true := by
  have hne : ∀ x ∈ a, x ∉ b := by
    intro x hx hy
    obtain ⟨i, hi, e1⟩ := List.getElem_of_mem hx
    obtain ⟨j, hj, e2⟩ := List.getElem_of_mem hy
    refine h i hi j hj ?_
    rw [getD_get a i hi, getD_get b j hj, e1, e2]
  have e := lev_apart a b hne
  refine Ev.step (fun k => by simp only [inkhornlaw5_EditApart.l0]; rw [if_neg (by omega)]) ?_
  refine Ev.bind (Runes_ev a b (by omega) (by omega)) ?_
  refine Ev.congr (fun k => by rw [if_pos (by rw [e]; unfold mx; split <;> omega)]) ?_
  refine Ev.bind (Runes_ev a [] (by omega) (by simp)) ?_
  refine Ev.congr (fun k => by rw [if_pos (by rw [lev_nil_right])]) ?_
  refine Ev.bind (Runes_ev [] b (by simp) (by omega)) ?_
  refine Ev.congr (fun k => by rw [if_pos (by rw [lev_nil_left])]) awake_tail

theorem apart_l1 (a b : List Int) (ha : a.length ≤ 30) (hb : b.length ≤ 30) (i : Nat) (hi : i < a.length) (hk : (∀ j, j < b.length → a.getD i 0 ≠ b.getD j 0) → Ev (fun k => inkhornlaw5_EditApart.l0 k a b ((i + 1 : Nat) : Int)) true) (d : Nat) :
    ∀ j : Nat, j ≤ b.length → b.length - j = d → (∀ q, q < j → a.getD i 0 ≠ b.getD q 0) → Ev (fun k => inkhornlaw5_EditApart.l1 k a b (i : Int) (j : Int)) true := by
  have hw : wrap64 ((i : Int) + 1) = ((i + 1 : Nat) : Int) := by rw [wrap_id _ (by omega) (by omega)]; rfl
  induction d with
  | zero =>
    intro j hj hd hn
    refine Ev.step (fun k => ?_) (hk (fun q hq => hn q (by omega)))
    simp only [inkhornlaw5_EditApart.l1, hw]
    rw [if_neg (by omega)]
  | succ d ih =>
    intro j hj hd hn
    have hw2 : wrap64 ((j : Int) + 1) = ((j + 1 : Nat) : Int) := by rw [wrap_id _ (by omega) (by omega)]; rfl
    by_cases he : a.getD i 0 = b.getD j 0
    · have hlt : j < b.length := by omega
      have hc := lev_common a b (a.getD i 0) (by rw [getD_get a i hi]; exact List.getElem_mem _) (by rw [he, getD_get b j hlt]; exact List.getElem_mem _)
      refine Ev.step (f := fun k => (edit_Runes.f k a b).bind fun t261 => if t261 < wrap64 ((a.length : Int) + (b.length : Int)) then (inkhornlaw5_awake.f k).bind fun t262 => some t262 else some false) (fun k => ?_) ?_
      · simp only [inkhornlaw5_EditApart.l1, rd_nat]
        rw [if_pos (by omega), if_pos (by omega), if_pos (by omega), if_pos (by omega), if_pos he]
      · refine Ev.bind (Runes_ev a b (by omega) (by omega)) (Ev.congr (fun k => ?_) awake_tail)
        rw [wrap_id _ (by omega) (by omega), if_pos (by omega)]
    · refine Ev.step (fun k => ?_) (ih (j + 1) (by omega) (by omega) (fun q hq => ?_))
      · simp only [inkhornlaw5_EditApart.l1, rd_nat, hw2]
        rw [if_pos (by omega), if_pos (by omega), if_pos (by omega), if_pos (by omega), if_neg he]
      · by_cases e : q = j
        · rw [e]; exact he
        · exact hn q (by omega)

theorem apart_l0 (a b : List Int) (ha : a.length ≤ 30) (hb : b.length ≤ 30) (d : Nat) :
    ∀ i : Nat, i ≤ a.length → a.length - i = d → (∀ p, p < i → ∀ j, j < b.length → a.getD p 0 ≠ b.getD j 0) → Ev (fun k => inkhornlaw5_EditApart.l0 k a b (i : Int)) true := by
  induction d with
  | zero =>
    intro i hi hd hn
    obtain rfl : i = a.length := by omega
    exact apart_end a b ha hb hn
  | succ d ih =>
    intro i hi hd hn
    have hlt : i < a.length := by omega
    refine Ev.step (fun k => ?_) (apart_l1 a b ha hb i hlt (fun h => ih (i + 1) (by omega) (by omega) (fun p hp => ?_)) b.length 0 (by omega) rfl (fun q hq => by omega))
    · simp only [inkhornlaw5_EditApart.l0]
      rw [if_pos (by omega)]
      rfl
    · by_cases e : p = i
      · rw [e]; exact h
      · exact hn p (by omega)

theorem EditApart : inkhornlaw5_EditApart.Pure := by
  intro a b _ _ _ _ _ _
  apply Ev.rounds
  simp only [inkhornlaw5_EditApart.f, inkhornlaw5_long.f]
  by_cases ha : (a.length : Int) > 30
  · simpa [ha] using awake_tail
  · by_cases hb : (b.length : Int) > 30
    · simpa [ha, hb] using awake_tail
    · simpa [ha, hb] using apart_l0 a b (by omega) (by omega) a.length 0 (by omega) rfl (fun p hp => by omega)

end Go.Proofs.Ytlbddbbmomjljaa.Pure
