/- EditMetric: the distance is 0 of like lists alone, the same both ways, at most the sum by way of a third one, at least how much the lengths part, at most the greater length; on every three lists (of at most 30 runes each; longer ones are answered by the fixed probe). -/
import Derived.Test.YtlbddbbmomjljaaPAx4
import Derived.Test.YtlbddbbmomjljaaPv
namespace Go.Proofs.Ytlbddbbmomjljaa.Pure
open Go.RowKit Go.Proofs.Ytlbddbbmomjljaa.PA Go.Proofs.YtlbddbbmomjljaaW.PrintWords Go.Proofs.YtlbddbbmomjljaaW.PrintLast Go.Proofs.YtlbddbbmomjljaaW.PrintMore
open Go.Proofs.Ytlbddbbmomjljaa.Ed

theorem SameRunes_l0 (k : Nat) : ∀ (x y : List Int) (i : Int), inkhornlaw0_SameRunes.l0 k x y i = inkhornlaw0_SameInts.l0 k x y i := by
  induction k with
  | zero => intro x y i; rfl
  | succ k ih =>
    intro x y i
    simp only [inkhornlaw0_SameRunes.l0, inkhornlaw0_SameInts.l0, ih]
theorem SameRunes_ev (x y : List Int) (hx : x.length ≤ 1000) : Ev (fun k => inkhornlaw0_SameRunes.f k x y) (decide (x = y)) := by
  refine Ev.congr (fun k => ?_) (SameInts_ev x y hx)
  simp only [inkhornlaw0_SameRunes.f, inkhornlaw0_SameInts.f, SameRunes_l0]

theorem metric_ev (a b c : List Int) (ha : a.length ≤ 30) (hb : b.length ≤ 30) (hc : c.length ≤ 30) : Ev (fun k => inkhornlaw5_EditMetric.j0 k a b c false) true := by
  refine Ev.step (fun k => by simp only [inkhornlaw5_EditMetric.j0]; rw [if_neg (by simp)]) ?_
  refine Ev.bind (Runes_ev a b (by omega) (by omega)) ?_
  refine Ev.bind (Runes_ev b c (by omega) (by omega)) ?_
  refine Ev.bind (Runes_ev a c (by omega) (by omega)) ?_
  refine Ev.bind (SameRunes_ev a b (by omega)) ?_
  have h0 : (((lev a b : Int) == 0) == decide (a = b)) = true := by
    have h := lev_zero_iff a b
    by_cases e : a = b
    · simp [e, lev_self]
    · have : lev a b ≠ 0 := fun z => e (h.1 z)
      simp [e, this]
  have h1 := lev_triangle a b c
  have h2 := lev_ge_left a b
  have h3 := lev_ge_right a b
  have h4 := lev_le_max a b
  have h5 := lev_le_max b c
  refine Ev.congr (fun k => by rw [if_pos h0]) ?_
  refine Ev.bind (Runes_ev b a (by omega) (by omega)) ?_
  refine Ev.congr (f := fun k => (inkhornlaw5_awake.f k).bind fun t224 => some t224) (fun k => ?_) (Ev.bind awake_ev (Ev.now _))
  rw [if_pos (by rw [lev_comm]), wrap_id _ (by omega) (by omega), wrap_id _ (by omega) (by omega), wrap_id _ (by omega) (by omega), if_pos (by omega), if_pos (by unfold mx; split <;> omega), if_pos (by unfold mx; split <;> omega)]

theorem EditMetric : inkhornlaw5_EditMetric.Pure := by
  intro a b c _ _ _ _ _ _ _ _ _
  apply Ev.rounds
  simp only [inkhornlaw5_EditMetric.f, inkhornlaw5_long.f]
  have hlong : Ev (fun k => inkhornlaw5_EditMetric.j0 k a b c true) true :=
    Ev.step (f := fun k => (inkhornlaw5_awake.f k).bind fun t218 => some t218) (fun k => by simp only [inkhornlaw5_EditMetric.j0, if_true]) (Ev.bind awake_ev (Ev.now _))
  by_cases ha : (a.length : Int) > 30
  · simpa [ha] using hlong
  · by_cases hb : (b.length : Int) > 30
    · simpa [ha, hb] using hlong
    · by_cases hc : (c.length : Int) > 30
      · simpa [ha, hb, hc] using hlong
      · simpa [ha, hb, hc] using metric_ev a b c (by omega) (by omega) (by omega)

end Go.Proofs.Ytlbddbbmomjljaa.Pure
