/- BandTells: whether two lists of runes are near, and how near, is the document's own answer at every bound; on every two lists (of at most 30 runes each; longer ones are answered by the fixed probe). -/
import Derived.Test.YtlbddbbmomjljaaPb
import Derived.Test.YtlbddbbmomjljaaPt
namespace Go.Proofs.Ytlbddbbmomjljaa.Pure
open Go.RowKit Go.Proofs.Ytlbddbbmomjljaa.PA Go.Proofs.YtlbddbbmomjljaaW.PrintWords Go.Proofs.YtlbddbbmomjljaaW.PrintLast Go.Proofs.YtlbddbbmomjljaaW.PrintMore
open Go.Proofs.Ytlbddbbmomjljaa.Ed

theorem tells_ev (a b : List Int) (k : Int) (ha : a.length ≤ 30) (hb : b.length ≤ 30) : Ev (fun n => inkhornlaw6_BandTells.j0 n a b k false) true := by
  refine Ev.step (fun n => by simp only [inkhornlaw6_BandTells.j0, Bool.false_eq_true, if_false]; rfl) ?_
  refine Ev.bind (refRunes_ev a b (by omega) (by omega)) (Ev.bind (Within_ev a b k (by omega) (by omega)) (Ev.congr (fun n => ?_) awake6_ev))
  unfold near
  by_cases h : (lev a b : Int) ≤ k
  · rw [if_pos h, if_neg (by omega), if_pos rfl, if_pos rfl]
  · rw [if_neg h, if_pos (by omega), if_pos rfl, if_neg (by simp)]

theorem BandTells : inkhornlaw6_BandTells.Pure := by
  intro a b k _ _ _ _ _ _ _
  apply Ev.rounds
  simp only [inkhornlaw6_BandTells.f]
  have hlong : Ev (fun n => inkhornlaw6_BandTells.j0 n a b k true) true :=
    Ev.step (f := fun n => (inkhornlaw6_awake.f n).bind fun t => some t) (fun n => by simp only [inkhornlaw6_BandTells.j0, if_true]) awake6_ev
  by_cases ha : (a.length : Int) > 30
  · simpa [ha] using hlong
  · by_cases hb : (b.length : Int) > 30
    · simpa [ha, hb] using hlong
    · simpa [ha, hb] using tells_ev a b k (by omega) (by omega)

end Go.Proofs.Ytlbddbbmomjljaa.Pure
