/- EditTexts: the distance of two texts is the document's own, on every two texts (of at most 100 bytes each; longer ones are answered by the fixed probe). -/
import Derived.Test.YtlbddbbmomjljaaPAx4
import Derived.Test.YtlbddbbmomjljaaPs
namespace Go.Proofs.Ytlbddbbmomjljaa.Pure
open Go.RowKit Go.Proofs.Ytlbddbbmomjljaa.PA Go.Proofs.YtlbddbbmomjljaaW.PrintWords Go.Proofs.YtlbddbbmomjljaaW.PrintLast Go.Proofs.YtlbddbbmomjljaaW.PrintMore

theorem EditTexts : inkhornlaw5_EditTexts.Pure := by
  intro s t _ _
  apply Ev.rounds
  simp only [inkhornlaw5_EditTexts.f]
  have hlong : Ev (fun k => inkhornlaw5_EditTexts.j0 k s t true) true :=
    Ev.step (f := fun k => (inkhornlaw5_awake.f k).bind fun t => some t) (fun k => by simp only [inkhornlaw5_EditTexts.j0, if_true]) (Ev.bind awake_ev (Ev.now _))
  by_cases hs : (s.size : Int) > 100
  · simpa [hs] using hlong
  · by_cases ht : (t.size : Int) > 100
    · simpa [hs, ht] using hlong
    · rw [decide_eq_false ht]
      simp only [hs, if_false]
      obtain ⟨p, q, _, _, _, _, e1, e2⟩ := Distance_ev s t (by omega) (by omega)
      refine Ev.step (fun k => by simp only [inkhornlaw5_EditTexts.j0, Bool.false_eq_true, if_false]; rfl) ?_
      refine Ev.bind e1 (Ev.bind e2 (Ev.congr (fun k => by rw [if_pos rfl]) (Ev.bind awake_ev (Ev.now _))))

end Go.Proofs.Ytlbddbbmomjljaa.Pure
