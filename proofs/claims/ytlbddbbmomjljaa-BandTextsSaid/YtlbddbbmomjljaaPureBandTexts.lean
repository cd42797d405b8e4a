/- BandTexts: whether two texts are near, and how near, is the document's own answer at every bound; on every two texts (of at most 100 bytes each; longer ones are answered by the fixed probe). -/
import Derived.Test.YtlbddbbmomjljaaPb
import Derived.Test.YtlbddbbmomjljaaPs
namespace Go.Proofs.Ytlbddbbmomjljaa.Pure
open Go.RowKit Go.Proofs.Ytlbddbbmomjljaa.PA Go.Proofs.YtlbddbbmomjljaaW.PrintWords Go.Proofs.YtlbddbbmomjljaaW.PrintLast Go.Proofs.YtlbddbbmomjljaaW.PrintMore
open Go.Proofs.Ytlbddbbmomjljaa.Ed

theorem texts_j1 (d : Int) (x : Int × Bool) (far : Bool) (h : x = if far = true then (0, false) else (d, true)) : Ev (fun n => inkhornlaw6_BandTexts.j1 n d x.1 x.2 far) true := by
  refine Ev.step (f := fun n => (inkhornlaw6_awake.f n).bind fun t => some t) (fun n => ?_) awake6_ev
  subst h
  cases far
  · simp [inkhornlaw6_BandTexts.j1]
  · simp [inkhornlaw6_BandTexts.j1]

theorem Near_ev (s t : ByteArray) (k : Int) (hs : s.size ≤ 100) (ht : t.size ≤ 100) : ∃ d : Int, Ev (fun n => inkhornref5_Distance.f n s t) d ∧ Ev (fun n => band_Near.f n s t k) (if d < 0 ∨ d > k then (0, false) else (d, true)) := by
  obtain ⟨p, q, p1, q1, p3, q3, _, e2⟩ := Distance_ev s t hs ht
  refine ⟨distOf p q, e2, ?_⟩
  refine Ev.congr (f := fun n => if p.2 = true then (if q.2 = true then ((band_Within.f n p.1 q.1 k).bind fun bt306 => some (bt306.1, bt306.2)) else some (0, false)) else some (0, false)) (fun n => ?_) ?_
  · simp only [band_Near.f, p1, q1, Option.bind_some]
  · unfold distOf
    by_cases h1 : p.2 = true
    · simp only [h1, if_true]
      by_cases h2 : q.2 = true
      · simp only [h2, if_true]
        refine Ev.bind (Within_ev p.1 q.1 k (by omega) (by omega)) (Ev.congr (fun n => ?_) (Ev.now _))
        unfold near
        by_cases h : (lev p.1 q.1 : Int) ≤ k
        · rw [if_pos h, if_neg (by omega)]
        · rw [if_neg h, if_pos (by omega)]
      · rw [if_neg h2]
        exact Ev.congr (fun n => by rw [if_neg h2, if_pos (by omega)]) (Ev.now _)
    · rw [if_neg h1]
      exact Ev.congr (fun n => by rw [if_neg h1, if_pos (by omega)]) (Ev.now _)

theorem texts_ev (s t : ByteArray) (k : Int) (hs : s.size ≤ 100) (ht : t.size ≤ 100) : Ev (fun n => inkhornlaw6_BandTexts.j0 n s t k false) true := by
  obtain ⟨d, e1, e2⟩ := Near_ev s t k hs ht
  refine Ev.step (fun n => by simp only [inkhornlaw6_BandTexts.j0, Bool.false_eq_true, if_false]; rfl) ?_
  refine Ev.bind e1 (Ev.bind e2 ?_)
  by_cases h : d < 0
  · refine Ev.congr (fun n => by rw [if_pos h]) (texts_j1 d _ true ?_)
    rw [if_pos (.inl h), if_pos rfl]
  · refine Ev.congr (fun n => by rw [if_neg h]) (texts_j1 d _ (decide (d > k)) ?_)
    by_cases h2 : d > k
    · rw [if_pos (.inr h2), if_pos (decide_eq_true h2)]
    · rw [if_neg (by omega), if_neg (by simpa using h2)]

theorem BandTexts : inkhornlaw6_BandTexts.Pure := by
  intro s t k _ _ _
  apply Ev.rounds
  simp only [inkhornlaw6_BandTexts.f]
  have hlong : Ev (fun n => inkhornlaw6_BandTexts.j0 n s t k true) true :=
    Ev.step (f := fun n => (inkhornlaw6_awake.f n).bind fun t => some t) (fun n => by simp only [inkhornlaw6_BandTexts.j0, if_true]) awake6_ev
  by_cases ha : (s.size : Int) > 100
  · simpa [ha] using hlong
  · by_cases hb : (t.size : Int) > 100
    · simpa [ha, hb] using hlong
    · simpa [ha, hb] using texts_ev s t k (by omega) (by omega)

end Go.Proofs.Ytlbddbbmomjljaa.Pure
