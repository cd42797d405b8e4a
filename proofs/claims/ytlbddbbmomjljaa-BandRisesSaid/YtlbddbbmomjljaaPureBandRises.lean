/- BandRises: what is near is as near with a greater bound; with the distance itself as bound it is near, with one less not; on every two lists (of at most 30 runes each) and bounds from 0 to 100 (all else is answered by the fixed probe). -/
import Derived.Test.YtlbddbbmomjljaaPAx9
import Derived.Test.YtlbddbbmomjljaaPb
namespace Go.Proofs.Ytlbddbbmomjljaa.Pure
open Go.RowKit Go.Proofs.Ytlbddbbmomjljaa.PA Go.Proofs.YtlbddbbmomjljaaW.PrintWords Go.Proofs.YtlbddbbmomjljaaW.PrintLast Go.Proofs.YtlbddbbmomjljaaW.PrintMore
open Go.Proofs.Ytlbddbbmomjljaa.Ed

theorem near_le {a b : List Int} {k : Int} (h : (lev a b : Int) ≤ k) : near a b k = ((lev a b : Int), true) := by unfold near; rw [if_pos h]
theorem near_gt {a b : List Int} {k : Int} (h : ¬ (lev a b : Int) ≤ k) : near a b k = (0, false) := by unfold near; rw [if_neg h]

theorem rises_j1 (a b : List Int) (ha : a.length ≤ 30) (hb : b.length ≤ 30) : Ev (fun n => inkhornlaw6_BandRises.j1 n a b false) true := by
  have hm := lev_le_max a b
  have h60 : (lev a b : Int) ≤ 60 := by omega
  have hlow : ¬ (lev a b : Int) ≤ (lev a b : Int) - 1 := by omega
  have z1 : (-1000000 : Int) ≤ (lev a b : Int) - 1 := by omega
  have z2 : (lev a b : Int) - 1 ≤ 1000000 := by omega
  have w := Within_ev a b 60 (by omega) (by omega)
  have w1 := Within_ev a b (lev a b : Int) (by omega) (by omega)
  have w2 := Within_ev a b ((lev a b : Int) - 1) (by omega) (by omega)
  rw [near_le h60] at w
  rw [near_le (Int.le_refl _)] at w1
  rw [near_gt hlow] at w2
  rw [← wrap_id _ z1 z2] at w2
  refine Ev.step (fun n => by simp only [inkhornlaw6_BandRises.j1, Bool.false_eq_true, if_false]; rfl) ?_
  refine Ev.bind w (Ev.bind w1 (Ev.bind w2 (Ev.congr (fun n => ?_) awake6_ev)))
  rw [if_pos rfl, if_pos rfl, if_neg (by simp)]

theorem rises_ev (a b : List Int) (k more : Int) (ha : a.length ≤ 30) (hb : b.length ≤ 30) (k0 : 0 ≤ k) (k1 : k ≤ 100) (m0 : 0 ≤ more) (m1 : more ≤ 100) : Ev (fun n => inkhornlaw6_BandRises.j0 n a b k more false) true := by
  have w := Within_ev a b k (by omega) (by omega)
  have w1 := Within_ev a b (k + more) (by omega) (by omega)
  have z1 : (-1000000 : Int) ≤ k + more := by omega
  have z2 : k + more ≤ 1000000 := by omega
  refine Ev.step (fun n => by simp only [inkhornlaw6_BandRises.j0, Bool.false_eq_true, if_false]; rfl) ?_
  refine Ev.bind w ?_
  rw [wrap_id _ z1 z2]
  refine Ev.bind w1 (Ev.congr (fun n => ?_) (rises_j1 a b ha hb))
  by_cases h : (lev a b : Int) ≤ k
  · rw [near_le h, near_le (by omega : (lev a b : Int) ≤ k + more), if_pos rfl, if_pos rfl, bne_self_eq_false]
  · rw [near_gt h, if_neg (by simp)]

theorem BandRises : inkhornlaw6_BandRises.Pure := by
  intro a b k more _ _ _ _ _ _ _ _
  apply Ev.rounds
  have hlong : Ev (fun n => inkhornlaw6_BandRises.j0 n a b k more true) true :=
    Ev.step (f := fun n => (inkhornlaw6_awake.f n).bind fun t => some t) (fun n => by simp only [inkhornlaw6_BandRises.j0, if_true]) awake6_ev
  by_cases h1 : (a.length : Int) > 30
  · exact Ev.congr (fun n => by rw [inkhornlaw6_BandRises.f, if_pos h1]) hlong
  · by_cases h2 : (b.length : Int) > 30
    · exact Ev.congr (fun n => by rw [inkhornlaw6_BandRises.f, if_neg h1, if_pos h2]) hlong
    · by_cases h3 : k < 0
      · exact Ev.congr (fun n => by rw [inkhornlaw6_BandRises.f, if_neg h1, if_neg h2, if_pos h3]) hlong
      · by_cases h4 : k > 100
        · exact Ev.congr (fun n => by rw [inkhornlaw6_BandRises.f, if_neg h1, if_neg h2, if_neg h3, if_pos h4]) hlong
        · by_cases h5 : more < 0
          · exact Ev.congr (fun n => by rw [inkhornlaw6_BandRises.f, if_neg h1, if_neg h2, if_neg h3, if_neg h4, if_pos h5]) hlong
          · by_cases h6 : more > 100
            · exact Ev.congr (fun n => by rw [inkhornlaw6_BandRises.f, if_neg h1, if_neg h2, if_neg h3, if_neg h4, if_neg h5, decide_eq_true h6]) hlong
            · exact Ev.congr (fun n => by rw [inkhornlaw6_BandRises.f, if_neg h1, if_neg h2, if_neg h3, if_neg h4, if_neg h5, decide_eq_false h6]) (rises_ev a b k more (by omega) (by omega) (by omega) (by omega) (by omega) (by omega))

end Go.Proofs.Ytlbddbbmomjljaa.Pure
