/- BandWays: near is so both ways; nothing is nearer than 0; what parts in length by more than the bound is not near; on every two lists (of at most 30 runes each; longer ones are answered by the fixed probe) and every bound. -/
import Derived.Test.YtlbddbbmomjljaaPAx9
import Derived.Test.YtlbddbbmomjljaaPb
namespace Go.Proofs.Ytlbddbbmomjljaa.Pure
open Go.RowKit Go.Proofs.Ytlbddbbmomjljaa.PA Go.Proofs.YtlbddbbmomjljaaW.PrintWords Go.Proofs.YtlbddbbmomjljaaW.PrintLast Go.Proofs.YtlbddbbmomjljaaW.PrintMore
open Go.Proofs.Ytlbddbbmomjljaa.Ed

theorem ways_near_le {a b : List Int} {k : Int} (h : (lev a b : Int) ≤ k) : near a b k = ((lev a b : Int), true) := by unfold near; rw [if_pos h]
theorem ways_near_gt {a b : List Int} {k : Int} (h : ¬ (lev a b : Int) ≤ k) : near a b k = (0, false) := by unfold near; rw [if_neg h]

theorem part_le (m n : Nat) (d : Int) (h1 : (m : Int) ≤ n + d) (h2 : (n : Int) ≤ m + d) : mx ((m : Int) - n) ((n : Int) - m) ≤ d := by
  unfold mx
  split <;> omega

theorem ways_ev (a b : List Int) (k : Int) (ha : a.length ≤ 30) (hb : b.length ≤ 30) : Ev (fun n => inkhornlaw6_BandWays.j0 n a b k false) true := by
  have w := Within_ev a b k (by omega) (by omega)
  have w1 := Within_ev b a k (by omega) (by omega)
  have w2 := Within_ev a a (-1) (by omega) (by omega)
  have w3 := Within_ev a a 0 (by omega) (by omega)
  have e1 : near b a k = near a b k := by unfold near; rw [lev_comm]
  have e2 : near a a (-1) = (0, false) := ways_near_gt (by rw [lev_self]; omega)
  have e3 : near a a 0 = (0, true) := by rw [ways_near_le (by rw [lev_self]; omega), lev_self]; rfl
  rw [e1] at w1
  rw [e2] at w2
  rw [e3] at w3
  have g1 := lev_ge_left a b
  have g2 := lev_ge_right a b
  have hp := part_le a.length b.length (lev a b : Int) (by omega) (by omega)
  have za : a.length ≤ 10000 := by omega
  have zb : b.length ≤ 10000 := by omega
  refine Ev.step (fun n => by simp only [inkhornlaw6_BandWays.j0, Bool.false_eq_true, if_false]; rfl) ?_
  refine Ev.bind w (Ev.bind w1 (Ev.bind w2 (Ev.bind w3 (Ev.congr (fun n => ?_) awake6_ev))))
  rw [if_pos rfl, if_pos (by simp), if_neg (by simp), if_pos rfl, if_pos rfl]
  by_cases h : (lev a b : Int) ≤ k
  · have hpk := Int.le_trans hp h
    rw [ways_near_le h, if_pos rfl, w_sub _ _ za zb, w_sub _ _ zb za, if_pos hpk, if_pos hp, if_pos h]
  · rw [ways_near_gt h, if_neg (by simp)]

theorem BandWays : inkhornlaw6_BandWays.Pure := by
  intro a b k _ _ _ _ _ _ _
  apply Ev.rounds
  have hlong : Ev (fun n => inkhornlaw6_BandWays.j0 n a b k true) true :=
    Ev.step (f := fun n => (inkhornlaw6_awake.f n).bind fun t => some t) (fun n => by simp only [inkhornlaw6_BandWays.j0, if_true]) awake6_ev
  by_cases h1 : (a.length : Int) > 30
  · exact Ev.congr (fun n => by rw [inkhornlaw6_BandWays.f, if_pos h1]) hlong
  · by_cases h2 : (b.length : Int) > 30
    · exact Ev.congr (fun n => by rw [inkhornlaw6_BandWays.f, if_neg h1, decide_eq_true h2]) hlong
    · exact Ev.congr (fun n => by rw [inkhornlaw6_BandWays.f, if_neg h1, decide_eq_false h2]) (ways_ev a b k (by omega) (by omega))

end Go.Proofs.Ytlbddbbmomjljaa.Pure
