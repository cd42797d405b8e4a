/- What every program answers that is one: awake comes to true; two lists of runes or numbers are the same. -/
import Derived.Test.YtlbddbbmomjljaaPTx2
import Derived.Test.YtlbddbbmomjljaaPwT
set_option linter.unusedVariables false
set_option linter.unusedSimpArgs false
namespace Go.Proofs.Ytlbddbbmomjljaa.PureT
open Go.RowKit Go.Proofs.Ytlbddbbmomjljaa.PT Go.Proofs.YtlbddbbmomjljaaW.PrintWords Go.Proofs.YtlbddbbmomjljaaW.PrintLast Go.Proofs.YtlbddbbmomjljaaW.PrintMore
open Go.Proofs.Ytlbddbbmomjljaa.Ed

theorem awake_some : inkhornlaw5_awake.f 30 = some true := by decide +kernel
theorem awake_ev : Ev (fun k => inkhornlaw5_awake.f k) true := Ev.of inkhornlaw5_awake.mono awake_some

theorem SameInts_l0 (x y : List Int) (hx : x.length ≤ 1000) (hl : x.length = y.length) (d : Nat) : ∀ i : Nat, i ≤ x.length → x.length - i = d → ∃ r, Ev (fun k => inkhornlaw0_SameInts.l0 k x y (i : Int)) r ∧ (r = true ↔ ∀ j, i ≤ j → j < x.length → x.getD j 0 = y.getD j 0) := by
  induction d with
  | zero =>
    intro i hi hd
    refine ⟨true, Ev.step (fun k => ?_) (Ev.now _), by simp; intro j h1 h2; omega⟩
    simp only [inkhornlaw0_SameInts.l0]
    rw [if_neg (by omega)]
  | succ d ih =>
    intro i hi hd
    have hw : wrap64 ((i : Int) + 1) = ((i + 1 : Nat) : Int) := by rw [wrap_id _ (by omega) (by omega)]; rfl
    by_cases he : x.getD i 0 = y.getD i 0
    · obtain ⟨r, hr, hp⟩ := ih (i + 1) (by omega) (by omega)
      refine ⟨r, Ev.step (fun k => ?_) hr, hp.trans ⟨fun h j h1 h2 => ?_, fun h j h1 h2 => h j (by omega) h2⟩⟩
      · simp only [inkhornlaw0_SameInts.l0, hw, rd_nat]
        rw [if_pos (by omega), if_pos (by omega), if_pos (by omega), if_pos he]
      · by_cases e : j = i
        · rw [e]; exact he
        · exact h j (by omega) h2
    · refine ⟨false, Ev.step (f := fun _ => some false) (fun k => ?_) (Ev.now _), by simp; exact ⟨i, Nat.le_refl _, by omega, he⟩⟩
      simp only [inkhornlaw0_SameInts.l0, rd_nat]
      rw [if_pos (by omega), if_pos (by omega), if_pos (by omega), if_neg he]

theorem SameInts_ev (x y : List Int) (hx : x.length ≤ 1000) : Ev (fun k => inkhornlaw0_SameInts.f k x y) (decide (x = y)) := by
  by_cases hl : x.length = y.length
  · obtain ⟨r, hr, hp⟩ := SameInts_l0 x y hx hl x.length 0 (by omega) rfl
    have e : r = decide (x = y) := by
      rw [Bool.eq_iff_iff, hp, decide_eq_true_iff]
      constructor
      · intro h
        apply List.ext_getElem hl
        intro i h1 h2
        have := h i (by omega) h1
        rwa [getD_get x i h1, getD_get y i h2] at this
      · rintro rfl j _ _
        rfl
    refine Ev.congr (fun k => ?_) (e ▸ hr)
    simp only [inkhornlaw0_SameInts.f]
    rw [if_pos (by omega)]
    rfl
  · refine Ev.congr (fun k => ?_) (Ev.now _)
    simp only [inkhornlaw0_SameInts.f]
    rw [if_neg (by omega), decide_eq_false (fun h => hl (by rw [h]))]
end Go.Proofs.Ytlbddbbmomjljaa.PureT
