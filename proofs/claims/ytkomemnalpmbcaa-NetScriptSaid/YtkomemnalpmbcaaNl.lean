/- What SameBytes, great and Low answer. -/
import Derived.Test.YtkomemnalpmbcaaNp
set_option linter.unusedVariables false
set_option linter.unusedSimpArgs false
namespace Go.Proofs.Ytkomemnalpmbcaa.Nt
open Go.Proofs.Ytkomemnalpmbcaa.PNetScript Go.RowKit Go.Proofs.YtkomemnalpmbcaaW.PrintWords Go.Proofs.YtkomemnalpmbcaaW.PrintLast Go.Proofs.YtkomemnalpmbcaaW.PrintMore

theorem wrap_id (x : Int) (h0 : -1000000 ≤ x) (h1 : x ≤ 1000000) : wrap64 x = x := by unfold wrap64; omega
theorem rd_nat (xs : List Int) (i : Nat) : rd xs (i : Int) = xs.getD i 0 := by simp [rd]
theorem getD_get (xs : List Int) (i : Nat) (h : i < xs.length) : xs.getD i 0 = xs[i] := by simp [List.getD_eq_getElem?_getD, List.getElem?_eq_getElem h]

theorem SameBytes_l0 (x y : List Int) (hx : x.length ≤ 200000) (hl : x.length = y.length) (d : Nat) : ∀ i : Nat, i ≤ x.length → x.length - i = d → ∃ r, Ev (fun k => inkhornlaw0_SameBytes.l0 k x y (i : Int)) r ∧ (r = true ↔ ∀ j, i ≤ j → j < x.length → x.getD j 0 = y.getD j 0) := by
  induction d with
  | zero =>
    intro i hi hd
    refine ⟨true, Ev.step (fun k => ?_) (Ev.now _), by simp; intro j h1 h2; omega⟩
    simp only [inkhornlaw0_SameBytes.l0]
    rw [if_neg (by omega)]
  | succ d ih =>
    intro i hi hd
    have hw : wrap64 ((i : Int) + 1) = ((i + 1 : Nat) : Int) := by rw [wrap_id _ (by omega) (by omega)]; rfl
    by_cases he : x.getD i 0 = y.getD i 0
    · obtain ⟨r, hr, hp⟩ := ih (i + 1) (by omega) (by omega)
      refine ⟨r, Ev.step (fun k => ?_) hr, hp.trans ⟨fun h j h1 h2 => ?_, fun h j h1 h2 => h j (by omega) h2⟩⟩
      · simp only [inkhornlaw0_SameBytes.l0, hw, rd_nat]
        rw [if_pos (by omega), if_pos (by omega), if_pos (by omega), if_pos he]
      · by_cases e : j = i
        · rw [e]; exact he
        · exact h j (by omega) h2
    · refine ⟨false, Ev.step (f := fun _ => some false) (fun k => ?_) (Ev.now _), by simp; exact ⟨i, Nat.le_refl _, by omega, he⟩⟩
      simp only [inkhornlaw0_SameBytes.l0, rd_nat]
      rw [if_pos (by omega), if_pos (by omega), if_pos (by omega), if_neg he]

theorem SameBytes_ev (x y : List Int) (hx : x.length ≤ 200000) : Ev (fun k => inkhornlaw0_SameBytes.f k x y) (decide (x = y)) := by
  by_cases hl : x.length = y.length
  · obtain ⟨r, hr, hp⟩ := SameBytes_l0 x y hx hl x.length 0 (by omega) rfl
    have e : r = decide (x = y) := by
      rw [Bool.eq_iff_iff, hp, decide_eq_true_iff]
      constructor
      · intro h
        apply List.ext_getElem hl
        intro i h1 h2
        have := h i (by omega) h1
        rwa [getD_get x i h1, getD_get y i h2] at this
      · rintro rfl j _ _
        rfl
    refine Ev.congr (fun k => ?_) (e ▸ hr)
    simp only [inkhornlaw0_SameBytes.f]
    rw [if_pos (by omega)]
    rfl
  · refine Ev.congr (fun k => ?_) (Ev.now _)
    simp only [inkhornlaw0_SameBytes.f]
    rw [if_neg (by omega), decide_eq_false (fun h => hl (by rw [h]))]
theorem SameBytes.eq (A0 : Option Addr) (c0 : Nat) (l0 : List Int) (A1 : Option Addr) (c1 : Nat) (l1 : List Int) (w : World) (hr0 : Kd.C (Kd.int .u8) w A0 l0.length l0) (hc0 : l0.length ≤ c0) (hr1 : Kd.C (Kd.int .u8) w A1 l1.length l1) (hc1 : l1.length ≤ c1) (hl : l0.length ≤ 200000) :
    Calls Try.prog 11 #[.slice A0 l0.length c0, .slice A1 l1.length c1] w fun e w' => e = .returned (.bool (decide (l0 = l1))) ∧ Drawn0 w w' := by
  obtain ⟨k, hk⟩ := (SameBytes_ev l0 l1 hl).rounds
  exact inkhornlaw0_SameBytes.calls k A0 c0 l0 A1 c1 l1 _ w hr0 hc0 hr1 hc1 hk
/-- Low brings a number below a greater one. -/
theorem Low_some (x n : Int) (h0 : 0 < n) (h1 : n ≤ 1000000) : ∃ r, inkhornlaw0_Low.f x n = some r ∧ 0 ≤ r ∧ r < n := by
  have hn : IntKind.u64.wrap n = n := by unfold IntKind.wrap; simp [IntKind.signed, IntKind.bits]; omega
  have hx : 0 ≤ IntKind.u64.wrap x := by unfold IntKind.wrap; simp [IntKind.signed, IntKind.bits]; omega
  have ht0 : 0 ≤ Int.tmod (IntKind.u64.wrap x) n := Int.tmod_nonneg _ hx
  have ht1 : Int.tmod (IntKind.u64.wrap x) n < n := Int.tmod_lt_of_pos _ h0
  refine ⟨Int.tmod (IntKind.u64.wrap x) n, ?_, ht0, ht1⟩
  simp only [inkhornlaw0_Low.f, hn]
  rw [if_neg (by omega), wrap_id _ (by omega) (by omega)]
end Go.Proofs.Ytkomemnalpmbcaa.Nt
