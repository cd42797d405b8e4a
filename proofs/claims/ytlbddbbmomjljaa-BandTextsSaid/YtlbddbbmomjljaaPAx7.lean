-- Written by a program of this session (wip/tools/myprint.sh) over the kit's print; parts marked GIVEN are proved by hand.
import Derived.Test.YtlbddbbmomjljaaPAx0
namespace Go.Proofs.Ytlbddbbmomjljaa.PA
open Go.RowKit Go.Proofs.YtlbddbbmomjljaaW.PrintWords Go.Proofs.YtlbddbbmomjljaaW.PrintLast Go.Proofs.YtlbddbbmomjljaaW.PrintMore
attribute [local go_sem] max2_int min2_int max_two min_two max_three min_three max_four min_four   -- for this text's walks alone
set_option linter.unusedVariables false
set_option linter.unusedSimpArgs false

/-! ### band_Within: function 31 -/
mutual
def band_Within.j0 : Nat → List Int → List Int → Int → Bool → Option (Int × Bool)
  | 0, _, _, _, _ => none
  | k + 1, x0, x1, x2, x37 => if x37 = true then (some (0, false)) else (if 0 ≤ (wrap64 ((x1.length : Int) + 1)) then (if (wrap64 ((x1.length : Int) + 1) : Int).toNat ≤ 35184372088832 then ((some (List.replicate (wrap64 ((x1.length : Int) + 1) : Int).toNat 0 : List Int)).bind fun y281 => (band_Within.l0 k x0 x1 (mn x2 (wrap64 ((x0.length : Int) + (x1.length : Int)))) (wrap64 ((mn x2 (wrap64 ((x0.length : Int) + (x1.length : Int)))) + 1)) y281 (y281.length : Int) 0)) else (none)) else (none))
def band_Within.l0 : Nat → List Int → List Int → Int → Int → List Int → Int → Int → Option (Int × Bool)
  | 0, _, _, _, _, _, _, _ => none
  | k + 1, x0, x1, x2, x8, x9, x52, x53 => if x53 < x52 then (if 0 ≤ x53 then (if x53 < (x9.length : Int) then (band_Within.l0 k x0 x1 x2 x8 (x9.set (x53 : Int).toNat (mn x53 x8)) x52 (wrap64 (x53 + 1))) else (none)) else (none)) else (band_Within.l1 k x0 x1 x2 x8 x9 (x0.length : Int) 0)
def band_Within.l1 : Nat → List Int → List Int → Int → Int → List Int → Int → Int → Option (Int × Bool)
  | 0, _, _, _, _, _, _, _ => none
  | k + 1, x0, x1, x2, x8, x9, x64, x65 => if x65 < x64 then (if 0 ≤ (wrap64 ((mx (wrap64 ((wrap64 (x65 + 1)) - x2)) 1) - 1)) then (if (wrap64 ((mx (wrap64 ((wrap64 (x65 + 1)) - x2)) 1) - 1)) < (x9.length : Int) then ((some (x9.set ((wrap64 ((mx (wrap64 ((wrap64 (x65 + 1)) - x2)) 1) - 1)) : Int).toNat x8 : List Int)).bind fun y287 => (if (mx (wrap64 ((wrap64 (x65 + 1)) - x2)) 1) = 1 then (if 0 < (x9.length : Int) then (band_Within.j3 k x0 x1 x2 x8 (y287.set (0 : Int).toNat (mn (wrap64 (x65 + 1)) x8)) x65 (mx (wrap64 ((wrap64 (x65 + 1)) - x2)) 1) (mn (wrap64 ((wrap64 (x65 + 1)) + x2)) (x1.length : Int)) (rd x9 (wrap64 ((mx (wrap64 ((wrap64 (x65 + 1)) - x2)) 1) - 1))) x64 x65) else (none)) else (band_Within.j3 k x0 x1 x2 x8 y287 x65 (mx (wrap64 ((wrap64 (x65 + 1)) - x2)) 1) (mn (wrap64 ((wrap64 (x65 + 1)) + x2)) (x1.length : Int)) (rd x9 (wrap64 ((mx (wrap64 ((wrap64 (x65 + 1)) - x2)) 1) - 1))) x64 x65))) else (none)) else (none)) else (if 0 ≤ (x1.length : Int) then (if (x1.length : Int) < (x9.length : Int) then (if (rd x9 (x1.length : Int)) > x2 then (some (0, false)) else (some (rd x9 (x1.length : Int), true))) else (none)) else (none))
def band_Within.j3 : Nat → List Int → List Int → Int → Int → List Int → Int → Int → Int → Int → Int → Int → Option (Int × Bool)
  | 0, _, _, _, _, _, _, _, _, _, _, _ => none
  | k + 1, x0, x1, x2, x8, x9, x11, x12, x13, x14, x64, x65 => band_Within.l2 k x0 x1 x2 x8 x9 x11 x12 x13 x14 x64 x65 (wrap64 ((wrap64 (x13 - x12)) + 1)) 0
def band_Within.l2 : Nat → List Int → List Int → Int → Int → List Int → Int → Int → Int → Int → Int → Int → Int → Int → Option (Int × Bool)
  | 0, _, _, _, _, _, _, _, _, _, _, _, _, _ => none
  | k + 1, x0, x1, x2, x8, x9, x11, x12, x13, x14, x64, x65, x101, x102 => if x102 < x101 then (if 0 ≤ x11 then (if x11 < (x0.length : Int) then (if 0 ≤ (wrap64 ((wrap64 (x102 + x12)) - 1)) then (if (wrap64 ((wrap64 (x102 + x12)) - 1)) < (x1.length : Int) then (if (rd x0 x11) = (rd x1 (wrap64 ((wrap64 (x102 + x12)) - 1))) then (if 0 ≤ (wrap64 (x102 + x12)) then (if (wrap64 (x102 + x12)) < (x9.length : Int) then (if (wrap64 ((wrap64 (x102 + x12)) - 1)) < (x9.length : Int) then (band_Within.l2 k x0 x1 x2 x8 (x9.set ((wrap64 (x102 + x12)) : Int).toNat (mn (mn (mn (wrap64 ((rd x9 (wrap64 (x102 + x12))) + 1)) (wrap64 ((rd x9 (wrap64 ((wrap64 (x102 + x12)) - 1))) + 1))) x14) x8)) x11 x12 x13 (rd x9 (wrap64 (x102 + x12))) x64 x65 x101 (wrap64 (x102 + 1))) else (none)) else (none)) else (none)) else (if 0 ≤ (wrap64 (x102 + x12)) then (if (wrap64 (x102 + x12)) < (x9.length : Int) then (if (wrap64 ((wrap64 (x102 + x12)) - 1)) < (x9.length : Int) then (band_Within.l2 k x0 x1 x2 x8 (x9.set ((wrap64 (x102 + x12)) : Int).toNat (mn (mn (mn (wrap64 ((rd x9 (wrap64 (x102 + x12))) + 1)) (wrap64 ((rd x9 (wrap64 ((wrap64 (x102 + x12)) - 1))) + 1))) (wrap64 (x14 + 1))) x8)) x11 x12 x13 (rd x9 (wrap64 (x102 + x12))) x64 x65 x101 (wrap64 (x102 + 1))) else (none)) else (none)) else (none))) else (none)) else (none)) else (none)) else (none)) else (if x13 < (x1.length : Int) then (if 0 ≤ (wrap64 (x13 + 1)) then (if (wrap64 (x13 + 1)) < (x9.length : Int) then (band_Within.l1 k x0 x1 x2 x8 (x9.set ((wrap64 (x13 + 1)) : Int).toNat x8) x64 (wrap64 (x65 + 1))) else (none)) else (none)) else (band_Within.l1 k x0 x1 x2 x8 x9 x64 (wrap64 (x65 + 1))))
end
def band_Within.f (k : Nat) (l0 : List Int) (l1 : List Int) (a2 : Int) : Option (Int × Bool) := if a2 < 0 then (band_Within.j0 k l0 l1 a2 true) else (if (wrap64 ((l0.length : Int) - (l1.length : Int))) > a2 then (band_Within.j0 k l0 l1 a2 true) else (band_Within.j0 k l0 l1 a2 (decide ((wrap64 ((l1.length : Int) - (l0.length : Int))) > a2))))
theorem band_Within.mono_l : ∀ k, (∀ y0 y1 y2 y3, LeO (band_Within.j0 k y0 y1 y2 y3) (band_Within.j0 (k + 1) y0 y1 y2 y3)) ∧ (∀ y0 y1 y2 y3 y4 y5 y6, LeO (band_Within.l0 k y0 y1 y2 y3 y4 y5 y6) (band_Within.l0 (k + 1) y0 y1 y2 y3 y4 y5 y6)) ∧ (∀ y0 y1 y2 y3 y4 y5 y6, LeO (band_Within.l1 k y0 y1 y2 y3 y4 y5 y6) (band_Within.l1 (k + 1) y0 y1 y2 y3 y4 y5 y6)) ∧ (∀ y0 y1 y2 y3 y4 y5 y6 y7 y8 y9 y10, LeO (band_Within.j3 k y0 y1 y2 y3 y4 y5 y6 y7 y8 y9 y10) (band_Within.j3 (k + 1) y0 y1 y2 y3 y4 y5 y6 y7 y8 y9 y10)) ∧ (∀ y0 y1 y2 y3 y4 y5 y6 y7 y8 y9 y10 y11 y12, LeO (band_Within.l2 k y0 y1 y2 y3 y4 y5 y6 y7 y8 y9 y10 y11 y12) (band_Within.l2 (k + 1) y0 y1 y2 y3 y4 y5 y6 y7 y8 y9 y10 y11 y12))
  | 0 => ⟨fun _ _ _ _ r h => by simp [band_Within.j0] at h, fun _ _ _ _ _ _ _ r h => by simp [band_Within.l0] at h, fun _ _ _ _ _ _ _ r h => by simp [band_Within.l1] at h, fun _ _ _ _ _ _ _ _ _ _ _ r h => by simp [band_Within.j3] at h, fun _ _ _ _ _ _ _ _ _ _ _ _ _ r h => by simp [band_Within.l2] at h⟩
  | k + 1 => by
    obtain ⟨ih0, ih1, ih2, ih3, ih4⟩ := band_Within.mono_l k
    refine ⟨?_, ?_, ?_, ?_, ?_⟩
    · intro y0 y1 y2 y3
      unfold band_Within.j0
      repeat' first
      | (with_reducible exact ih0 _ _ _ _)
      | (with_reducible exact ih1 _ _ _ _ _ _ _)
      | (with_reducible exact ih2 _ _ _ _ _ _ _)
      | (with_reducible exact ih3 _ _ _ _ _ _ _ _ _ _ _)
      | (with_reducible exact ih4 _ _ _ _ _ _ _ _ _ _ _ _ _)
      | (with_reducible exact LeO.refl _)
      | (with_reducible exact LeO.none _)
      | (with_reducible refine LeO.ite ?_ ?_)
      | (with_reducible refine LeO.bind ?_ (fun _ => ?_))
      | exact ih0 _ _ _ _
      | exact ih1 _ _ _ _ _ _ _
      | exact ih2 _ _ _ _ _ _ _
      | exact ih3 _ _ _ _ _ _ _ _ _ _ _
      | exact ih4 _ _ _ _ _ _ _ _ _ _ _ _ _
      | exact LeO.none _
      | refine LeO.ite ?_ ?_
      | refine LeO.bind ?_ (fun _ => ?_)
    · intro y0 y1 y2 y3 y4 y5 y6
      unfold band_Within.l0
      repeat' first
      | (with_reducible exact ih0 _ _ _ _)
      | (with_reducible exact ih1 _ _ _ _ _ _ _)
      | (with_reducible exact ih2 _ _ _ _ _ _ _)
      | (with_reducible exact ih3 _ _ _ _ _ _ _ _ _ _ _)
      | (with_reducible exact ih4 _ _ _ _ _ _ _ _ _ _ _ _ _)
      | (with_reducible exact LeO.refl _)
      | (with_reducible exact LeO.none _)
      | (with_reducible refine LeO.ite ?_ ?_)
      | (with_reducible refine LeO.bind ?_ (fun _ => ?_))
      | exact ih0 _ _ _ _
      | exact ih1 _ _ _ _ _ _ _
      | exact ih2 _ _ _ _ _ _ _
      | exact ih3 _ _ _ _ _ _ _ _ _ _ _
      | exact ih4 _ _ _ _ _ _ _ _ _ _ _ _ _
      | exact LeO.none _
      | refine LeO.ite ?_ ?_
      | refine LeO.bind ?_ (fun _ => ?_)
    · intro y0 y1 y2 y3 y4 y5 y6
      unfold band_Within.l1
      repeat' first
      | (with_reducible exact ih0 _ _ _ _)
      | (with_reducible exact ih1 _ _ _ _ _ _ _)
      | (with_reducible exact ih2 _ _ _ _ _ _ _)
      | (with_reducible exact ih3 _ _ _ _ _ _ _ _ _ _ _)
      | (with_reducible exact ih4 _ _ _ _ _ _ _ _ _ _ _ _ _)
      | (with_reducible exact LeO.refl _)
      | (with_reducible exact LeO.none _)
      | (with_reducible refine LeO.ite ?_ ?_)
      | (with_reducible refine LeO.bind ?_ (fun _ => ?_))
      | exact ih0 _ _ _ _
      | exact ih1 _ _ _ _ _ _ _
      | exact ih2 _ _ _ _ _ _ _
      | exact ih3 _ _ _ _ _ _ _ _ _ _ _
      | exact ih4 _ _ _ _ _ _ _ _ _ _ _ _ _
      | exact LeO.none _
      | refine LeO.ite ?_ ?_
      | refine LeO.bind ?_ (fun _ => ?_)
    · intro y0 y1 y2 y3 y4 y5 y6 y7 y8 y9 y10
      unfold band_Within.j3
      repeat' first
      | (with_reducible exact ih0 _ _ _ _)
      | (with_reducible exact ih1 _ _ _ _ _ _ _)
      | (with_reducible exact ih2 _ _ _ _ _ _ _)
      | (with_reducible exact ih3 _ _ _ _ _ _ _ _ _ _ _)
      | (with_reducible exact ih4 _ _ _ _ _ _ _ _ _ _ _ _ _)
      | (with_reducible exact LeO.refl _)
      | (with_reducible exact LeO.none _)
      | (with_reducible refine LeO.ite ?_ ?_)
      | (with_reducible refine LeO.bind ?_ (fun _ => ?_))
      | exact ih0 _ _ _ _
      | exact ih1 _ _ _ _ _ _ _
      | exact ih2 _ _ _ _ _ _ _
      | exact ih3 _ _ _ _ _ _ _ _ _ _ _
      | exact ih4 _ _ _ _ _ _ _ _ _ _ _ _ _
      | exact LeO.none _
      | refine LeO.ite ?_ ?_
      | refine LeO.bind ?_ (fun _ => ?_)
    · intro y0 y1 y2 y3 y4 y5 y6 y7 y8 y9 y10 y11 y12
      unfold band_Within.l2
      repeat' first
      | (with_reducible exact ih0 _ _ _ _)
      | (with_reducible exact ih1 _ _ _ _ _ _ _)
      | (with_reducible exact ih2 _ _ _ _ _ _ _)
      | (with_reducible exact ih3 _ _ _ _ _ _ _ _ _ _ _)
      | (with_reducible exact ih4 _ _ _ _ _ _ _ _ _ _ _ _ _)
      | (with_reducible exact LeO.refl _)
      | (with_reducible exact LeO.none _)
      | (with_reducible refine LeO.ite ?_ ?_)
      | (with_reducible refine LeO.bind ?_ (fun _ => ?_))
      | exact ih0 _ _ _ _
      | exact ih1 _ _ _ _ _ _ _
      | exact ih2 _ _ _ _ _ _ _
      | exact ih3 _ _ _ _ _ _ _ _ _ _ _
      | exact ih4 _ _ _ _ _ _ _ _ _ _ _ _ _
      | exact LeO.none _
      | refine LeO.ite ?_ ?_
      | refine LeO.bind ?_ (fun _ => ?_)
theorem band_Within.mono : ∀ a0 a1 a2 k, LeO (band_Within.f k a0 a1 a2) (band_Within.f (k + 1) a0 a1 a2) := by
  intro a0 a1 a2 k
  obtain ⟨ih0, ih1, ih2, ih3, ih4⟩ := band_Within.mono_l k
  unfold band_Within.f
  repeat' first
      | (with_reducible exact ih0 _ _ _ _)
      | (with_reducible exact ih1 _ _ _ _ _ _ _)
      | (with_reducible exact ih2 _ _ _ _ _ _ _)
      | (with_reducible exact ih3 _ _ _ _ _ _ _ _ _ _ _)
      | (with_reducible exact ih4 _ _ _ _ _ _ _ _ _ _ _ _ _)
      | (with_reducible exact LeO.refl _)
      | (with_reducible exact LeO.none _)
      | (with_reducible refine LeO.ite ?_ ?_)
      | (with_reducible refine LeO.bind ?_ (fun _ => ?_))
      | exact ih0 _ _ _ _
      | exact ih1 _ _ _ _ _ _ _
      | exact ih2 _ _ _ _ _ _ _
      | exact ih3 _ _ _ _ _ _ _ _ _ _ _
      | exact ih4 _ _ _ _ _ _ _ _ _ _ _ _ _
      | exact LeO.none _
      | refine LeO.ite ?_ ?_
      | refine LeO.bind ?_ (fun _ => ?_)
set_option maxHeartbeats 8000000 in
set_option maxRecDepth 100000 in
theorem band_Within.calls (k : Nat) (A0 : Option Addr) (c0 : Nat) (l0 : List Int) (A1 : Option Addr) (c1 : Nat) (l1 : List Int) (a2 : Int) (r1 : Int) (r2 : Bool) (w : World) (hr0 : Kd.C (Kd.int .i32) w A0 l0.length l0) (hc0 : l0.length ≤ c0) (hr1 : Kd.C (Kd.int .i32) w A1 l1.length l1) (hc1 : l1.length ≤ c1) (h : band_Within.f k l0 l1 a2 = some (r1, r2)) :
    Calls Try.prog 31 #[.slice A0 l0.length c0, .slice A1 l1.length c1, .int .i64 a2] w fun e w' => e = .returned (.tuple #[.int .i64 r1, .bool r2]) ∧ Below w.heap.size w w' := by
  have HR0 := Aside0.mk hr0
  have HC0 := Aside0.mk hc0
  clear hr0 hc0
  have HR1 := Aside0.mk hr1
  have HC1 := Aside0.mk hc1
  clear hr1 hc1
  have HB := Aside0.mk (Below.refl w.heap.size w)
  have H : (if a2 < 0 then (band_Within.j0 k l0 l1 a2 true) else (if (wrap64 ((l0.length : Int) - (l1.length : Int))) > a2 then (band_Within.j0 k l0 l1 a2 true) else (band_Within.j0 k l0 l1 a2 (decide ((wrap64 ((l1.length : Int) - (l0.length : Int))) > a2))))) = some (r1, r2) := h
  clear h
  have HC4 := Aside0.mk H
  clear H
  go_enter Try.func31, Try.ntmps31
  go_upto_region 1 with (fail)
  repeat (go_quiet (fail); go_upto_region 1 with (fail))
  go_cut [37] (fun v37 wc => ∃ (kq : Nat) (x37_3 : Bool), v37 = .bool x37_3 ∧ Aside0 (band_Within.j0 kq l0 l1 a2 x37_3 = some (r1, r2)) ∧ Aside0 (kq ≤ k) ∧ Aside0 (Below w.heap.size w wc))
  case first =>
    have H := HC4.out
    clear HC4
    by_cases c5 : a2 < 0
    · rw [if_pos c5] at H
      have c5b0 : decide (a2 < 0) = true := decide_eq_true c5
      clear c5
      (first | rw [c5b0] | (simp only [i64_w, i32_w]; rw [c5b0]) | skip)
      have H' := Aside0.mk H
      clear H
      go_wp2
      repeat (go_quiet (fail); try go_wp2)
      go_meet
      case rel => exact ⟨_, (true), (by first | rfl | (simp; done) | (simp [*]; done)), H', ⟨by first | omega | exact Nat.le_refl _⟩, ⟨by repeat (first | (with_reducible first | exact HB.out | apply below_alloc | apply pw_below_drewN | apply below_drew1) | exact HB.out)⟩⟩
    · rw [if_neg c5] at H
      have c5b0 : decide (a2 < 0) = false := decide_eq_false c5
      clear c5
      (first | rw [c5b0] | (simp only [i64_w, i32_w]; rw [c5b0]) | skip)
      by_cases c6 : (wrap64 ((l0.length : Int) - (l1.length : Int))) > a2
      · rw [if_pos c6] at H
        have c6b0 : decide (a2 < (wrap64 ((l0.length : Int) - (l1.length : Int)))) = true := decide_eq_true c6
        clear c6
        have H' := Aside0.mk H
        clear H
        go_wp2
        repeat (go_quiet (fail); try go_wp2)
        go_meet
        case rel => exact ⟨_, (true), (by first | rfl | (simp; done) | (simp [*]; done)), H', ⟨by first | omega | exact Nat.le_refl _⟩, ⟨by repeat (first | (with_reducible first | exact HB.out | apply below_alloc | apply pw_below_drewN | apply below_drew1) | exact HB.out)⟩⟩
      · rw [if_neg c6] at H
        have c6b0 : decide (a2 < (wrap64 ((l0.length : Int) - (l1.length : Int)))) = false := decide_eq_false c6
        clear c6
        have H' := Aside0.mk H
        clear H
        go_wp2
        repeat (go_quiet (fail); try go_wp2)
        go_meet
        case rel => exact ⟨_, (decide ((wrap64 ((l1.length : Int) - (l0.length : Int))) > a2)), (by first | rfl | (simp; done) | (simp [*]; done)), H', ⟨by first | omega | exact Nat.le_refl _⟩, ⟨by repeat (first | (with_reducible first | exact HB.out | apply below_alloc | apply pw_below_drewN | apply below_drew1) | exact HB.out)⟩⟩
  case rest =>
    clear HC4
    try clear c1
    try clear p2
    try clear c3
    try clear c5
    try clear c5b0
    try clear c6
    try clear c6b0
    try clear p6
    obtain ⟨kq, x37_3, rfl, HA, HJ3, HB⟩ := hcut
    cases kq with
    | zero => exact absurd HA.out (by simp [band_Within.j0])
    | succ kj3 =>
      have H := HA.out
      clear HA
      simp only [band_Within.j0] at H
      by_cases c7 : x37_3 = true
      · subst c7
        have H1 : (some (0, false)) = some (r1, r2) := by rw [if_pos rfl] at H; exact H
        clear H
        have H := H1
        clear H1
        simp only [Option.some.injEq, Prod.mk.injEq] at H
        obtain ⟨rfl, rfl⟩ := H
        go_wp2
        repeat (go_quiet (fail); try go_wp2)
        go_ret2
        exact ⟨by first | rfl | (simp [errW_none, errW_some] <;> rfl) | (simp [*, errW_none, errW_some] <;> rfl), by repeat (first | (with_reducible first | exact HB.out | apply below_alloc | apply pw_below_drewN | apply below_drew1) | exact HB.out)⟩
      · replace c7 := Bool.eq_false_iff.mpr c7
        subst c7
        have H1 : (if 0 ≤ (wrap64 ((l1.length : Int) + 1)) then (if (wrap64 ((l1.length : Int) + 1) : Int).toNat ≤ 35184372088832 then ((some (List.replicate (wrap64 ((l1.length : Int) + 1) : Int).toNat 0 : List Int)).bind fun y281 => (band_Within.l0 kj3 l0 l1 (mn a2 (wrap64 ((l0.length : Int) + (l1.length : Int)))) (wrap64 ((mn a2 (wrap64 ((l0.length : Int) + (l1.length : Int)))) + 1)) y281 (y281.length : Int) 0)) else (none)) else (none)) = some (r1, r2) := by rw [if_neg (show ¬ (false = true) by decide)] at H; exact H
        clear H
        have H := H1
        clear H1
        obtain ⟨ji8, hji8⟩ : ∃ j_ : Int, (mn a2 (wrap64 ((l0.length : Int) + (l1.length : Int)))) = j_ := ⟨_, rfl⟩
        replace H : (if 0 ≤ (wrap64 ((l1.length : Int) + 1)) then (if (wrap64 ((l1.length : Int) + 1) : Int).toNat ≤ 35184372088832 then ((some (List.replicate (wrap64 ((l1.length : Int) + 1) : Int).toNat 0 : List Int)).bind fun y281 => (band_Within.l0 kj3 l0 l1 ji8 (wrap64 ((ji8) + 1)) y281 (y281.length : Int) 0)) else (none)) else (none)) = some (r1, r2) := by first | (rw [hji8] at H; exact H) | (simp only [hji8] at H ⊢; exact H)
        have hji8_ : (if (wrap64 ((l0.length : Int) + (l1.length : Int))) < a2 then (wrap64 ((l0.length : Int) + (l1.length : Int))) else a2) = ji8 := hji8
        obtain ⟨ji9, hji9⟩ : ∃ j_ : Int, (wrap64 ((l1.length : Int) + 1)) = j_ := ⟨_, rfl⟩
        replace H : (if 0 ≤ (ji9) then (if (ji9 : Int).toNat ≤ 35184372088832 then ((some (List.replicate (ji9 : Int).toNat 0 : List Int)).bind fun y281 => (band_Within.l0 kj3 l0 l1 ji8 (wrap64 ((ji8) + 1)) y281 (y281.length : Int) 0)) else (none)) else (none)) = some (r1, r2) := by first | (rw [hji9] at H; exact H) | (simp only [hji9] at H ⊢; exact H)
        have hji9w : (IntKind.i64.wrap ((l1.length : Int) + 1)) = ji9 := (i64_w _).trans hji9
        by_cases c10 : 0 ≤ (ji9)
        · rw [if_pos c10] at H
          have c10b0 := eq_true c10
          have c10b1 : decide (0 ≤ (ji9)) = true := decide_eq_true c10
          clear c10
          by_cases c11 : (ji9 : Int).toNat ≤ 35184372088832
          · rw [if_pos c11] at H
            have c11b0 := eq_true c11
            have c11b1 : decide ((ji9 : Int).toNat ≤ 35184372088832) = true := decide_eq_true c11
            clear c11
            obtain ⟨y281, hy281⟩ : ∃ y_ : List Int, y_ = (List.replicate (ji9 : Int).toNat 0) := ⟨_, rfl⟩
            replace H : (band_Within.l0 kj3 l0 l1 ji8 (wrap64 ((ji8) + 1)) y281 (y281.length : Int) 0) = some (r1, r2) := by first | (rw [hy281]; with_reducible exact H) | (have H2_ := (Option.bind_some _ _).symm.trans H; rw [hy281]; with_reducible exact H2_) | (have H2_ := (Option.bind_some _ _).symm.trans H; with_reducible exact H2_) | with_reducible exact H | (rw [hy281]; exact H) | exact H
            have Ny281 := Aside0.mk hy281
            clear hy281
            have H' := Aside0.mk H
            clear H
            go_wp2_with (first | ((with_reducible refine gate_dst (N := 50) rfl ?_); (try (refine gate_guard (by rfl) ?_; dsimp only)); refine Kd.R_make (Kd.int .i64) _ 3 rfl (N := 50) rfl 26 _ _ rfl ji9 rfl rfl Try.underlying26 (.int .i64 0) 8 info3 rfl (by decide) (by omega) 0 (ok := fun _ => True) (okp := fun _ => True) rfl (fun _ hk => hk) trivial (of_decide_eq_true (by first | (with_reducible assumption) | assumption)) (Nat.le_trans (Nat.mul_le_mul_right _ (of_decide_eq_true (by first | (with_reducible assumption) | assumption) : ji9.toNat ≤ 35184372088832)) (by omega)) (Below.refl _ _) (Nat.le_refl _) ?_; intro v282 w12 ho13 hb hg_ hnew_; clear hg_ hnew_; (first | rw [← Ny281.out] at ho13 | (simp only [Int.reduceToNat] at ho13; rw [← Ny281.out] at ho13)); have n0_ := Aside0.mk (Kd.R_lower ho13 (below_size (by repeat (first | (with_reducible first | exact HB.out | apply below_alloc | apply pw_below_drewN | apply below_drew1) | exact HB.out)))); have n1_ := Aside0.mk (below_step (by repeat (first | (with_reducible first | exact HB.out | apply below_alloc | apply pw_below_drewN | apply below_drew1) | exact HB.out)) hb); clear HB; have HO283 := n0_; have HB := n1_; clear n0_ n1_; clear hb ho13; obtain ⟨Ao14, co14, eo14⟩ := Kd.R_slice HO283.out; subst eo14))
            repeat (go_quiet (first | ((with_reducible refine gate_dst (N := 50) rfl ?_); (try (refine gate_guard (by rfl) ?_; dsimp only)); refine Kd.R_make (Kd.int .i64) _ 3 rfl (N := 50) rfl 26 _ _ rfl ji9 rfl rfl Try.underlying26 (.int .i64 0) 8 info3 rfl (by decide) (by omega) 0 (ok := fun _ => True) (okp := fun _ => True) rfl (fun _ hk => hk) trivial (of_decide_eq_true (by first | (with_reducible assumption) | assumption)) (Nat.le_trans (Nat.mul_le_mul_right _ (of_decide_eq_true (by first | (with_reducible assumption) | assumption) : ji9.toNat ≤ 35184372088832)) (by omega)) (Below.refl _ _) (Nat.le_refl _) ?_; intro v282 w12 ho13 hb hg_ hnew_; clear hg_ hnew_; (first | rw [← Ny281.out] at ho13 | (simp only [Int.reduceToNat] at ho13; rw [← Ny281.out] at ho13)); have n0_ := Aside0.mk (Kd.R_lower ho13 (below_size (by repeat (first | (with_reducible first | exact HB.out | apply below_alloc | apply pw_below_drewN | apply below_drew1) | exact HB.out)))); have n1_ := Aside0.mk (below_step (by repeat (first | (with_reducible first | exact HB.out | apply below_alloc | apply pw_below_drewN | apply below_drew1) | exact HB.out)) hb); clear HB; have HO283 := n0_; have HB := n1_; clear n0_ n1_; clear hb ho13; obtain ⟨Ao14, co14, eo14⟩ := Kd.R_slice HO283.out; subst eo14)); try go_wp2_with (first | ((with_reducible refine gate_dst (N := 50) rfl ?_); (try (refine gate_guard (by rfl) ?_; dsimp only)); refine Kd.R_make (Kd.int .i64) _ 3 rfl (N := 50) rfl 26 _ _ rfl ji9 rfl rfl Try.underlying26 (.int .i64 0) 8 info3 rfl (by decide) (by omega) 0 (ok := fun _ => True) (okp := fun _ => True) rfl (fun _ hk => hk) trivial (of_decide_eq_true (by first | (with_reducible assumption) | assumption)) (Nat.le_trans (Nat.mul_le_mul_right _ (of_decide_eq_true (by first | (with_reducible assumption) | assumption) : ji9.toNat ≤ 35184372088832)) (by omega)) (Below.refl _ _) (Nat.le_refl _) ?_; intro v282 w12 ho13 hb hg_ hnew_; clear hg_ hnew_; (first | rw [← Ny281.out] at ho13 | (simp only [Int.reduceToNat] at ho13; rw [← Ny281.out] at ho13)); have n0_ := Aside0.mk (Kd.R_lower ho13 (below_size (by repeat (first | (with_reducible first | exact HB.out | apply below_alloc | apply pw_below_drewN | apply below_drew1) | exact HB.out)))); have n1_ := Aside0.mk (below_step (by repeat (first | (with_reducible first | exact HB.out | apply below_alloc | apply pw_below_drewN | apply below_drew1) | exact HB.out)) hb); clear HB; have HO283 := n0_; have HB := n1_; clear n0_ n1_; clear hb ho13; obtain ⟨Ao14, co14, eo14⟩ := Kd.R_slice HO283.out; subst eo14)))
            go_loopg [53] kj3 (fun kq v53 w' => ∃ (x9_2 : List Int) (x53_2 : Int), v53 = .int .i64 x53_2 ∧ Aside0 (band_Within.l0 kq l0 l1 ji8 (wrap64 ((ji8) + 1)) x9_2 (y281.length : Int) x53_2 = some (r1, r2)) ∧ Aside0 (kq ≤ kj3) ∧ Aside0 (Kd.R (Kd.int .i64) 3 w' w.heap.size (fun _ => True) (.slice Ao14 y281.length co14) x9_2) ∧ Aside0 (Below w.heap.size w w'))
            case atStart => exact ⟨(y281), (0), (by first | rfl | (simp; done) | (simp [*]; done)), H', ⟨Nat.le_refl _⟩, ⟨by (with_reducible repeat (first | apply Kd.R_alloc | apply Kd.R_drewN | apply Kd.R_drew)); exact HO283.out⟩, ⟨by repeat (first | (with_reducible first | exact HB.out | apply below_alloc | apply pw_below_drewN | apply below_drew1) | exact HB.out)⟩⟩
            case round =>
              clear H'
              try clear c1
              try clear p2
              try clear c3
              try clear c5
              try clear c5b0
              try clear c6
              try clear c6b0
              try clear p6
              try clear c7
              try clear c10
              try clear c10b0
              try clear c10b1
              try clear c11
              try clear c11b0
              try clear c11b1
              try clear p2
              try clear p6
              obtain ⟨x9_2, x53_2, rfl, HA, HK2, HO_9, HB⟩ := hrel
              have hl9_2 := (Kd.R_reads' HO_9.out).1
              rw [hl9_2] at HO_9
              (try simp only [hl9_2])
              cases gk with
              | zero => exact absurd HA.out (by simp [band_Within.l0])
              | succ k2 =>
                have H := HA.out
                clear HA
                simp only [band_Within.l0] at H
                by_cases c15 : x53_2 < (y281.length : Int)
                · rw [if_pos c15] at H
                  have c15b0 : decide (x53_2 < (y281.length : Int)) = true := decide_eq_true c15
                  (try (have c15b0z0 := c15b0; rw [hl9_2] at c15b0z0))
                  clear c15
                  obtain ⟨ji16, hji16⟩ : ∃ j_ : Int, (mn x53_2 (wrap64 ((ji8) + 1))) = j_ := ⟨_, rfl⟩
                  replace H : (if 0 ≤ x53_2 then (if x53_2 < (x9_2.length : Int) then (band_Within.l0 k2 l0 l1 ji8 (wrap64 ((ji8) + 1)) (x9_2.set (x53_2 : Int).toNat (ji16)) (y281.length : Int) (wrap64 (x53_2 + 1))) else (none)) else (none)) = some (r1, r2) := by first | (rw [hji16] at H; exact H) | (simp only [hji16] at H ⊢; exact H)
                  have hji16_ : (if (wrap64 ((ji8) + 1)) < x53_2 then (wrap64 ((ji8) + 1)) else x53_2) = ji16 := hji16
                  by_cases c17 : 0 ≤ x53_2
                  · rw [if_pos c17] at H
                    have c17b0 : decide (0 ≤ x53_2) = true := decide_eq_true c17
                    clear c17
                    by_cases c18 : x53_2 < (x9_2.length : Int)
                    · rw [if_pos c18] at H
                      have c18b0 : decide (x53_2 < (x9_2.length : Int)) = true := decide_eq_true c18
                      (try (have c18b0z0 := c18b0; rw [hl9_2] at c18b0z0))
                      clear c18
                      obtain ⟨y284, hy284⟩ : ∃ y_ : List Int, y_ = (x9_2.set (x53_2 : Int).toNat (ji16)) := ⟨_, rfl⟩
                      replace H : (band_Within.l0 k2 l0 l1 ji8 (wrap64 ((ji8) + 1)) y284 (y281.length : Int) (wrap64 (x53_2 + 1))) = some (r1, r2) := by first | (rw [hy284]; with_reducible exact H) | (have H2_ := (Option.bind_some _ _).symm.trans H; rw [hy284]; with_reducible exact H2_) | (have H2_ := (Option.bind_some _ _).symm.trans H; with_reducible exact H2_) | with_reducible exact H | (rw [hy284]; exact H) | exact H
                      have Ny284 := Aside0.mk hy284
                      clear hy284
                      have H' := Aside0.mk H
                      clear H
                      have p19 : 0 ≤ (x53_2 : Int) := of_decide_eq_true (by first | (with_reducible assumption) | assumption)
                      have q19 : (x53_2 : Int) < ((x9_2.length : Int) : Int) := of_decide_eq_true (by first | (with_reducible assumption) | assumption)
                      obtain ⟨go19, co19, eo19, gb19, gl19, cl19, HG19⟩ := Kd.R_form HO_9.out (by omega)
                      (first | cases eo19 | (injection eo19 with ea_ en_ ec_; (first | subst ea_ | (injection ea_ with ea_; subst ea_)); subst ec_; clear en_))
                      have GB19 := Aside0.mk gb19
                      have GG19 := Aside0.mk HG19
                      clear gb19 gl19 HG19
                      obtain ⟨hx19_0, hf19_0⟩ := Kd.R_celln 0 HO_9.out (x53_2 : Int) p19 q19
                      replace p19 := eq_true p19
                      replace q19 := eq_true q19
                      have HP20 := Kd.R_putg HO_9.out (x53_2 : Int) ji16
                      go_wp2_with (first | ((with_reducible refine gate_store (t := 3) (p := 61) rfl ?_); (try (rw [drewN_self wr]; generalize hq_ : World.drewN wr _ = wr; have n0_ := Aside0.mk (Kd.R_at hq_ HO_9.out); have n1_ := Aside0.mk (below_at hq_ HB.out); clear hq_ HO_9 HB; have HO_9 := n0_; have HB := n1_; clear n0_ n1_; (try (have HP20 := Kd.R_putg HO_9.out (x53_2 : Int) ji16)))); refine store_event (t := 3) (p := 61) (v := ?vo_w21) (w1 := (wr.setCell ⟨go19, (x53_2 : Int).toNat, none⟩ (.int .i64 ji16))) ?hg ?ho ?hn ?hr ?_; (case ho => rfl); (case hg => rfl); (case hn => rfl); (case hr => first | (go_simp; done) | (go_simp; rfl)); intro w21 hw; have hg : wr.grownBy w21 (some go19) := (by rw [hw]; exact HP20.2); have hp_ : Kd.R (Kd.int .i64) 3 w21 w.heap.size (fun _ => True) (.slice (some ⟨go19, 0, none⟩) x9_2.length co14) y284 := (by rw [hw, Ny284.out]; exact HP20.1); clear HP20; have n0_ := Aside0.mk (hp_); have n1_ := Aside0.mk ((by rw [hw]; exact below_set (HB.out) GB19.out : Below w.heap.size w w21)); clear HO_9; clear HB; have HO_9 := n0_; have HB := n1_; clear n0_ n1_; clear hg hw hp_))
                      repeat (go_quiet (first | ((with_reducible refine gate_store (t := 3) (p := 61) rfl ?_); (try (rw [drewN_self wr]; generalize hq_ : World.drewN wr _ = wr; have n0_ := Aside0.mk (Kd.R_at hq_ HO_9.out); have n1_ := Aside0.mk (below_at hq_ HB.out); clear hq_ HO_9 HB; have HO_9 := n0_; have HB := n1_; clear n0_ n1_; (try (have HP20 := Kd.R_putg HO_9.out (x53_2 : Int) ji16)))); refine store_event (t := 3) (p := 61) (v := ?vo_w21) (w1 := (wr.setCell ⟨go19, (x53_2 : Int).toNat, none⟩ (.int .i64 ji16))) ?hg ?ho ?hn ?hr ?_; (case ho => rfl); (case hg => rfl); (case hn => rfl); (case hr => first | (go_simp; done) | (go_simp; rfl)); intro w21 hw; have hg : wr.grownBy w21 (some go19) := (by rw [hw]; exact HP20.2); have hp_ : Kd.R (Kd.int .i64) 3 w21 w.heap.size (fun _ => True) (.slice (some ⟨go19, 0, none⟩) x9_2.length co14) y284 := (by rw [hw, Ny284.out]; exact HP20.1); clear HP20; have n0_ := Aside0.mk (hp_); have n1_ := Aside0.mk ((by rw [hw]; exact below_set (HB.out) GB19.out : Below w.heap.size w w21)); clear HO_9; clear HB; have HO_9 := n0_; have HB := n1_; clear n0_ n1_; clear hg hw hp_)); try go_wp2_with (first | ((with_reducible refine gate_store (t := 3) (p := 61) rfl ?_); (try (rw [drewN_self wr]; generalize hq_ : World.drewN wr _ = wr; have n0_ := Aside0.mk (Kd.R_at hq_ HO_9.out); have n1_ := Aside0.mk (below_at hq_ HB.out); clear hq_ HO_9 HB; have HO_9 := n0_; have HB := n1_; clear n0_ n1_; (try (have HP20 := Kd.R_putg HO_9.out (x53_2 : Int) ji16)))); refine store_event (t := 3) (p := 61) (v := ?vo_w21) (w1 := (wr.setCell ⟨go19, (x53_2 : Int).toNat, none⟩ (.int .i64 ji16))) ?hg ?ho ?hn ?hr ?_; (case ho => rfl); (case hg => rfl); (case hn => rfl); (case hr => first | (go_simp; done) | (go_simp; rfl)); intro w21 hw; have hg : wr.grownBy w21 (some go19) := (by rw [hw]; exact HP20.2); have hp_ : Kd.R (Kd.int .i64) 3 w21 w.heap.size (fun _ => True) (.slice (some ⟨go19, 0, none⟩) x9_2.length co14) y284 := (by rw [hw, Ny284.out]; exact HP20.1); clear HP20; have n0_ := Aside0.mk (hp_); have n1_ := Aside0.mk ((by rw [hw]; exact below_set (HB.out) GB19.out : Below w.heap.size w w21)); clear HO_9; clear HB; have HO_9 := n0_; have HB := n1_; clear n0_ n1_; clear hg hw hp_)))
                      (try simp only [← hl9_2])
                      go_roundg k2
                      case measure => have := HJ3.out; have := HK2.out; omega
                      case rel => exact ⟨(y284), (wrap64 (x53_2 + 1)), (by first | rfl | (simp; done) | (simp [*]; done)), H', ⟨by have := HJ3.out; have := HK2.out; omega⟩, ⟨by (try simp only [hl9_2]); (with_reducible repeat (first | apply Kd.R_alloc | apply Kd.R_drewN | apply Kd.R_drew)); exact HO_9.out⟩, ⟨by repeat (first | (with_reducible first | exact HB.out | apply below_alloc | apply pw_below_drewN | apply below_drew1) | exact HB.out)⟩⟩
                    · rw [if_neg c18] at H
                      exact absurd H (by simp)
                  · rw [if_neg c17] at H
                    exact absurd H (by simp)
                · rw [if_neg c15] at H
                  have c15b0 : decide (x53_2 < (y281.length : Int)) = false := decide_eq_false c15
                  (try (have c15b0z0 := c15b0; rw [hl9_2] at c15b0z0))
                  clear c15
                  have H' := Aside0.mk H
                  clear H
                  go_wp2
                  repeat (go_quiet (fail); try go_wp2)
                  go_loopg [65] k2 (fun kq v65 w' => ∃ (x9_3 : List Int) (x65_3 : Int), v65 = .int .i64 x65_3 ∧ Aside0 (band_Within.l1 kq l0 l1 ji8 (wrap64 ((ji8) + 1)) x9_3 (l0.length : Int) x65_3 = some (r1, r2)) ∧ Aside0 (kq ≤ k2) ∧ Aside0 (Kd.R (Kd.int .i64) 3 w' w.heap.size (fun _ => True) (.slice Ao14 x9_2.length co14) x9_3) ∧ Aside0 (Below w.heap.size w w'))
                  case atStart => exact ⟨(x9_2), (0), (by first | rfl | (simp; done) | (simp [*]; done)), H', ⟨Nat.le_refl _⟩, ⟨by (try simp only [hl9_2]); (with_reducible repeat (first | apply Kd.R_alloc | apply Kd.R_drewN | apply Kd.R_drew)); exact HO_9.out⟩, ⟨by repeat (first | (with_reducible first | exact HB.out | apply below_alloc | apply pw_below_drewN | apply below_drew1) | exact HB.out)⟩⟩
                  case round =>
                    clear H'
                    try clear c1
                    try clear p1
                    try clear q1
                    try clear hx1
                    try clear p2
                    try clear c3
                    try clear c5
                    try clear c5b0
                    try clear c6
                    try clear c6b0
                    try clear p6
                    try clear c7
                    try clear c10
                    try clear c10b0
                    try clear c10b1
                    try clear c11
                    try clear c11b0
                    try clear c11b1
                    try clear c15
                    try clear c15b0
                    try clear c17
                    try clear c17b0
                    try clear c18
                    try clear c18b0
                    try clear p19
                    try clear q19
                    try clear hx19
                    try clear hf19
                    try clear hx19_0
                    try clear p19
                    try clear p2
                    try clear p6
                    try clear q19
                    obtain ⟨x9_3, x65_3, rfl, HA, HK3, HO_9, HB⟩ := hrel
                    have hl9_3 := (Kd.R_reads' HO_9.out).1
                    rw [hl9_3] at HO_9
                    (try simp only [hl9_3])
                    cases gk with
                    | zero => exact absurd HA.out (by simp [band_Within.l1])
                    | succ k3 =>
                      have H := HA.out
                      clear HA
                      simp only [band_Within.l1] at H
                      by_cases c22 : x65_3 < (l0.length : Int)
                      · rw [if_pos c22] at H
                        have c22b0 : decide (x65_3 < (l0.length : Int)) = true := decide_eq_true c22
                        (try (have c22b0z0 := c22b0; rw [hl9_2] at c22b0z0))
                        (try (have c22b0z1 := c22b0; rw [hl9_3] at c22b0z1))
                        clear c22
                        obtain ⟨ji23, hji23⟩ : ∃ j_ : Int, (mx (wrap64 ((wrap64 (x65_3 + 1)) - ji8)) 1) = j_ := ⟨_, rfl⟩
                        replace H : (if 0 ≤ (wrap64 ((ji23) - 1)) then (if (wrap64 ((ji23) - 1)) < (x9_3.length : Int) then ((some (x9_3.set ((wrap64 ((ji23) - 1)) : Int).toNat (wrap64 ((ji8) + 1)) : List Int)).bind fun y287 => (if (ji23) = 1 then (if 0 < (x9_3.length : Int) then (band_Within.j3 k3 l0 l1 ji8 (wrap64 ((ji8) + 1)) (y287.set (0 : Int).toNat (mn (wrap64 (x65_3 + 1)) (wrap64 ((ji8) + 1)))) x65_3 ji23 (mn (wrap64 ((wrap64 (x65_3 + 1)) + ji8)) (l1.length : Int)) (rd x9_3 (wrap64 ((ji23) - 1))) (l0.length : Int) x65_3) else (none)) else (band_Within.j3 k3 l0 l1 ji8 (wrap64 ((ji8) + 1)) y287 x65_3 ji23 (mn (wrap64 ((wrap64 (x65_3 + 1)) + ji8)) (l1.length : Int)) (rd x9_3 (wrap64 ((ji23) - 1))) (l0.length : Int) x65_3))) else (none)) else (none)) = some (r1, r2) := by first | (rw [hji23] at H; exact H) | (simp only [hji23] at H ⊢; exact H)
                        have hji23_ : (if (wrap64 ((wrap64 (x65_3 + 1)) - ji8)) < 1 then 1 else (wrap64 ((wrap64 (x65_3 + 1)) - ji8))) = ji23 := hji23
                        obtain ⟨ji24, hji24⟩ : ∃ j_ : Int, (mn (wrap64 ((wrap64 (x65_3 + 1)) + ji8)) (l1.length : Int)) = j_ := ⟨_, rfl⟩
                        replace H : (if 0 ≤ (wrap64 ((ji23) - 1)) then (if (wrap64 ((ji23) - 1)) < (x9_3.length : Int) then ((some (x9_3.set ((wrap64 ((ji23) - 1)) : Int).toNat (wrap64 ((ji8) + 1)) : List Int)).bind fun y287 => (if (ji23) = 1 then (if 0 < (x9_3.length : Int) then (band_Within.j3 k3 l0 l1 ji8 (wrap64 ((ji8) + 1)) (y287.set (0 : Int).toNat (mn (wrap64 (x65_3 + 1)) (wrap64 ((ji8) + 1)))) x65_3 ji23 ji24 (rd x9_3 (wrap64 ((ji23) - 1))) (l0.length : Int) x65_3) else (none)) else (band_Within.j3 k3 l0 l1 ji8 (wrap64 ((ji8) + 1)) y287 x65_3 ji23 ji24 (rd x9_3 (wrap64 ((ji23) - 1))) (l0.length : Int) x65_3))) else (none)) else (none)) = some (r1, r2) := by first | (rw [hji24] at H; exact H) | (simp only [hji24] at H ⊢; exact H)
                        have hji24_ : (if (l1.length : Int) < (wrap64 ((wrap64 (x65_3 + 1)) + ji8)) then (l1.length : Int) else (wrap64 ((wrap64 (x65_3 + 1)) + ji8))) = ji24 := hji24
                        obtain ⟨ji25, hji25⟩ : ∃ j_ : Int, (wrap64 ((ji23) - 1)) = j_ := ⟨_, rfl⟩
                        replace H : (if 0 ≤ (ji25) then (if (ji25) < (x9_3.length : Int) then ((some (x9_3.set ((ji25) : Int).toNat (wrap64 ((ji8) + 1)) : List Int)).bind fun y287 => (if (ji23) = 1 then (if 0 < (x9_3.length : Int) then (band_Within.j3 k3 l0 l1 ji8 (wrap64 ((ji8) + 1)) (y287.set (0 : Int).toNat (mn (wrap64 (x65_3 + 1)) (wrap64 ((ji8) + 1)))) x65_3 ji23 ji24 (rd x9_3 (ji25)) (l0.length : Int) x65_3) else (none)) else (band_Within.j3 k3 l0 l1 ji8 (wrap64 ((ji8) + 1)) y287 x65_3 ji23 ji24 (rd x9_3 (ji25)) (l0.length : Int) x65_3))) else (none)) else (none)) = some (r1, r2) := by first | (rw [hji25] at H; exact H) | (simp only [hji25] at H ⊢; exact H)
                        have hji25w : (IntKind.i64.wrap ((ji23) - 1)) = ji25 := (i64_w _).trans hji25
                        by_cases c26 : 0 ≤ (ji25)
                        · rw [if_pos c26] at H
                          have c26b0 : decide (0 ≤ (ji25)) = true := decide_eq_true c26
                          clear c26
                          by_cases c27 : (ji25) < (x9_3.length : Int)
                          · rw [if_pos c27] at H
                            have c27b0 : decide ((ji25) < (x9_3.length : Int)) = true := decide_eq_true c27
                            (try (have c27b0z0 := c27b0; rw [hl9_2] at c27b0z0))
                            (try (have c27b0z1 := c27b0; rw [hl9_3] at c27b0z1))
                            clear c27
                            obtain ⟨y287, hy287⟩ : ∃ y_ : List Int, y_ = (x9_3.set ((ji25) : Int).toNat (wrap64 ((ji8) + 1))) := ⟨_, rfl⟩
                            replace H : (if (ji23) = 1 then (if 0 < (x9_3.length : Int) then (band_Within.j3 k3 l0 l1 ji8 (wrap64 ((ji8) + 1)) (y287.set (0 : Int).toNat (mn (wrap64 (x65_3 + 1)) (wrap64 ((ji8) + 1)))) x65_3 ji23 ji24 (rd x9_3 (ji25)) (l0.length : Int) x65_3) else (none)) else (band_Within.j3 k3 l0 l1 ji8 (wrap64 ((ji8) + 1)) y287 x65_3 ji23 ji24 (rd x9_3 (ji25)) (l0.length : Int) x65_3)) = some (r1, r2) := by first | (rw [hy287]; with_reducible exact H) | (have H2_ := (Option.bind_some _ _).symm.trans H; rw [hy287]; with_reducible exact H2_) | (have H2_ := (Option.bind_some _ _).symm.trans H; with_reducible exact H2_) | with_reducible exact H | (rw [hy287]; exact H) | exact H
                            have Ny287 := Aside0.mk hy287
                            clear hy287
                            have HC29 := Aside0.mk H
                            clear H
                            have p286 : 0 ≤ ((ji25) : Int) := of_decide_eq_true (by first | (with_reducible assumption) | assumption)
                            have q286 : (ji25) < (x9_3.length : Int) := of_decide_eq_true (by first | (with_reducible assumption) | assumption)
                            obtain ⟨ad286, e286, hx286_0⟩ := Kd.at_int (Kd.R_reads' HO_9.out).2.2 (ji25) p286 q286
                            cases e286
                            replace p286 := eq_true p286
                            replace q286 := eq_true q286
                            have p28 : 0 ≤ ((ji25) : Int) := of_decide_eq_true (by first | (with_reducible assumption) | assumption)
                            have q28 : ((ji25) : Int) < ((x9_3.length : Int) : Int) := of_decide_eq_true (by first | (with_reducible assumption) | assumption)
                            obtain ⟨go28, co28, eo28, gb28, gl28, cl28, HG28⟩ := Kd.R_form HO_9.out (by omega)
                            (first | cases eo28 | (injection eo28 with ea_ en_ ec_; (first | subst ea_ | (injection ea_ with ea_; subst ea_)); subst ec_; clear en_))
                            have GB28 := Aside0.mk gb28
                            have GG28 := Aside0.mk HG28
                            clear gb28 gl28 HG28
                            (first | simp only [add_plain] at hx286_0 | skip)
                            obtain ⟨hx28_0, hf28_0⟩ := Kd.R_celln 0 HO_9.out ((ji25) : Int) p28 q28
                            replace p28 := eq_true p28
                            replace q28 := eq_true q28
                            have HP30 := Kd.R_putg HO_9.out ((ji25) : Int) (wrap64 ((ji8) + 1))
                            go_upto_if 91 with (first | ((with_reducible refine gate_store (t := 3) (p := 89) rfl ?_); (try (rw [drewN_self wr]; generalize hq_ : World.drewN wr _ = wr; have n0_ := Aside0.mk (Kd.R_at hq_ HO_9.out); have n1_ := Aside0.mk (below_at hq_ HB.out); clear hq_ HO_9 HB; have HO_9 := n0_; have HB := n1_; clear n0_ n1_; (try (have HP30 := Kd.R_putg HO_9.out ((ji25) : Int) (wrap64 ((ji8) + 1)))))); refine store_event (t := 3) (p := 89) (v := ?vo_w31) (w1 := (wr.setCell ⟨go28, ((ji25) : Int).toNat, none⟩ (.int .i64 (wrap64 ((ji8) + 1))))) ?hg ?ho ?hn ?hr ?_; (case ho => rfl); (case hg => rfl); (case hn => rfl); (case hr => first | (go_simp; done) | (go_simp; rfl)); intro w31 hw; have hg : wr.grownBy w31 (some go28) := (by rw [hw]; exact HP30.2); have hp_ : Kd.R (Kd.int .i64) 3 w31 w.heap.size (fun _ => True) (.slice (some ⟨go28, 0, none⟩) x9_3.length co14) y287 := (by rw [hw, Ny287.out]; exact HP30.1); clear HP30; have n0_ := Aside0.mk (hp_); have n1_ := Aside0.mk ((by rw [hw]; exact below_set (HB.out) GB28.out : Below w.heap.size w w31)); clear HO_9; clear HB; have HO_9 := n0_; have HB := n1_; clear n0_ n1_; clear hg hw hp_))
                            repeat (go_quiet (first | ((with_reducible refine gate_store (t := 3) (p := 89) rfl ?_); (try (rw [drewN_self wr]; generalize hq_ : World.drewN wr _ = wr; have n0_ := Aside0.mk (Kd.R_at hq_ HO_9.out); have n1_ := Aside0.mk (below_at hq_ HB.out); clear hq_ HO_9 HB; have HO_9 := n0_; have HB := n1_; clear n0_ n1_; (try (have HP30 := Kd.R_putg HO_9.out ((ji25) : Int) (wrap64 ((ji8) + 1)))))); refine store_event (t := 3) (p := 89) (v := ?vo_w31) (w1 := (wr.setCell ⟨go28, ((ji25) : Int).toNat, none⟩ (.int .i64 (wrap64 ((ji8) + 1))))) ?hg ?ho ?hn ?hr ?_; (case ho => rfl); (case hg => rfl); (case hn => rfl); (case hr => first | (go_simp; done) | (go_simp; rfl)); intro w31 hw; have hg : wr.grownBy w31 (some go28) := (by rw [hw]; exact HP30.2); have hp_ : Kd.R (Kd.int .i64) 3 w31 w.heap.size (fun _ => True) (.slice (some ⟨go28, 0, none⟩) x9_3.length co14) y287 := (by rw [hw, Ny287.out]; exact HP30.1); clear HP30; have n0_ := Aside0.mk (hp_); have n1_ := Aside0.mk ((by rw [hw]; exact below_set (HB.out) GB28.out : Below w.heap.size w w31)); clear HO_9; clear HB; have HO_9 := n0_; have HB := n1_; clear n0_ n1_; clear hg hw hp_)); go_upto_if 91 with (first | ((with_reducible refine gate_store (t := 3) (p := 89) rfl ?_); (try (rw [drewN_self wr]; generalize hq_ : World.drewN wr _ = wr; have n0_ := Aside0.mk (Kd.R_at hq_ HO_9.out); have n1_ := Aside0.mk (below_at hq_ HB.out); clear hq_ HO_9 HB; have HO_9 := n0_; have HB := n1_; clear n0_ n1_; (try (have HP30 := Kd.R_putg HO_9.out ((ji25) : Int) (wrap64 ((ji8) + 1)))))); refine store_event (t := 3) (p := 89) (v := ?vo_w31) (w1 := (wr.setCell ⟨go28, ((ji25) : Int).toNat, none⟩ (.int .i64 (wrap64 ((ji8) + 1))))) ?hg ?ho ?hn ?hr ?_; (case ho => rfl); (case hg => rfl); (case hn => rfl); (case hr => first | (go_simp; done) | (go_simp; rfl)); intro w31 hw; have hg : wr.grownBy w31 (some go28) := (by rw [hw]; exact HP30.2); have hp_ : Kd.R (Kd.int .i64) 3 w31 w.heap.size (fun _ => True) (.slice (some ⟨go28, 0, none⟩) x9_3.length co14) y287 := (by rw [hw, Ny287.out]; exact HP30.1); clear HP30; have n0_ := Aside0.mk (hp_); have n1_ := Aside0.mk ((by rw [hw]; exact below_set (HB.out) GB28.out : Below w.heap.size w w31)); clear HO_9; clear HB; have HO_9 := n0_; have HB := n1_; clear n0_ n1_; clear hg hw hp_)))
                            (try simp only [Act.put, List.setIfInBounds_toArray, List.set_cons_zero, List.set_cons_succ])
                            go_cut [] (fun wc => ∃ (kq : Nat) (x9_28 : List Int), Aside0 (band_Within.j3 kq l0 l1 ji8 (wrap64 ((ji8) + 1)) x9_28 x65_3 ji23 ji24 (rd x9_3 (ji25)) (l0.length : Int) x65_3 = some (r1, r2)) ∧ Aside0 (kq ≤ k3) ∧ Aside0 (Kd.R (Kd.int .i64) 3 wc w.heap.size (fun _ => True) (.slice (some ⟨go28, 0, none⟩) x9_3.length co14) x9_28) ∧ Aside0 (Below w.heap.size w wc))
                            case first =>
                              have H := HC29.out
                              clear HC29
                              by_cases c32 : (ji23) = 1
                              · rw [if_pos c32] at H
                                have c32b0 : ((ji23) == 1) = true := beq_iff_eq.mpr c32
                                have c32b1 : ((ji23) != 1) = false := bne_eq_false_iff_eq.mpr c32
                                clear c32
                                (first | rw [c32b0] | (simp only [i64_w, i32_w]; rw [c32b0]) | skip)
                                obtain ⟨ji33, hji33⟩ : ∃ j_ : Int, (mn (wrap64 (x65_3 + 1)) (wrap64 ((ji8) + 1))) = j_ := ⟨_, rfl⟩
                                replace H : (if 0 < (x9_3.length : Int) then (band_Within.j3 k3 l0 l1 ji8 (wrap64 ((ji8) + 1)) (y287.set (0 : Int).toNat (ji33)) x65_3 ji23 ji24 (rd x9_3 (ji25)) (l0.length : Int) x65_3) else (none)) = some (r1, r2) := by first | (rw [hji33] at H; exact H) | (simp only [hji33] at H ⊢; exact H)
                                have hji33_ : (if (wrap64 ((ji8) + 1)) < (wrap64 (x65_3 + 1)) then (wrap64 ((ji8) + 1)) else (wrap64 (x65_3 + 1))) = ji33 := hji33
                                by_cases c34 : 0 < (x9_3.length : Int)
                                · rw [if_pos c34] at H
                                  have c34b0 : decide (0 < (x9_3.length : Int)) = true := decide_eq_true c34
                                  (try (have c34b0z0 := c34b0; rw [hl9_2] at c34b0z0))
                                  (try (have c34b0z1 := c34b0; rw [hl9_3] at c34b0z1))
                                  have c34b1 : decide (0 < x9_3.length) = true := decide_eq_true (by omega)
                                  (try (have c34b1z0 := c34b1; rw [hl9_2] at c34b1z0))
                                  (try (have c34b1z1 := c34b1; rw [hl9_3] at c34b1z1))
                                  clear c34
                                  obtain ⟨y288, hy288⟩ : ∃ y_ : List Int, y_ = (y287.set (0 : Int).toNat (ji33)) := ⟨_, rfl⟩
                                  replace H : (band_Within.j3 k3 l0 l1 ji8 (wrap64 ((ji8) + 1)) y288 x65_3 ji23 ji24 (rd x9_3 (ji25)) (l0.length : Int) x65_3) = some (r1, r2) := by first | (rw [hy288]; with_reducible exact H) | (have H2_ := (Option.bind_some _ _).symm.trans H; rw [hy288]; with_reducible exact H2_) | (have H2_ := (Option.bind_some _ _).symm.trans H; with_reducible exact H2_) | with_reducible exact H | (rw [hy288]; exact H) | exact H
                                  have Ny288 := Aside0.mk hy288
                                  clear hy288
                                  have H' := Aside0.mk H
                                  clear H
                                  have p35 : 0 ≤ (0 : Int) := (by omega)
                                  have q35 : (0 : Int) < ((x9_3.length : Int) : Int) := of_decide_eq_true (by first | (with_reducible assumption) | assumption)
                                  have qi35 : (0 < x9_3.length) = True := eq_true (by omega)
                                  obtain ⟨hx35_0, hf35_0⟩ := Kd.R_celln 0 HO_9.out (0 : Int) p35 q35
                                  (try rw [show ((0 : Int)).toNat = 0 from rfl] at hx35_0)
                                  (try simp only [Nat.reduceMul, Nat.zero_mul, Nat.zero_add, Nat.reduceAdd] at hx35_0)
                                  (try rw [show ((0 : Int)).toNat = 0 from rfl] at hf35_0)
                                  (try simp only [Nat.reduceMul, Nat.zero_mul, Nat.zero_add, Nat.reduceAdd] at hf35_0)
                                  replace p35 := eq_true p35
                                  replace q35 := eq_true q35
                                  have HP36 := Kd.R_putg HO_9.out (0 : Int) ji33
                                  go_wp2_with (first | ((with_reducible refine gate_store (t := 3) (p := 97) rfl ?_); (try (rw [drewN_self w31]; generalize hq_ : World.drewN w31 _ = w31; have n0_ := Aside0.mk (Kd.R_at hq_ HO_9.out); have n1_ := Aside0.mk (below_at hq_ HB.out); clear hq_ HO_9 HB; have HO_9 := n0_; have HB := n1_; clear n0_ n1_; (try (have HP36 := Kd.R_putg HO_9.out (0 : Int) ji33)))); refine store_event (t := 3) (p := 97) (v := ?vo_w37) (w1 := (w31.setCell ⟨go28, (0 : Int).toNat, none⟩ (.int .i64 ji33))) ?hg ?ho ?hn ?hr ?_; (case ho => rfl); (case hg => rfl); (case hn => rfl); (case hr => first | (go_simp; done) | (go_simp; rfl)); intro w37 hw; have hg : w31.grownBy w37 (some go28) := (by rw [hw]; exact HP36.2); have hp_ : Kd.R (Kd.int .i64) 3 w37 w.heap.size (fun _ => True) (.slice (some ⟨go28, 0, none⟩) x9_3.length co14) y288 := (by rw [hw, Ny288.out]; exact HP36.1); clear HP36; have n0_ := Aside0.mk (hp_); have n1_ := Aside0.mk ((by rw [hw]; exact below_set (HB.out) GB28.out : Below w.heap.size w w37)); clear HO_9; clear HB; have HO_9 := n0_; have HB := n1_; clear n0_ n1_; clear hg hw hp_))
                                  repeat (go_quiet (first | ((with_reducible refine gate_store (t := 3) (p := 97) rfl ?_); (try (rw [drewN_self w31]; generalize hq_ : World.drewN w31 _ = w31; have n0_ := Aside0.mk (Kd.R_at hq_ HO_9.out); have n1_ := Aside0.mk (below_at hq_ HB.out); clear hq_ HO_9 HB; have HO_9 := n0_; have HB := n1_; clear n0_ n1_; (try (have HP36 := Kd.R_putg HO_9.out (0 : Int) ji33)))); refine store_event (t := 3) (p := 97) (v := ?vo_w37) (w1 := (w31.setCell ⟨go28, (0 : Int).toNat, none⟩ (.int .i64 ji33))) ?hg ?ho ?hn ?hr ?_; (case ho => rfl); (case hg => rfl); (case hn => rfl); (case hr => first | (go_simp; done) | (go_simp; rfl)); intro w37 hw; have hg : w31.grownBy w37 (some go28) := (by rw [hw]; exact HP36.2); have hp_ : Kd.R (Kd.int .i64) 3 w37 w.heap.size (fun _ => True) (.slice (some ⟨go28, 0, none⟩) x9_3.length co14) y288 := (by rw [hw, Ny288.out]; exact HP36.1); clear HP36; have n0_ := Aside0.mk (hp_); have n1_ := Aside0.mk ((by rw [hw]; exact below_set (HB.out) GB28.out : Below w.heap.size w w37)); clear HO_9; clear HB; have HO_9 := n0_; have HB := n1_; clear n0_ n1_; clear hg hw hp_)); try go_wp2_with (first | ((with_reducible refine gate_store (t := 3) (p := 97) rfl ?_); (try (rw [drewN_self w31]; generalize hq_ : World.drewN w31 _ = w31; have n0_ := Aside0.mk (Kd.R_at hq_ HO_9.out); have n1_ := Aside0.mk (below_at hq_ HB.out); clear hq_ HO_9 HB; have HO_9 := n0_; have HB := n1_; clear n0_ n1_; (try (have HP36 := Kd.R_putg HO_9.out (0 : Int) ji33)))); refine store_event (t := 3) (p := 97) (v := ?vo_w37) (w1 := (w31.setCell ⟨go28, (0 : Int).toNat, none⟩ (.int .i64 ji33))) ?hg ?ho ?hn ?hr ?_; (case ho => rfl); (case hg => rfl); (case hn => rfl); (case hr => first | (go_simp; done) | (go_simp; rfl)); intro w37 hw; have hg : w31.grownBy w37 (some go28) := (by rw [hw]; exact HP36.2); have hp_ : Kd.R (Kd.int .i64) 3 w37 w.heap.size (fun _ => True) (.slice (some ⟨go28, 0, none⟩) x9_3.length co14) y288 := (by rw [hw, Ny288.out]; exact HP36.1); clear HP36; have n0_ := Aside0.mk (hp_); have n1_ := Aside0.mk ((by rw [hw]; exact below_set (HB.out) GB28.out : Below w.heap.size w w37)); clear HO_9; clear HB; have HO_9 := n0_; have HB := n1_; clear n0_ n1_; clear hg hw hp_)))
                                  go_meet
                                  case rel => exact ⟨_, (y288), H', ⟨by have := HJ3.out; have := HK2.out; have := HK3.out; first | omega | exact Nat.le_refl _⟩, ⟨by (try simp only [hl9_2]); (try simp only [hl9_3]); (with_reducible repeat (first | apply Kd.R_alloc | apply Kd.R_drewN | apply Kd.R_drew)); exact HO_9.out⟩, ⟨by repeat (first | (with_reducible first | exact HB.out | apply below_alloc | apply pw_below_drewN | apply below_drew1) | exact HB.out)⟩⟩
                                · rw [if_neg c34] at H
                                  exact absurd H (by simp)
                              · rw [if_neg c32] at H
                                have c32b0 : ((ji23) == 1) = false := beq_eq_false_iff_ne.mpr c32
                                have c32b1 : ((ji23) != 1) = true := bne_iff_ne.mpr c32
                                (first | rw [c32b0] | (simp only [i64_w, i32_w]; rw [c32b0]) | skip)
                                have H' := Aside0.mk H
                                clear H
                                go_wp2
                                repeat (go_quiet (fail); try go_wp2)
                                go_meet
                                case rel => exact ⟨_, (y287), H', ⟨by have := HJ3.out; have := HK2.out; have := HK3.out; first | omega | exact Nat.le_refl _⟩, ⟨by (try simp only [hl9_2]); (try simp only [hl9_3]); (with_reducible repeat (first | apply Kd.R_alloc | apply Kd.R_drewN | apply Kd.R_drew)); exact HO_9.out⟩, ⟨by repeat (first | (with_reducible first | exact HB.out | apply below_alloc | apply pw_below_drewN | apply below_drew1) | exact HB.out)⟩⟩
                            case rest =>
                              clear HC29
                              try clear c1
                              try clear p1
                              try clear q1
                              try clear hx1
                              try clear c2
                              try clear p2
                              try clear q2
                              try clear hx2
                              try clear c3
                              try clear p3
                              try clear q3
                              try clear hx3
                              try clear qi3
                              try clear hf3
                              try clear c5
                              try clear c5b0
                              try clear c6
                              try clear c6b0
                              try clear p6
                              try clear c7
                              try clear c10
                              try clear c10b0
                              try clear c10b1
                              try clear c11
                              try clear c11b0
                              try clear c11b1
                              try clear c15
                              try clear c15b0
                              try clear c17
                              try clear c17b0
                              try clear c18
                              try clear c18b0
                              try clear p19
                              try clear q19
                              try clear hx19
                              try clear hf19
                              try clear c22
                              try clear c22b0
                              try clear c26
                              try clear c26b0
                              try clear c27
                              try clear c27b0
                              try clear p28
                              try clear q28
                              try clear hx28
                              try clear hf28
                              try clear c31
                              try clear c32
                              try clear c32b0
                              try clear c32b1
                              try clear c34
                              try clear c34b0
                              try clear c34b1
                              try clear p35
                              try clear q35
                              try clear hx35
                              try clear qi35
                              try clear hf35
                              try clear hx19_0
                              try clear hx286_0
                              try clear hx28_0
                              try clear hx35_0
                              try clear p1
                              try clear p19
                              try clear p2
                              try clear p28
                              try clear p286
                              try clear p35
                              try clear p6
                              try clear q1
                              try clear q19
                              try clear q28
                              try clear q286
                              try clear q35
                              obtain ⟨kq, x9_28, HA, HJ28, HO_9, HB⟩ := hcut
                              have hl9_28 := (Kd.R_reads' HO_9.out).1
                              rw [hl9_28] at HO_9
                              (try simp only [hl9_28])
                              cases kq with
                              | zero => exact absurd HA.out (by simp [band_Within.j3])
                              | succ kj28 =>
                                have H := HA.out
                                clear HA
                                simp only [band_Within.j3] at H
                                have H' := Aside0.mk H
                                clear H
                                go_wp2
                                repeat (go_quiet (fail); try go_wp2)
                                go_loopg [14, 102] kj28 (fun kq v14 v102 w' => ∃ (x9_5 : List Int) (x14_5 : Int) (x102_5 : Int), v14 = .int .i64 x14_5 ∧ v102 = .int .i64 x102_5 ∧ Aside0 (band_Within.l2 kq l0 l1 ji8 (wrap64 ((ji8) + 1)) x9_5 x65_3 ji23 ji24 x14_5 (l0.length : Int) x65_3 (wrap64 ((wrap64 (ji24 - ji23)) + 1)) x102_5 = some (r1, r2)) ∧ Aside0 (kq ≤ kj28) ∧ Aside0 (Kd.R (Kd.int .i64) 3 w' w.heap.size (fun _ => True) (.slice (some ⟨go28, 0, none⟩) x9_28.length co14) x9_5) ∧ Aside0 (Below w.heap.size w w'))
                                case atStart => exact ⟨(x9_28), ((rd x9_3 (ji25))), (0), (by first | rfl | (simp; done) | (simp only [← hji25] <;> (first | rfl | simp)) | (simp [*]; done)), (by first | rfl | (simp; done) | (simp [*]; done)), H', ⟨Nat.le_refl _⟩, ⟨by (try simp only [hl9_2]); (try simp only [hl9_3]); (try simp only [hl9_28]); (with_reducible repeat (first | apply Kd.R_alloc | apply Kd.R_drewN | apply Kd.R_drew)); exact HO_9.out⟩, ⟨by repeat (first | (with_reducible first | exact HB.out | apply below_alloc | apply pw_below_drewN | apply below_drew1) | exact HB.out)⟩⟩
                                case round =>
                                  clear H'
                                  try clear c1
                                  try clear p1
                                  try clear q1
                                  try clear hx1
                                  try clear c2
                                  try clear p2
                                  try clear q2
                                  try clear hx2
                                  try clear c3
                                  try clear p3
                                  try clear q3
                                  try clear hx3
                                  try clear qi3
                                  try clear hf3
                                  try clear c5
                                  try clear c5b0
                                  try clear c6
                                  try clear c6b0
                                  try clear p6
                                  try clear c7
                                  try clear c10
                                  try clear c10b0
                                  try clear c10b1
                                  try clear c11
                                  try clear c11b0
                                  try clear c11b1
                                  try clear c15
                                  try clear c15b0
                                  try clear c17
                                  try clear c17b0
                                  try clear c18
                                  try clear c18b0
                                  try clear p19
                                  try clear q19
                                  try clear hx19
                                  try clear hf19
                                  try clear c22
                                  try clear c22b0
                                  try clear c26
                                  try clear c26b0
                                  try clear c27
                                  try clear c27b0
                                  try clear p28
                                  try clear q28
                                  try clear hx28
                                  try clear hf28
                                  try clear c31
                                  try clear c32
                                  try clear c32b0
                                  try clear c32b1
                                  try clear c34
                                  try clear c34b0
                                  try clear c34b1
                                  try clear p35
                                  try clear q35
                                  try clear hx35
                                  try clear qi35
                                  try clear hf35
                                  try clear hx19_0
                                  try clear hx286_0
                                  try clear hx28_0
                                  try clear hx35_0
                                  try clear p1
                                  try clear p19
                                  try clear p2
                                  try clear p28
                                  try clear p286
                                  try clear p3
                                  try clear p35
                                  try clear p6
                                  try clear q1
                                  try clear q19
                                  try clear q2
                                  try clear q28
                                  try clear q286
                                  try clear q3
                                  try clear q35
                                  obtain ⟨x9_5, x14_5, x102_5, rfl, rfl, HA, HK5, HO_9, HB⟩ := hrel
                                  have hl9_5 := (Kd.R_reads' HO_9.out).1
                                  rw [hl9_5] at HO_9
                                  (try simp only [hl9_5])
                                  cases gk with
                                  | zero => exact absurd HA.out (by simp [band_Within.l2])
                                  | succ k5 =>
                                    have H := HA.out
                                    clear HA
                                    simp only [band_Within.l2] at H
                                    by_cases c38 : x102_5 < (wrap64 ((wrap64 (ji24 - ji23)) + 1))
                                    · rw [if_pos c38] at H
                                      have c38b0 : decide (x102_5 < (wrap64 ((wrap64 (ji24 - ji23)) + 1))) = true := decide_eq_true c38
                                      clear c38
                                      by_cases c39 : 0 ≤ x65_3
                                      · rw [if_pos c39] at H
                                        have c39b0 : decide (0 ≤ x65_3) = true := decide_eq_true c39
                                        clear c39
                                        by_cases c40 : x65_3 < (l0.length : Int)
                                        · rw [if_pos c40] at H
                                          have c40b0 : decide (x65_3 < (l0.length : Int)) = true := decide_eq_true c40
                                          (try (have c40b0z0 := c40b0; rw [hl9_2] at c40b0z0))
                                          (try (have c40b0z1 := c40b0; rw [hl9_3] at c40b0z1))
                                          (try (have c40b0z2 := c40b0; rw [hl9_28] at c40b0z2))
                                          (try (have c40b0z3 := c40b0; rw [hl9_5] at c40b0z3))
                                          clear c40
                                          obtain ⟨ji41, hji41⟩ : ∃ j_ : Int, (wrap64 ((wrap64 (x102_5 + ji23)) - 1)) = j_ := ⟨_, rfl⟩
                                          replace H : (if 0 ≤ (ji41) then (if (ji41) < (l1.length : Int) then (if (rd l0 x65_3) = (rd l1 (ji41)) then (if 0 ≤ (wrap64 (x102_5 + ji23)) then (if (wrap64 (x102_5 + ji23)) < (x9_5.length : Int) then (if (ji41) < (x9_5.length : Int) then (band_Within.l2 k5 l0 l1 ji8 (wrap64 ((ji8) + 1)) (x9_5.set ((wrap64 (x102_5 + ji23)) : Int).toNat (mn (mn (mn (wrap64 ((rd x9_5 (wrap64 (x102_5 + ji23))) + 1)) (wrap64 ((rd x9_5 (ji41)) + 1))) x14_5) (wrap64 ((ji8) + 1)))) x65_3 ji23 ji24 (rd x9_5 (wrap64 (x102_5 + ji23))) (l0.length : Int) x65_3 (wrap64 ((wrap64 (ji24 - ji23)) + 1)) (wrap64 (x102_5 + 1))) else (none)) else (none)) else (none)) else (if 0 ≤ (wrap64 (x102_5 + ji23)) then (if (wrap64 (x102_5 + ji23)) < (x9_5.length : Int) then (if (ji41) < (x9_5.length : Int) then (band_Within.l2 k5 l0 l1 ji8 (wrap64 ((ji8) + 1)) (x9_5.set ((wrap64 (x102_5 + ji23)) : Int).toNat (mn (mn (mn (wrap64 ((rd x9_5 (wrap64 (x102_5 + ji23))) + 1)) (wrap64 ((rd x9_5 (ji41)) + 1))) (wrap64 (x14_5 + 1))) (wrap64 ((ji8) + 1)))) x65_3 ji23 ji24 (rd x9_5 (wrap64 (x102_5 + ji23))) (l0.length : Int) x65_3 (wrap64 ((wrap64 (ji24 - ji23)) + 1)) (wrap64 (x102_5 + 1))) else (none)) else (none)) else (none))) else (none)) else (none)) = some (r1, r2) := by first | (rw [hji41] at H; exact H) | (simp only [hji41] at H ⊢; exact H)
                                          have hji41w : (IntKind.i64.wrap ((wrap64 (x102_5 + ji23)) - 1)) = ji41 := (i64_w _).trans hji41
                                          by_cases c42 : 0 ≤ (ji41)
                                          · rw [if_pos c42] at H
                                            have c42b0 : decide (0 ≤ (ji41)) = true := decide_eq_true c42
                                            clear c42
                                            by_cases c43 : (ji41) < (l1.length : Int)
                                            · rw [if_pos c43] at H
                                              have c43b0 : decide ((ji41) < (l1.length : Int)) = true := decide_eq_true c43
                                              (try (have c43b0z0 := c43b0; rw [hl9_2] at c43b0z0))
                                              (try (have c43b0z1 := c43b0; rw [hl9_3] at c43b0z1))
                                              (try (have c43b0z2 := c43b0; rw [hl9_28] at c43b0z2))
                                              (try (have c43b0z3 := c43b0; rw [hl9_5] at c43b0z3))
                                              clear c43
                                              by_cases c44 : (rd l0 x65_3) = (rd l1 (ji41))
                                              · rw [if_pos c44] at H
                                                have c44b0 : ((rd l0 x65_3) == (rd l1 (ji41))) = true := beq_iff_eq.mpr c44
                                                have c44b1 : ((rd l0 x65_3) != (rd l1 (ji41))) = false := bne_eq_false_iff_eq.mpr c44
                                                clear c44
                                                obtain ⟨ji45, hji45⟩ : ∃ j_ : Int, (wrap64 (x102_5 + ji23)) = j_ := ⟨_, rfl⟩
                                                (try (have hji41w_hji45 := hji41w; rw [hji45] at hji41w_hji45))
                                                replace H : (if 0 ≤ (ji45) then (if (ji45) < (x9_5.length : Int) then (if (ji41) < (x9_5.length : Int) then (band_Within.l2 k5 l0 l1 ji8 (wrap64 ((ji8) + 1)) (x9_5.set ((ji45) : Int).toNat (mn (mn (mn (wrap64 ((rd x9_5 (ji45)) + 1)) (wrap64 ((rd x9_5 (ji41)) + 1))) x14_5) (wrap64 ((ji8) + 1)))) x65_3 ji23 ji24 (rd x9_5 (ji45)) (l0.length : Int) x65_3 (wrap64 ((wrap64 (ji24 - ji23)) + 1)) (wrap64 (x102_5 + 1))) else (none)) else (none)) else (none)) = some (r1, r2) := by first | (rw [hji45] at H; exact H) | (simp only [hji45] at H ⊢; exact H)
                                                have hji45w : (IntKind.i64.wrap (x102_5 + ji23)) = ji45 := (i64_w _).trans hji45
                                                by_cases c46 : 0 ≤ (ji45)
                                                · rw [if_pos c46] at H
                                                  have c46b0 : decide (0 ≤ (ji45)) = true := decide_eq_true c46
                                                  clear c46
                                                  by_cases c47 : (ji45) < (x9_5.length : Int)
                                                  · rw [if_pos c47] at H
                                                    have c47b0 : decide ((ji45) < (x9_5.length : Int)) = true := decide_eq_true c47
                                                    (try (have c47b0z0 := c47b0; rw [hl9_2] at c47b0z0))
                                                    (try (have c47b0z1 := c47b0; rw [hl9_3] at c47b0z1))
                                                    (try (have c47b0z2 := c47b0; rw [hl9_28] at c47b0z2))
                                                    (try (have c47b0z3 := c47b0; rw [hl9_5] at c47b0z3))
                                                    clear c47
                                                    by_cases c48 : (ji41) < (x9_5.length : Int)
                                                    · rw [if_pos c48] at H
                                                      have c48b0 : decide ((ji41) < (x9_5.length : Int)) = true := decide_eq_true c48
                                                      (try (have c48b0z0 := c48b0; rw [hl9_2] at c48b0z0))
                                                      (try (have c48b0z1 := c48b0; rw [hl9_3] at c48b0z1))
                                                      (try (have c48b0z2 := c48b0; rw [hl9_28] at c48b0z2))
                                                      (try (have c48b0z3 := c48b0; rw [hl9_5] at c48b0z3))
                                                      clear c48
                                                      obtain ⟨ji49, hji49⟩ : ∃ j_ : Int, (mn (wrap64 ((rd x9_5 (ji45)) + 1)) (wrap64 ((rd x9_5 (ji41)) + 1))) = j_ := ⟨_, rfl⟩
                                                      replace H : (band_Within.l2 k5 l0 l1 ji8 (wrap64 ((ji8) + 1)) (x9_5.set ((ji45) : Int).toNat (mn (mn (ji49) x14_5) (wrap64 ((ji8) + 1)))) x65_3 ji23 ji24 (rd x9_5 (ji45)) (l0.length : Int) x65_3 (wrap64 ((wrap64 (ji24 - ji23)) + 1)) (wrap64 (x102_5 + 1))) = some (r1, r2) := by first | (rw [hji49] at H; exact H) | (simp only [hji49] at H ⊢; exact H)
                                                      have hji49_ : (if (wrap64 ((rd x9_5 (ji41)) + 1)) < (wrap64 ((rd x9_5 (ji45)) + 1)) then (wrap64 ((rd x9_5 (ji41)) + 1)) else (wrap64 ((rd x9_5 (ji45)) + 1))) = ji49 := hji49
                                                      obtain ⟨ji50, hji50⟩ : ∃ j_ : Int, (mn (ji49) x14_5) = j_ := ⟨_, rfl⟩
                                                      replace H : (band_Within.l2 k5 l0 l1 ji8 (wrap64 ((ji8) + 1)) (x9_5.set ((ji45) : Int).toNat (mn (ji50) (wrap64 ((ji8) + 1)))) x65_3 ji23 ji24 (rd x9_5 (ji45)) (l0.length : Int) x65_3 (wrap64 ((wrap64 (ji24 - ji23)) + 1)) (wrap64 (x102_5 + 1))) = some (r1, r2) := by first | (rw [hji50] at H; exact H) | (simp only [hji50] at H ⊢; exact H)
                                                      have hji50_ : (if x14_5 < (ji49) then x14_5 else (ji49)) = ji50 := hji50
                                                      obtain ⟨ji51, hji51⟩ : ∃ j_ : Int, (mn (ji50) (wrap64 ((ji8) + 1))) = j_ := ⟨_, rfl⟩
                                                      replace H : (band_Within.l2 k5 l0 l1 ji8 (wrap64 ((ji8) + 1)) (x9_5.set ((ji45) : Int).toNat (ji51)) x65_3 ji23 ji24 (rd x9_5 (ji45)) (l0.length : Int) x65_3 (wrap64 ((wrap64 (ji24 - ji23)) + 1)) (wrap64 (x102_5 + 1))) = some (r1, r2) := by first | (rw [hji51] at H; exact H) | (simp only [hji51] at H ⊢; exact H)
                                                      have hji51_ : (if (wrap64 ((ji8) + 1)) < (ji50) then (wrap64 ((ji8) + 1)) else (ji50)) = ji51 := hji51
                                                      obtain ⟨y293, hy293⟩ : ∃ y_ : List Int, y_ = (x9_5.set ((ji45) : Int).toNat (ji51)) := ⟨_, rfl⟩
                                                      replace H : (band_Within.l2 k5 l0 l1 ji8 (wrap64 ((ji8) + 1)) y293 x65_3 ji23 ji24 (rd x9_5 (ji45)) (l0.length : Int) x65_3 (wrap64 ((wrap64 (ji24 - ji23)) + 1)) (wrap64 (x102_5 + 1))) = some (r1, r2) := by first | (rw [hy293]; with_reducible exact H) | (have H2_ := (Option.bind_some _ _).symm.trans H; rw [hy293]; with_reducible exact H2_) | (have H2_ := (Option.bind_some _ _).symm.trans H; with_reducible exact H2_) | with_reducible exact H | (rw [hy293]; exact H) | exact H
                                                      have Ny293 := Aside0.mk hy293
                                                      clear hy293
                                                      have H' := Aside0.mk H
                                                      clear H
                                                      have p289 : 0 ≤ (x65_3 : Int) := of_decide_eq_true (by first | (with_reducible assumption) | assumption)
                                                      have q289 : x65_3 < (l0.length : Int) := of_decide_eq_true (by first | (with_reducible assumption) | assumption)
                                                      obtain ⟨ad289, e289, hx289_0⟩ := Kd.at_int HR0.out x65_3 p289 q289
                                                      cases e289
                                                      replace hx289_0 := (HB.out.cell (World.block_lt_of_cell? w _ hx289_0)).trans hx289_0
                                                      replace p289 := eq_true p289
                                                      replace q289 := eq_true q289
                                                      have p290 : 0 ≤ ((ji41) : Int) := of_decide_eq_true (by first | (with_reducible assumption) | assumption)
                                                      have q290 : (ji41) < (l1.length : Int) := of_decide_eq_true (by first | (with_reducible assumption) | assumption)
                                                      obtain ⟨ad290, e290, hx290_0⟩ := Kd.at_int HR1.out (ji41) p290 q290
                                                      cases e290
                                                      replace hx290_0 := (HB.out.cell (World.block_lt_of_cell? w _ hx290_0)).trans hx290_0
                                                      replace p290 := eq_true p290
                                                      replace q290 := eq_true q290
                                                      have p291 : 0 ≤ ((ji45) : Int) := of_decide_eq_true (by first | (with_reducible assumption) | assumption)
                                                      have q291 : (ji45) < (x9_5.length : Int) := of_decide_eq_true (by first | (with_reducible assumption) | assumption)
                                                      obtain ⟨ad291, e291, hx291_0⟩ := Kd.at_int (Kd.R_reads' HO_9.out).2.2 (ji45) p291 q291
                                                      obtain rfl : (⟨go28, 0, none⟩ : Addr) = ad291 := (by injection e291)
                                                      (first | simp only [add_plain] at hx291_0 | simp only [add_at] at hx291_0 | simp only [Addr.add, Nat.zero_add] at hx291_0 | skip)
                                                      replace p291 := eq_true p291
                                                      replace q291 := eq_true q291
                                                      have p292 : 0 ≤ ((ji41) : Int) := of_decide_eq_true (by first | (with_reducible assumption) | assumption)
                                                      have q292 : (ji41) < (x9_5.length : Int) := of_decide_eq_true (by first | (with_reducible assumption) | assumption)
                                                      obtain ⟨ad292, e292, hx292_0⟩ := Kd.at_int (Kd.R_reads' HO_9.out).2.2 (ji41) p292 q292
                                                      obtain rfl : (⟨go28, 0, none⟩ : Addr) = ad292 := (by injection e292)
                                                      (first | simp only [add_plain] at hx292_0 | simp only [add_at] at hx292_0 | simp only [Addr.add, Nat.zero_add] at hx292_0 | skip)
                                                      replace p292 := eq_true p292
                                                      replace q292 := eq_true q292
                                                      have p52 : 0 ≤ ((ji45) : Int) := of_decide_eq_true (by first | (with_reducible assumption) | assumption)
                                                      have q52 : ((ji45) : Int) < ((x9_5.length : Int) : Int) := of_decide_eq_true (by first | (with_reducible assumption) | assumption)
                                                      obtain ⟨hx52_0, hf52_0⟩ := Kd.R_celln 0 HO_9.out ((ji45) : Int) p52 q52
                                                      replace p52 := eq_true p52
                                                      replace q52 := eq_true q52
                                                      have HP53 := Kd.R_putg HO_9.out ((ji45) : Int) ji51
                                                      go_wp2_with (first | ((with_reducible refine gate_store (t := 3) (p := 138) rfl ?_); (try (rw [drewN_self wr]; generalize hq_ : World.drewN wr _ = wr; have n0_ := Aside0.mk (Kd.R_at hq_ HO_9.out); have n1_ := Aside0.mk (below_at hq_ HB.out); clear hq_ HO_9 HB; have HO_9 := n0_; have HB := n1_; clear n0_ n1_; (try (have HP53 := Kd.R_putg HO_9.out ((ji45) : Int) ji51)))); refine store_event (t := 3) (p := 138) (v := ?vo_w54) (w1 := (wr.setCell ⟨go28, ((ji45) : Int).toNat, none⟩ (.int .i64 ji51))) ?hg ?ho ?hn ?hr ?_; (case ho => rfl); (case hg => rfl); (case hn => rfl); (case hr => first | (go_simp; done) | (go_simp; rfl)); intro w54 hw; have hg : wr.grownBy w54 (some go28) := (by rw [hw]; exact HP53.2); have hp_ : Kd.R (Kd.int .i64) 3 w54 w.heap.size (fun _ => True) (.slice (some ⟨go28, 0, none⟩) x9_5.length co14) y293 := (by rw [hw, Ny293.out]; exact HP53.1); clear HP53; have n0_ := Aside0.mk (hp_); have n1_ := Aside0.mk ((by rw [hw]; exact below_set (HB.out) GB28.out : Below w.heap.size w w54)); clear HO_9; clear HB; have HO_9 := n0_; have HB := n1_; clear n0_ n1_; clear hg hw hp_))
                                                      repeat (go_quiet (first | ((with_reducible refine gate_store (t := 3) (p := 138) rfl ?_); (try (rw [drewN_self wr]; generalize hq_ : World.drewN wr _ = wr; have n0_ := Aside0.mk (Kd.R_at hq_ HO_9.out); have n1_ := Aside0.mk (below_at hq_ HB.out); clear hq_ HO_9 HB; have HO_9 := n0_; have HB := n1_; clear n0_ n1_; (try (have HP53 := Kd.R_putg HO_9.out ((ji45) : Int) ji51)))); refine store_event (t := 3) (p := 138) (v := ?vo_w54) (w1 := (wr.setCell ⟨go28, ((ji45) : Int).toNat, none⟩ (.int .i64 ji51))) ?hg ?ho ?hn ?hr ?_; (case ho => rfl); (case hg => rfl); (case hn => rfl); (case hr => first | (go_simp; done) | (go_simp; rfl)); intro w54 hw; have hg : wr.grownBy w54 (some go28) := (by rw [hw]; exact HP53.2); have hp_ : Kd.R (Kd.int .i64) 3 w54 w.heap.size (fun _ => True) (.slice (some ⟨go28, 0, none⟩) x9_5.length co14) y293 := (by rw [hw, Ny293.out]; exact HP53.1); clear HP53; have n0_ := Aside0.mk (hp_); have n1_ := Aside0.mk ((by rw [hw]; exact below_set (HB.out) GB28.out : Below w.heap.size w w54)); clear HO_9; clear HB; have HO_9 := n0_; have HB := n1_; clear n0_ n1_; clear hg hw hp_)); try go_wp2_with (first | ((with_reducible refine gate_store (t := 3) (p := 138) rfl ?_); (try (rw [drewN_self wr]; generalize hq_ : World.drewN wr _ = wr; have n0_ := Aside0.mk (Kd.R_at hq_ HO_9.out); have n1_ := Aside0.mk (below_at hq_ HB.out); clear hq_ HO_9 HB; have HO_9 := n0_; have HB := n1_; clear n0_ n1_; (try (have HP53 := Kd.R_putg HO_9.out ((ji45) : Int) ji51)))); refine store_event (t := 3) (p := 138) (v := ?vo_w54) (w1 := (wr.setCell ⟨go28, ((ji45) : Int).toNat, none⟩ (.int .i64 ji51))) ?hg ?ho ?hn ?hr ?_; (case ho => rfl); (case hg => rfl); (case hn => rfl); (case hr => first | (go_simp; done) | (go_simp; rfl)); intro w54 hw; have hg : wr.grownBy w54 (some go28) := (by rw [hw]; exact HP53.2); have hp_ : Kd.R (Kd.int .i64) 3 w54 w.heap.size (fun _ => True) (.slice (some ⟨go28, 0, none⟩) x9_5.length co14) y293 := (by rw [hw, Ny293.out]; exact HP53.1); clear HP53; have n0_ := Aside0.mk (hp_); have n1_ := Aside0.mk ((by rw [hw]; exact below_set (HB.out) GB28.out : Below w.heap.size w w54)); clear HO_9; clear HB; have HO_9 := n0_; have HB := n1_; clear n0_ n1_; clear hg hw hp_)))
                                                      (try simp only [← hl9_5])
                                                      go_roundg k5
                                                      case measure => have := HJ3.out; have := HK2.out; have := HK3.out; have := HJ28.out; have := HK5.out; omega
                                                      case rel => exact ⟨(y293), (rd x9_5 (ji45)), (wrap64 (x102_5 + 1)), (by first | rfl | (simp; done) | (simp only [← hji45] <;> (first | rfl | simp)) | (simp [*]; done)), (by first | rfl | (simp; done) | (simp [*]; done)), H', ⟨by have := HJ3.out; have := HK2.out; have := HK3.out; have := HJ28.out; have := HK5.out; omega⟩, ⟨by (try simp only [hl9_2]); (try simp only [hl9_3]); (try simp only [hl9_28]); (try simp only [hl9_5]); (with_reducible repeat (first | apply Kd.R_alloc | apply Kd.R_drewN | apply Kd.R_drew)); first | exact HO_9.out | (rw [Ny293.out]; exact (Kd.R_putg (Kd.R_drewN HO_9.out _) _ _).1)⟩, ⟨by first | exact below_set (pw_below_drewN HB.out _) GB28.out | (repeat (first | (with_reducible first | exact HB.out | apply below_alloc | apply pw_below_drewN | apply below_drew1) | exact HB.out))⟩⟩
                                                    · rw [if_neg c48] at H
                                                      exact absurd H (by simp)
                                                  · rw [if_neg c47] at H
                                                    exact absurd H (by simp)
                                                · rw [if_neg c46] at H
                                                  exact absurd H (by simp)
                                              · rw [if_neg c44] at H
                                                have c44b0 : ((rd l0 x65_3) == (rd l1 (ji41))) = false := beq_eq_false_iff_ne.mpr c44
                                                have c44b1 : ((rd l0 x65_3) != (rd l1 (ji41))) = true := bne_iff_ne.mpr c44
                                                obtain ⟨ji55, hji55⟩ : ∃ j_ : Int, (wrap64 (x102_5 + ji23)) = j_ := ⟨_, rfl⟩
                                                (try (have hji41w_hji55 := hji41w; rw [hji55] at hji41w_hji55))
                                                replace H : (if 0 ≤ (ji55) then (if (ji55) < (x9_5.length : Int) then (if (ji41) < (x9_5.length : Int) then (band_Within.l2 k5 l0 l1 ji8 (wrap64 ((ji8) + 1)) (x9_5.set ((ji55) : Int).toNat (mn (mn (mn (wrap64 ((rd x9_5 (ji55)) + 1)) (wrap64 ((rd x9_5 (ji41)) + 1))) (wrap64 (x14_5 + 1))) (wrap64 ((ji8) + 1)))) x65_3 ji23 ji24 (rd x9_5 (ji55)) (l0.length : Int) x65_3 (wrap64 ((wrap64 (ji24 - ji23)) + 1)) (wrap64 (x102_5 + 1))) else (none)) else (none)) else (none)) = some (r1, r2) := by first | (rw [hji55] at H; exact H) | (simp only [hji55] at H ⊢; exact H)
                                                have hji55w : (IntKind.i64.wrap (x102_5 + ji23)) = ji55 := (i64_w _).trans hji55
                                                by_cases c56 : 0 ≤ (ji55)
                                                · rw [if_pos c56] at H
                                                  have c56b0 : decide (0 ≤ (ji55)) = true := decide_eq_true c56
                                                  clear c56
                                                  by_cases c57 : (ji55) < (x9_5.length : Int)
                                                  · rw [if_pos c57] at H
                                                    have c57b0 : decide ((ji55) < (x9_5.length : Int)) = true := decide_eq_true c57
                                                    (try (have c57b0z0 := c57b0; rw [hl9_2] at c57b0z0))
                                                    (try (have c57b0z1 := c57b0; rw [hl9_3] at c57b0z1))
                                                    (try (have c57b0z2 := c57b0; rw [hl9_28] at c57b0z2))
                                                    (try (have c57b0z3 := c57b0; rw [hl9_5] at c57b0z3))
                                                    clear c57
                                                    by_cases c58 : (ji41) < (x9_5.length : Int)
                                                    · rw [if_pos c58] at H
                                                      have c58b0 : decide ((ji41) < (x9_5.length : Int)) = true := decide_eq_true c58
                                                      (try (have c58b0z0 := c58b0; rw [hl9_2] at c58b0z0))
                                                      (try (have c58b0z1 := c58b0; rw [hl9_3] at c58b0z1))
                                                      (try (have c58b0z2 := c58b0; rw [hl9_28] at c58b0z2))
                                                      (try (have c58b0z3 := c58b0; rw [hl9_5] at c58b0z3))
                                                      clear c58
                                                      obtain ⟨ji59, hji59⟩ : ∃ j_ : Int, (mn (wrap64 ((rd x9_5 (ji55)) + 1)) (wrap64 ((rd x9_5 (ji41)) + 1))) = j_ := ⟨_, rfl⟩
                                                      replace H : (band_Within.l2 k5 l0 l1 ji8 (wrap64 ((ji8) + 1)) (x9_5.set ((ji55) : Int).toNat (mn (mn (ji59) (wrap64 (x14_5 + 1))) (wrap64 ((ji8) + 1)))) x65_3 ji23 ji24 (rd x9_5 (ji55)) (l0.length : Int) x65_3 (wrap64 ((wrap64 (ji24 - ji23)) + 1)) (wrap64 (x102_5 + 1))) = some (r1, r2) := by first | (rw [hji59] at H; exact H) | (simp only [hji59] at H ⊢; exact H)
                                                      have hji59_ : (if (wrap64 ((rd x9_5 (ji41)) + 1)) < (wrap64 ((rd x9_5 (ji55)) + 1)) then (wrap64 ((rd x9_5 (ji41)) + 1)) else (wrap64 ((rd x9_5 (ji55)) + 1))) = ji59 := hji59
                                                      obtain ⟨ji60, hji60⟩ : ∃ j_ : Int, (mn (ji59) (wrap64 (x14_5 + 1))) = j_ := ⟨_, rfl⟩
                                                      replace H : (band_Within.l2 k5 l0 l1 ji8 (wrap64 ((ji8) + 1)) (x9_5.set ((ji55) : Int).toNat (mn (ji60) (wrap64 ((ji8) + 1)))) x65_3 ji23 ji24 (rd x9_5 (ji55)) (l0.length : Int) x65_3 (wrap64 ((wrap64 (ji24 - ji23)) + 1)) (wrap64 (x102_5 + 1))) = some (r1, r2) := by first | (rw [hji60] at H; exact H) | (simp only [hji60] at H ⊢; exact H)
                                                      have hji60_ : (if (wrap64 (x14_5 + 1)) < (ji59) then (wrap64 (x14_5 + 1)) else (ji59)) = ji60 := hji60
                                                      obtain ⟨ji61, hji61⟩ : ∃ j_ : Int, (mn (ji60) (wrap64 ((ji8) + 1))) = j_ := ⟨_, rfl⟩
                                                      replace H : (band_Within.l2 k5 l0 l1 ji8 (wrap64 ((ji8) + 1)) (x9_5.set ((ji55) : Int).toNat (ji61)) x65_3 ji23 ji24 (rd x9_5 (ji55)) (l0.length : Int) x65_3 (wrap64 ((wrap64 (ji24 - ji23)) + 1)) (wrap64 (x102_5 + 1))) = some (r1, r2) := by first | (rw [hji61] at H; exact H) | (simp only [hji61] at H ⊢; exact H)
                                                      have hji61_ : (if (wrap64 ((ji8) + 1)) < (ji60) then (wrap64 ((ji8) + 1)) else (ji60)) = ji61 := hji61
                                                      obtain ⟨y296, hy296⟩ : ∃ y_ : List Int, y_ = (x9_5.set ((ji55) : Int).toNat (ji61)) := ⟨_, rfl⟩
                                                      replace H : (band_Within.l2 k5 l0 l1 ji8 (wrap64 ((ji8) + 1)) y296 x65_3 ji23 ji24 (rd x9_5 (ji55)) (l0.length : Int) x65_3 (wrap64 ((wrap64 (ji24 - ji23)) + 1)) (wrap64 (x102_5 + 1))) = some (r1, r2) := by first | (rw [hy296]; with_reducible exact H) | (have H2_ := (Option.bind_some _ _).symm.trans H; rw [hy296]; with_reducible exact H2_) | (have H2_ := (Option.bind_some _ _).symm.trans H; with_reducible exact H2_) | with_reducible exact H | (rw [hy296]; exact H) | exact H
                                                      have Ny296 := Aside0.mk hy296
                                                      clear hy296
                                                      have H' := Aside0.mk H
                                                      clear H
                                                      have p289 : 0 ≤ (x65_3 : Int) := of_decide_eq_true (by first | (with_reducible assumption) | assumption)
                                                      have q289 : x65_3 < (l0.length : Int) := of_decide_eq_true (by first | (with_reducible assumption) | assumption)
                                                      obtain ⟨ad289, e289, hx289_0⟩ := Kd.at_int HR0.out x65_3 p289 q289
                                                      cases e289
                                                      replace hx289_0 := (HB.out.cell (World.block_lt_of_cell? w _ hx289_0)).trans hx289_0
                                                      replace p289 := eq_true p289
                                                      replace q289 := eq_true q289
                                                      have p290 : 0 ≤ ((ji41) : Int) := of_decide_eq_true (by first | (with_reducible assumption) | assumption)
                                                      have q290 : (ji41) < (l1.length : Int) := of_decide_eq_true (by first | (with_reducible assumption) | assumption)
                                                      obtain ⟨ad290, e290, hx290_0⟩ := Kd.at_int HR1.out (ji41) p290 q290
                                                      cases e290
                                                      replace hx290_0 := (HB.out.cell (World.block_lt_of_cell? w _ hx290_0)).trans hx290_0
                                                      replace p290 := eq_true p290
                                                      replace q290 := eq_true q290
                                                      have p294 : 0 ≤ ((ji55) : Int) := of_decide_eq_true (by first | (with_reducible assumption) | assumption)
                                                      have q294 : (ji55) < (x9_5.length : Int) := of_decide_eq_true (by first | (with_reducible assumption) | assumption)
                                                      obtain ⟨ad294, e294, hx294_0⟩ := Kd.at_int (Kd.R_reads' HO_9.out).2.2 (ji55) p294 q294
                                                      obtain rfl : (⟨go28, 0, none⟩ : Addr) = ad294 := (by injection e294)
                                                      (first | simp only [add_plain] at hx294_0 | simp only [add_at] at hx294_0 | simp only [Addr.add, Nat.zero_add] at hx294_0 | skip)
                                                      replace p294 := eq_true p294
                                                      replace q294 := eq_true q294
                                                      have p295 : 0 ≤ ((ji41) : Int) := of_decide_eq_true (by first | (with_reducible assumption) | assumption)
                                                      have q295 : (ji41) < (x9_5.length : Int) := of_decide_eq_true (by first | (with_reducible assumption) | assumption)
                                                      obtain ⟨ad295, e295, hx295_0⟩ := Kd.at_int (Kd.R_reads' HO_9.out).2.2 (ji41) p295 q295
                                                      obtain rfl : (⟨go28, 0, none⟩ : Addr) = ad295 := (by injection e295)
                                                      (first | simp only [add_plain] at hx295_0 | simp only [add_at] at hx295_0 | simp only [Addr.add, Nat.zero_add] at hx295_0 | skip)
                                                      replace p295 := eq_true p295
                                                      replace q295 := eq_true q295
                                                      have p62 : 0 ≤ ((ji55) : Int) := of_decide_eq_true (by first | (with_reducible assumption) | assumption)
                                                      have q62 : ((ji55) : Int) < ((x9_5.length : Int) : Int) := of_decide_eq_true (by first | (with_reducible assumption) | assumption)
                                                      obtain ⟨hx62_0, hf62_0⟩ := Kd.R_celln 0 HO_9.out ((ji55) : Int) p62 q62
                                                      replace p62 := eq_true p62
                                                      replace q62 := eq_true q62
                                                      have HP63 := Kd.R_putg HO_9.out ((ji55) : Int) ji61
                                                      go_wp2_with (first | ((with_reducible refine gate_store (t := 3) (p := 138) rfl ?_); (try (rw [drewN_self wr]; generalize hq_ : World.drewN wr _ = wr; have n0_ := Aside0.mk (Kd.R_at hq_ HO_9.out); have n1_ := Aside0.mk (below_at hq_ HB.out); clear hq_ HO_9 HB; have HO_9 := n0_; have HB := n1_; clear n0_ n1_; (try (have HP63 := Kd.R_putg HO_9.out ((ji55) : Int) ji61)))); refine store_event (t := 3) (p := 138) (v := ?vo_w64) (w1 := (wr.setCell ⟨go28, ((ji55) : Int).toNat, none⟩ (.int .i64 ji61))) ?hg ?ho ?hn ?hr ?_; (case ho => rfl); (case hg => rfl); (case hn => rfl); (case hr => first | (go_simp; done) | (go_simp; rfl)); intro w64 hw; have hg : wr.grownBy w64 (some go28) := (by rw [hw]; exact HP63.2); have hp_ : Kd.R (Kd.int .i64) 3 w64 w.heap.size (fun _ => True) (.slice (some ⟨go28, 0, none⟩) x9_5.length co14) y296 := (by rw [hw, Ny296.out]; exact HP63.1); clear HP63; have n0_ := Aside0.mk (hp_); have n1_ := Aside0.mk ((by rw [hw]; exact below_set (HB.out) GB28.out : Below w.heap.size w w64)); clear HO_9; clear HB; have HO_9 := n0_; have HB := n1_; clear n0_ n1_; clear hg hw hp_))
                                                      repeat (go_quiet (first | ((with_reducible refine gate_store (t := 3) (p := 138) rfl ?_); (try (rw [drewN_self wr]; generalize hq_ : World.drewN wr _ = wr; have n0_ := Aside0.mk (Kd.R_at hq_ HO_9.out); have n1_ := Aside0.mk (below_at hq_ HB.out); clear hq_ HO_9 HB; have HO_9 := n0_; have HB := n1_; clear n0_ n1_; (try (have HP63 := Kd.R_putg HO_9.out ((ji55) : Int) ji61)))); refine store_event (t := 3) (p := 138) (v := ?vo_w64) (w1 := (wr.setCell ⟨go28, ((ji55) : Int).toNat, none⟩ (.int .i64 ji61))) ?hg ?ho ?hn ?hr ?_; (case ho => rfl); (case hg => rfl); (case hn => rfl); (case hr => first | (go_simp; done) | (go_simp; rfl)); intro w64 hw; have hg : wr.grownBy w64 (some go28) := (by rw [hw]; exact HP63.2); have hp_ : Kd.R (Kd.int .i64) 3 w64 w.heap.size (fun _ => True) (.slice (some ⟨go28, 0, none⟩) x9_5.length co14) y296 := (by rw [hw, Ny296.out]; exact HP63.1); clear HP63; have n0_ := Aside0.mk (hp_); have n1_ := Aside0.mk ((by rw [hw]; exact below_set (HB.out) GB28.out : Below w.heap.size w w64)); clear HO_9; clear HB; have HO_9 := n0_; have HB := n1_; clear n0_ n1_; clear hg hw hp_)); try go_wp2_with (first | ((with_reducible refine gate_store (t := 3) (p := 138) rfl ?_); (try (rw [drewN_self wr]; generalize hq_ : World.drewN wr _ = wr; have n0_ := Aside0.mk (Kd.R_at hq_ HO_9.out); have n1_ := Aside0.mk (below_at hq_ HB.out); clear hq_ HO_9 HB; have HO_9 := n0_; have HB := n1_; clear n0_ n1_; (try (have HP63 := Kd.R_putg HO_9.out ((ji55) : Int) ji61)))); refine store_event (t := 3) (p := 138) (v := ?vo_w64) (w1 := (wr.setCell ⟨go28, ((ji55) : Int).toNat, none⟩ (.int .i64 ji61))) ?hg ?ho ?hn ?hr ?_; (case ho => rfl); (case hg => rfl); (case hn => rfl); (case hr => first | (go_simp; done) | (go_simp; rfl)); intro w64 hw; have hg : wr.grownBy w64 (some go28) := (by rw [hw]; exact HP63.2); have hp_ : Kd.R (Kd.int .i64) 3 w64 w.heap.size (fun _ => True) (.slice (some ⟨go28, 0, none⟩) x9_5.length co14) y296 := (by rw [hw, Ny296.out]; exact HP63.1); clear HP63; have n0_ := Aside0.mk (hp_); have n1_ := Aside0.mk ((by rw [hw]; exact below_set (HB.out) GB28.out : Below w.heap.size w w64)); clear HO_9; clear HB; have HO_9 := n0_; have HB := n1_; clear n0_ n1_; clear hg hw hp_)))
                                                      (try simp only [← hl9_5])
                                                      go_roundg k5
                                                      case measure => have := HJ3.out; have := HK2.out; have := HK3.out; have := HJ28.out; have := HK5.out; omega
                                                      case rel => exact ⟨(y296), (rd x9_5 (ji55)), (wrap64 (x102_5 + 1)), (by first | rfl | (simp; done) | (simp only [← hji55] <;> (first | rfl | simp)) | (simp [*]; done)), (by first | rfl | (simp; done) | (simp [*]; done)), H', ⟨by have := HJ3.out; have := HK2.out; have := HK3.out; have := HJ28.out; have := HK5.out; omega⟩, ⟨by (try simp only [hl9_2]); (try simp only [hl9_3]); (try simp only [hl9_28]); (try simp only [hl9_5]); (with_reducible repeat (first | apply Kd.R_alloc | apply Kd.R_drewN | apply Kd.R_drew)); first | exact HO_9.out | (rw [Ny296.out]; exact (Kd.R_putg (Kd.R_drewN HO_9.out _) _ _).1)⟩, ⟨by first | exact below_set (pw_below_drewN HB.out _) GB28.out | (repeat (first | (with_reducible first | exact HB.out | apply below_alloc | apply pw_below_drewN | apply below_drew1) | exact HB.out))⟩⟩
                                                    · rw [if_neg c58] at H
                                                      exact absurd H (by simp)
                                                  · rw [if_neg c57] at H
                                                    exact absurd H (by simp)
                                                · rw [if_neg c56] at H
                                                  exact absurd H (by simp)
                                            · rw [if_neg c43] at H
                                              exact absurd H (by simp)
                                          · rw [if_neg c42] at H
                                            exact absurd H (by simp)
                                        · rw [if_neg c40] at H
                                          exact absurd H (by simp)
                                      · rw [if_neg c39] at H
                                        exact absurd H (by simp)
                                    · rw [if_neg c38] at H
                                      have c38b0 : decide (x102_5 < (wrap64 ((wrap64 (ji24 - ji23)) + 1))) = false := decide_eq_false c38
                                      clear c38
                                      by_cases c65 : ji24 < (l1.length : Int)
                                      · rw [if_pos c65] at H
                                        have c65b0 : decide (ji24 < (l1.length : Int)) = true := decide_eq_true c65
                                        (try (have c65b0z0 := c65b0; rw [hl9_2] at c65b0z0))
                                        (try (have c65b0z1 := c65b0; rw [hl9_3] at c65b0z1))
                                        (try (have c65b0z2 := c65b0; rw [hl9_28] at c65b0z2))
                                        (try (have c65b0z3 := c65b0; rw [hl9_5] at c65b0z3))
                                        clear c65
                                        obtain ⟨ji66, hji66⟩ : ∃ j_ : Int, (wrap64 (ji24 + 1)) = j_ := ⟨_, rfl⟩
                                        replace H : (if 0 ≤ (ji66) then (if (ji66) < (x9_5.length : Int) then (band_Within.l1 k5 l0 l1 ji8 (wrap64 ((ji8) + 1)) (x9_5.set ((ji66) : Int).toNat (wrap64 ((ji8) + 1))) (l0.length : Int) (wrap64 (x65_3 + 1))) else (none)) else (none)) = some (r1, r2) := by first | (rw [hji66] at H; exact H) | (simp only [hji66] at H ⊢; exact H)
                                        have hji66w : (IntKind.i64.wrap (ji24 + 1)) = ji66 := (i64_w _).trans hji66
                                        by_cases c67 : 0 ≤ (ji66)
                                        · rw [if_pos c67] at H
                                          have c67b0 : decide (0 ≤ (ji66)) = true := decide_eq_true c67
                                          clear c67
                                          by_cases c68 : (ji66) < (x9_5.length : Int)
                                          · rw [if_pos c68] at H
                                            have c68b0 : decide ((ji66) < (x9_5.length : Int)) = true := decide_eq_true c68
                                            (try (have c68b0z0 := c68b0; rw [hl9_2] at c68b0z0))
                                            (try (have c68b0z1 := c68b0; rw [hl9_3] at c68b0z1))
                                            (try (have c68b0z2 := c68b0; rw [hl9_28] at c68b0z2))
                                            (try (have c68b0z3 := c68b0; rw [hl9_5] at c68b0z3))
                                            clear c68
                                            obtain ⟨y297, hy297⟩ : ∃ y_ : List Int, y_ = (x9_5.set ((ji66) : Int).toNat (wrap64 ((ji8) + 1))) := ⟨_, rfl⟩
                                            replace H : (band_Within.l1 k5 l0 l1 ji8 (wrap64 ((ji8) + 1)) y297 (l0.length : Int) (wrap64 (x65_3 + 1))) = some (r1, r2) := by first | (rw [hy297]; with_reducible exact H) | (have H2_ := (Option.bind_some _ _).symm.trans H; rw [hy297]; with_reducible exact H2_) | (have H2_ := (Option.bind_some _ _).symm.trans H; with_reducible exact H2_) | with_reducible exact H | (rw [hy297]; exact H) | exact H
                                            have Ny297 := Aside0.mk hy297
                                            clear hy297
                                            have H' := Aside0.mk H
                                            clear H
                                            have p69 : 0 ≤ ((ji66) : Int) := of_decide_eq_true (by first | (with_reducible assumption) | assumption)
                                            have q69 : ((ji66) : Int) < ((x9_5.length : Int) : Int) := of_decide_eq_true (by first | (with_reducible assumption) | assumption)
                                            obtain ⟨hx69_0, hf69_0⟩ := Kd.R_celln 0 HO_9.out ((ji66) : Int) p69 q69
                                            replace p69 := eq_true p69
                                            replace q69 := eq_true q69
                                            have HP70 := Kd.R_putg HO_9.out ((ji66) : Int) (wrap64 ((ji8) + 1))
                                            go_wp2_with (first | ((with_reducible refine gate_store (t := 3) (p := 148) rfl ?_); (try (rw [drewN_self wr]; generalize hq_ : World.drewN wr _ = wr; have n0_ := Aside0.mk (Kd.R_at hq_ HO_9.out); have n1_ := Aside0.mk (below_at hq_ HB.out); clear hq_ HO_9 HB; have HO_9 := n0_; have HB := n1_; clear n0_ n1_; (try (have HP70 := Kd.R_putg HO_9.out ((ji66) : Int) (wrap64 ((ji8) + 1)))))); refine store_event (t := 3) (p := 148) (v := ?vo_w71) (w1 := (wr.setCell ⟨go28, ((ji66) : Int).toNat, none⟩ (.int .i64 (wrap64 ((ji8) + 1))))) ?hg ?ho ?hn ?hr ?_; (case ho => rfl); (case hg => rfl); (case hn => rfl); (case hr => first | (go_simp; done) | (go_simp; rfl)); intro w71 hw; have hg : wr.grownBy w71 (some go28) := (by rw [hw]; exact HP70.2); have hp_ : Kd.R (Kd.int .i64) 3 w71 w.heap.size (fun _ => True) (.slice (some ⟨go28, 0, none⟩) x9_5.length co14) y297 := (by rw [hw, Ny297.out]; exact HP70.1); clear HP70; have n0_ := Aside0.mk (hp_); have n1_ := Aside0.mk ((by rw [hw]; exact below_set (HB.out) GB28.out : Below w.heap.size w w71)); clear HO_9; clear HB; have HO_9 := n0_; have HB := n1_; clear n0_ n1_; clear hg hw hp_))
                                            repeat (go_quiet (first | ((with_reducible refine gate_store (t := 3) (p := 148) rfl ?_); (try (rw [drewN_self wr]; generalize hq_ : World.drewN wr _ = wr; have n0_ := Aside0.mk (Kd.R_at hq_ HO_9.out); have n1_ := Aside0.mk (below_at hq_ HB.out); clear hq_ HO_9 HB; have HO_9 := n0_; have HB := n1_; clear n0_ n1_; (try (have HP70 := Kd.R_putg HO_9.out ((ji66) : Int) (wrap64 ((ji8) + 1)))))); refine store_event (t := 3) (p := 148) (v := ?vo_w71) (w1 := (wr.setCell ⟨go28, ((ji66) : Int).toNat, none⟩ (.int .i64 (wrap64 ((ji8) + 1))))) ?hg ?ho ?hn ?hr ?_; (case ho => rfl); (case hg => rfl); (case hn => rfl); (case hr => first | (go_simp; done) | (go_simp; rfl)); intro w71 hw; have hg : wr.grownBy w71 (some go28) := (by rw [hw]; exact HP70.2); have hp_ : Kd.R (Kd.int .i64) 3 w71 w.heap.size (fun _ => True) (.slice (some ⟨go28, 0, none⟩) x9_5.length co14) y297 := (by rw [hw, Ny297.out]; exact HP70.1); clear HP70; have n0_ := Aside0.mk (hp_); have n1_ := Aside0.mk ((by rw [hw]; exact below_set (HB.out) GB28.out : Below w.heap.size w w71)); clear HO_9; clear HB; have HO_9 := n0_; have HB := n1_; clear n0_ n1_; clear hg hw hp_)); try go_wp2_with (first | ((with_reducible refine gate_store (t := 3) (p := 148) rfl ?_); (try (rw [drewN_self wr]; generalize hq_ : World.drewN wr _ = wr; have n0_ := Aside0.mk (Kd.R_at hq_ HO_9.out); have n1_ := Aside0.mk (below_at hq_ HB.out); clear hq_ HO_9 HB; have HO_9 := n0_; have HB := n1_; clear n0_ n1_; (try (have HP70 := Kd.R_putg HO_9.out ((ji66) : Int) (wrap64 ((ji8) + 1)))))); refine store_event (t := 3) (p := 148) (v := ?vo_w71) (w1 := (wr.setCell ⟨go28, ((ji66) : Int).toNat, none⟩ (.int .i64 (wrap64 ((ji8) + 1))))) ?hg ?ho ?hn ?hr ?_; (case ho => rfl); (case hg => rfl); (case hn => rfl); (case hr => first | (go_simp; done) | (go_simp; rfl)); intro w71 hw; have hg : wr.grownBy w71 (some go28) := (by rw [hw]; exact HP70.2); have hp_ : Kd.R (Kd.int .i64) 3 w71 w.heap.size (fun _ => True) (.slice (some ⟨go28, 0, none⟩) x9_5.length co14) y297 := (by rw [hw, Ny297.out]; exact HP70.1); clear HP70; have n0_ := Aside0.mk (hp_); have n1_ := Aside0.mk ((by rw [hw]; exact below_set (HB.out) GB28.out : Below w.heap.size w w71)); clear HO_9; clear HB; have HO_9 := n0_; have HB := n1_; clear n0_ n1_; clear hg hw hp_)))
                                            (try simp only [← hl9_3, ← hl9_28, ← hl9_5])
                                            go_roundg k5
                                            case measure => have := HJ3.out; have := HK2.out; have := HK3.out; have := HJ28.out; have := HK5.out; omega
                                            case rel => exact ⟨(y297), (wrap64 (x65_3 + 1)), (by first | rfl | (simp; done) | (simp [*]; done)), H', ⟨by have := HJ3.out; have := HK2.out; have := HK3.out; have := HJ28.out; have := HK5.out; omega⟩, ⟨by (try simp only [hl9_2]); (try simp only [hl9_3]); (try simp only [hl9_28]); (try simp only [hl9_5]); (with_reducible repeat (first | apply Kd.R_alloc | apply Kd.R_drewN | apply Kd.R_drew)); exact HO_9.out⟩, ⟨by repeat (first | (with_reducible first | exact HB.out | apply below_alloc | apply pw_below_drewN | apply below_drew1) | exact HB.out)⟩⟩
                                          · rw [if_neg c68] at H
                                            exact absurd H (by simp)
                                        · rw [if_neg c67] at H
                                          exact absurd H (by simp)
                                      · rw [if_neg c65] at H
                                        have c65b0 : decide (ji24 < (l1.length : Int)) = false := decide_eq_false c65
                                        (try (have c65b0z0 := c65b0; rw [hl9_2] at c65b0z0))
                                        (try (have c65b0z1 := c65b0; rw [hl9_3] at c65b0z1))
                                        (try (have c65b0z2 := c65b0; rw [hl9_28] at c65b0z2))
                                        (try (have c65b0z3 := c65b0; rw [hl9_5] at c65b0z3))
                                        clear c65
                                        have H' := Aside0.mk H
                                        clear H
                                        go_wp2
                                        repeat (go_quiet (fail); try go_wp2)
                                        (try simp only [← hl9_3, ← hl9_28, ← hl9_5])
                                        go_roundg k5
                                        case measure => have := HJ3.out; have := HK2.out; have := HK3.out; have := HJ28.out; have := HK5.out; omega
                                        case rel => exact ⟨(x9_5), (wrap64 (x65_3 + 1)), (by first | rfl | (simp; done) | (simp [*]; done)), H', ⟨by have := HJ3.out; have := HK2.out; have := HK3.out; have := HJ28.out; have := HK5.out; omega⟩, ⟨by (try simp only [hl9_2]); (try simp only [hl9_3]); (try simp only [hl9_28]); (try simp only [hl9_5]); (with_reducible repeat (first | apply Kd.R_alloc | apply Kd.R_drewN | apply Kd.R_drew)); exact HO_9.out⟩, ⟨by repeat (first | (with_reducible first | exact HB.out | apply below_alloc | apply pw_below_drewN | apply below_drew1) | exact HB.out)⟩⟩
                          · rw [if_neg c27] at H
                            exact absurd H (by simp)
                        · rw [if_neg c26] at H
                          exact absurd H (by simp)
                      · rw [if_neg c22] at H
                        have c22b0 : decide (x65_3 < (l0.length : Int)) = false := decide_eq_false c22
                        (try (have c22b0z0 := c22b0; rw [hl9_2] at c22b0z0))
                        (try (have c22b0z1 := c22b0; rw [hl9_3] at c22b0z1))
                        clear c22
                        by_cases c72 : 0 ≤ (l1.length : Int)
                        · rw [if_pos c72] at H
                          have c72b0 : decide (0 ≤ (l1.length : Int)) = true := decide_eq_true c72
                          (try (have c72b0z0 := c72b0; rw [hl9_2] at c72b0z0))
                          (try (have c72b0z1 := c72b0; rw [hl9_3] at c72b0z1))
                          have c72b1 : decide (0 ≤ l1.length) = true := decide_eq_true (by omega)
                          (try (have c72b1z0 := c72b1; rw [hl9_2] at c72b1z0))
                          (try (have c72b1z1 := c72b1; rw [hl9_3] at c72b1z1))
                          clear c72
                          by_cases c73 : (l1.length : Int) < (x9_3.length : Int)
                          · rw [if_pos c73] at H
                            have c73b0 : decide ((l1.length : Int) < (x9_3.length : Int)) = true := decide_eq_true c73
                            (try (have c73b0z0 := c73b0; rw [hl9_2] at c73b0z0))
                            (try (have c73b0z1 := c73b0; rw [hl9_3] at c73b0z1))
                            have c73b1 : decide (l1.length < x9_3.length) = true := decide_eq_true (Int.ofNat_lt.mp c73)
                            (try (have c73b1z0 := c73b1; rw [hl9_2] at c73b1z0))
                            (try (have c73b1z1 := c73b1; rw [hl9_3] at c73b1z1))
                            clear c73
                            by_cases c74 : (rd x9_3 (l1.length : Int)) > ji8
                            · rw [if_pos c74] at H
                              have c74b0 : decide (ji8 < (rd x9_3 (l1.length : Int))) = true := decide_eq_true c74
                              (try (have c74b0z0 := c74b0; rw [hl9_2] at c74b0z0))
                              (try (have c74b0z1 := c74b0; rw [hl9_3] at c74b0z1))
                              clear c74
                              simp only [Option.some.injEq, Prod.mk.injEq] at H
                              obtain ⟨rfl, rfl⟩ := H
                              have p285 : 0 ≤ ((l1.length : Int) : Int) := of_decide_eq_true (by first | (with_reducible assumption) | assumption)
                              have q285 : (l1.length : Int) < (x9_3.length : Int) := of_decide_eq_true (by first | (with_reducible assumption) | assumption)
                              obtain ⟨ad285, e285, hx285_0⟩ := Kd.at_int (Kd.R_reads' HO_9.out).2.2 (l1.length : Int) p285 q285
                              cases e285
                              (try simp only [Go.IntWalk.toNatUp] at hx285_0)
                              (try simp only [hl9_2, hl9_3] at p285)
                              (try simp only [hl9_2, hl9_3] at q285)
                              (try simp only [hl9_2, hl9_3] at hx285_0)
                              replace p285 := eq_true p285
                              replace q285 := eq_true q285
                              go_wp2
                              repeat (go_quiet (fail); try go_wp2)
                              go_ret2
                              exact ⟨by first | rfl | (simp [errW_none, errW_some] <;> rfl) | (simp only [← hji8, ← hji9]; first | rfl | (simp [errW_none, errW_some] <;> rfl)) | (simp [*, errW_none, errW_some] <;> rfl), by repeat (first | (with_reducible first | exact HB.out | apply below_alloc | apply pw_below_drewN | apply below_drew1) | exact HB.out)⟩
                            · rw [if_neg c74] at H
                              have c74b0 : decide (ji8 < (rd x9_3 (l1.length : Int))) = false := decide_eq_false c74
                              (try (have c74b0z0 := c74b0; rw [hl9_2] at c74b0z0))
                              (try (have c74b0z1 := c74b0; rw [hl9_3] at c74b0z1))
                              clear c74
                              simp only [Option.some.injEq, Prod.mk.injEq] at H
                              obtain ⟨rfl, rfl⟩ := H
                              have p285 : 0 ≤ ((l1.length : Int) : Int) := of_decide_eq_true (by first | (with_reducible assumption) | assumption)
                              have q285 : (l1.length : Int) < (x9_3.length : Int) := of_decide_eq_true (by first | (with_reducible assumption) | assumption)
                              obtain ⟨ad285, e285, hx285_0⟩ := Kd.at_int (Kd.R_reads' HO_9.out).2.2 (l1.length : Int) p285 q285
                              cases e285
                              (try simp only [Go.IntWalk.toNatUp] at hx285_0)
                              (try simp only [hl9_2, hl9_3] at p285)
                              (try simp only [hl9_2, hl9_3] at q285)
                              (try simp only [hl9_2, hl9_3] at hx285_0)
                              replace p285 := eq_true p285
                              replace q285 := eq_true q285
                              go_wp2
                              repeat (go_quiet (fail); try go_wp2)
                              go_ret2
                              exact ⟨by first | rfl | (simp [errW_none, errW_some] <;> rfl) | (simp only [← hji8, ← hji9]; first | rfl | (simp [errW_none, errW_some] <;> rfl)) | (simp [*, errW_none, errW_some] <;> rfl), by repeat (first | (with_reducible first | exact HB.out | apply below_alloc | apply pw_below_drewN | apply below_drew1) | exact HB.out)⟩
                          · rw [if_neg c73] at H
                            exact absurd H (by simp)
                        · rw [if_neg c72] at H
                          exact absurd H (by simp)
          · rw [if_neg c11] at H
            exact absurd H (by simp)
        · rw [if_neg c10] at H
          exact absurd H (by simp)

end Go.Proofs.Ytlbddbbmomjljaa.PA
