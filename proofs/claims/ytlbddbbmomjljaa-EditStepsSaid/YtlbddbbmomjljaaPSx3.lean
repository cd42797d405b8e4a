-- Written by a program of this session (wip/tools/myprint.sh) over the kit's print; parts marked GIVEN are proved by hand.
import Derived.Test.YtlbddbbmomjljaaPSx0
import Derived.Test.YtlbddbbmomjljaaPSx1
import Derived.Test.YtlbddbbmomjljaaPSx2
namespace Go.Proofs.Ytlbddbbmomjljaa.PS
open Go.RowKit Go.Proofs.YtlbddbbmomjljaaW.PrintWords Go.Proofs.YtlbddbbmomjljaaW.PrintLast Go.Proofs.YtlbddbbmomjljaaW.PrintMore
attribute [local go_sem] max2_int min2_int max_two min_two max_three min_three max_four min_four   -- for this text's walks alone
set_option linter.unusedVariables false
set_option linter.unusedSimpArgs false

/-! ### inkhornlaw5_EditSteps: function 6 -/
def inkhornlaw5_EditSteps.j0 : Nat → List Int → List Int → Int → Int → Int → List Int → List Int → Bool → Option (Bool)
  | 0, _, _, _, _, _, _, _, _ => none
  | k + 1, x0, x1, x2, x3, x4, x5, x6, x38 => if x38 = true then ((inkhornlaw5_awake.f k).bind fun t151 => (some t151)) else ((edit_Runes.f k x0 x1).bind fun t152 => ((inkhornlaw0_Low.f x2 (wrap64 ((x0.length : Int) + 1))).bind fun t153 => ((inkhornlaw0_Low.f x4 3).bind fun t154 => (if t154 = 0 then (if 0 ≤ t153 then (if t153 ≤ (x0.length : Int) then (if ([] : List Int).length + (x0.take (t153 : Int).toNat).length < 35184372088832 then ((some (([] : List Int) ++ (x0.take (t153 : Int).toNat) : List Int)).bind fun y156 => ((some (([x3] : List Int) : List Int)).bind fun y159 => (if y156.length + y159.length < 35184372088832 then ((some (y156 ++ y159 : List Int)).bind fun y162 => (if y162.length + (x0.drop (t153 : Int).toNat).length < 35184372088832 then ((edit_Runes.f k (y162 ++ (x0.drop (t153 : Int).toNat)) x1).bind fun t169 => (if ([] : List Int).length + x5.length < 35184372088832 then ((some (([] : List Int) ++ x5 : List Int)).bind fun y170 => (if y170.length + x0.length < 35184372088832 then ((some (y170 ++ x0 : List Int)).bind fun y173 => (if y173.length + x6.length < 35184372088832 then ((some (([] : List Int) ++ x5 : List Int)).bind fun y179 => (if y179.length + x1.length < 35184372088832 then ((some (y179 ++ x1 : List Int)).bind fun y182 => (if y182.length + x6.length < 35184372088832 then (if t169 ≤ (wrap64 (t152 + 1)) then (if t152 ≤ (wrap64 (t169 + 1)) then ((edit_Runes.f k (y173 ++ x6) (y182 ++ x6)).bind fun t188 => (if t188 = t152 then ((inkhornlaw5_awake.f k).bind fun t189 => (some t189)) else (some false))) else (some false)) else (some false)) else (none))) else (none))) else (none))) else (none))) else (none))) else (none))) else (none)))) else (none)) else (none)) else (none)) else (if t154 = 1 then (if 0 ≤ t153 then (if t153 ≤ (x0.length : Int) then (if ([] : List Int).length + (x0.take (t153 : Int).toNat).length < 35184372088832 then ((some (([] : List Int) ++ (x0.take (t153 : Int).toNat) : List Int)).bind fun y191 => (if 0 ≤ (mn (wrap64 (t153 + 1)) (x0.length : Int)) then (if (mn (wrap64 (t153 + 1)) (x0.length : Int)) ≤ (x0.length : Int) then (if y191.length + (x0.drop ((mn (wrap64 (t153 + 1)) (x0.length : Int)) : Int).toNat).length < 35184372088832 then ((edit_Runes.f k (y191 ++ (x0.drop ((mn (wrap64 (t153 + 1)) (x0.length : Int)) : Int).toNat)) x1).bind fun t198 => (if ([] : List Int).length + x5.length < 35184372088832 then ((some (([] : List Int) ++ x5 : List Int)).bind fun y199 => (if y199.length + x0.length < 35184372088832 then ((some (y199 ++ x0 : List Int)).bind fun y202 => (if y202.length + x6.length < 35184372088832 then ((some (([] : List Int) ++ x5 : List Int)).bind fun y208 => (if y208.length + x1.length < 35184372088832 then ((some (y208 ++ x1 : List Int)).bind fun y211 => (if y211.length + x6.length < 35184372088832 then (if t198 ≤ (wrap64 (t152 + 1)) then (if t152 ≤ (wrap64 (t198 + 1)) then ((edit_Runes.f k (y202 ++ x6) (y211 ++ x6)).bind fun t217 => (if t217 = t152 then ((inkhornlaw5_awake.f k).bind fun t218 => (some t218)) else (some false))) else (some false)) else (some false)) else (none))) else (none))) else (none))) else (none))) else (none))) else (none)) else (none)) else (none))) else (none)) else (none)) else (none)) else (if 0 ≤ t153 then (if t153 ≤ (x0.length : Int) then (if ([] : List Int).length + (x0.take (t153 : Int).toNat).length < 35184372088832 then ((some (([] : List Int) ++ (x0.take (t153 : Int).toNat) : List Int)).bind fun y220 => ((some (([x3] : List Int) : List Int)).bind fun y223 => (if y220.length + y223.length < 35184372088832 then ((some (y220 ++ y223 : List Int)).bind fun y226 => (if 0 ≤ (mn (wrap64 (t153 + 1)) (x0.length : Int)) then (if (mn (wrap64 (t153 + 1)) (x0.length : Int)) ≤ (x0.length : Int) then (if y226.length + (x0.drop ((mn (wrap64 (t153 + 1)) (x0.length : Int)) : Int).toNat).length < 35184372088832 then ((edit_Runes.f k (y226 ++ (x0.drop ((mn (wrap64 (t153 + 1)) (x0.length : Int)) : Int).toNat)) x1).bind fun t233 => (if ([] : List Int).length + x5.length < 35184372088832 then ((some (([] : List Int) ++ x5 : List Int)).bind fun y234 => (if y234.length + x0.length < 35184372088832 then ((some (y234 ++ x0 : List Int)).bind fun y237 => (if y237.length + x6.length < 35184372088832 then ((some (([] : List Int) ++ x5 : List Int)).bind fun y243 => (if y243.length + x1.length < 35184372088832 then ((some (y243 ++ x1 : List Int)).bind fun y246 => (if y246.length + x6.length < 35184372088832 then (if t233 ≤ (wrap64 (t152 + 1)) then (if t152 ≤ (wrap64 (t233 + 1)) then ((edit_Runes.f k (y237 ++ x6) (y246 ++ x6)).bind fun t252 => (if t252 = t152 then ((inkhornlaw5_awake.f k).bind fun t253 => (some t253)) else (some false))) else (some false)) else (some false)) else (none))) else (none))) else (none))) else (none))) else (none))) else (none)) else (none)) else (none))) else (none)))) else (none)) else (none)) else (none)))))))
def inkhornlaw5_EditSteps.f (k : Nat) (l0 : List Int) (l1 : List Int) (a2 : Int) (a3 : Int) (a4 : Int) (l5 : List Int) (l6 : List Int) : Option (Bool) := if (l0.length : Int) > 20 then (inkhornlaw5_EditSteps.j0 k l0 l1 a2 a3 a4 l5 l6 true) else (if (l1.length : Int) > 20 then (inkhornlaw5_EditSteps.j0 k l0 l1 a2 a3 a4 l5 l6 true) else (if (l5.length : Int) > 5 then (inkhornlaw5_EditSteps.j0 k l0 l1 a2 a3 a4 l5 l6 true) else (inkhornlaw5_EditSteps.j0 k l0 l1 a2 a3 a4 l5 l6 (decide ((l6.length : Int) > 5)))))
theorem inkhornlaw5_EditSteps.mono_l : ∀ k, (∀ y0 y1 y2 y3 y4 y5 y6 y7, LeO (inkhornlaw5_EditSteps.j0 k y0 y1 y2 y3 y4 y5 y6 y7) (inkhornlaw5_EditSteps.j0 (k + 1) y0 y1 y2 y3 y4 y5 y6 y7))
  | 0 => fun _ _ _ _ _ _ _ _ r h => by simp [inkhornlaw5_EditSteps.j0] at h
  | k + 1 => by
    have ih0 := inkhornlaw5_EditSteps.mono_l k
    · intro y0 y1 y2 y3 y4 y5 y6 y7
      unfold inkhornlaw5_EditSteps.j0
      repeat' first
      | (with_reducible exact ih0 _ _ _ _ _ _ _ _)
      | (with_reducible exact edit_Runes.mono _ _ _)
      | (with_reducible exact inkhornlaw5_awake.mono _)
      | (with_reducible exact LeO.refl _)
      | (with_reducible exact LeO.none _)
      | (with_reducible refine LeO.ite ?_ ?_)
      | (with_reducible refine LeO.bind ?_ (fun _ => ?_))
      | exact ih0 _ _ _ _ _ _ _ _
      | exact edit_Runes.mono _ _ _
      | exact inkhornlaw5_awake.mono _
      | exact LeO.none _
      | refine LeO.ite ?_ ?_
      | refine LeO.bind ?_ (fun _ => ?_)
theorem inkhornlaw5_EditSteps.mono : ∀ a0 a1 a2 a3 a4 a5 a6 k, LeO (inkhornlaw5_EditSteps.f k a0 a1 a2 a3 a4 a5 a6) (inkhornlaw5_EditSteps.f (k + 1) a0 a1 a2 a3 a4 a5 a6) := by
  intro a0 a1 a2 a3 a4 a5 a6 k
  have ih0 := inkhornlaw5_EditSteps.mono_l k
  unfold inkhornlaw5_EditSteps.f
  repeat' first
      | (with_reducible exact ih0 _ _ _ _ _ _ _ _)
      | (with_reducible exact edit_Runes.mono _ _ _)
      | (with_reducible exact inkhornlaw5_awake.mono _)
      | (with_reducible exact LeO.refl _)
      | (with_reducible exact LeO.none _)
      | (with_reducible refine LeO.ite ?_ ?_)
      | (with_reducible refine LeO.bind ?_ (fun _ => ?_))
      | exact ih0 _ _ _ _ _ _ _ _
      | exact edit_Runes.mono _ _ _
      | exact inkhornlaw5_awake.mono _
      | exact LeO.none _
      | refine LeO.ite ?_ ?_
      | refine LeO.bind ?_ (fun _ => ?_)
def inkhornlaw5_EditSteps.T7 : Bool × List (List Nat × List Nat) := (true, [([], []), ([], []), ([], []), ([1, 2], [1, 2]), ([0, 3], [0, 3]), ([], []), ([5], [5]), ([4, 6, 4], [4, 6]), ([], []), ([], []), ([9], [9]), ([], []), ([11], [11]), ([10, 12], [10, 12]), ([8, 13], [8, 13]), ([7, 14, 7], [7, 14]), ([15, 15, 0, 1, 2, 3, 4, 5, 6, 7, 8, 9, 10, 11, 12, 13, 14, 15], [0, 15])])
def inkhornlaw5_EditSteps.B7 : List Nat := [0, 0, 0, 6, 15, 0, 32, 127, 0, 0, 512, 0, 2048, 7680, 16128, 32767, 65535]
theorem inkhornlaw5_EditSteps.tab7 : rtab .any (opsOf Try.f6 7) = inkhornlaw5_EditSteps.T7 := by kernel_rfl
theorem inkhornlaw5_EditSteps.bits7 : waitsOk inkhornlaw5_EditSteps.T7.2 inkhornlaw5_EditSteps.B7 = true := by kernel_rfl
def inkhornlaw5_EditSteps.T9 : Bool × List (List Nat × List Nat) := (true, [([], []), ([], []), ([], []), ([1, 2], [1, 2]), ([0, 3], [0, 3]), ([], []), ([5], [5]), ([4, 6, 4], [4, 6]), ([], []), ([], []), ([8, 9], [8, 9]), ([7, 10, 7], [7, 10]), ([11, 11, 0, 1, 2, 3, 4, 5, 6, 7, 8, 9, 10, 11], [0, 11])])
def inkhornlaw5_EditSteps.B9 : List Nat := [0, 0, 0, 6, 15, 0, 32, 127, 0, 0, 768, 2047, 4095]
theorem inkhornlaw5_EditSteps.tab9 : rtab .any (opsOf Try.f6 9) = inkhornlaw5_EditSteps.T9 := by kernel_rfl
theorem inkhornlaw5_EditSteps.bits9 : waitsOk inkhornlaw5_EditSteps.T9.2 inkhornlaw5_EditSteps.B9 = true := by kernel_rfl
def inkhornlaw5_EditSteps.T11 : Bool × List (List Nat × List Nat) := (true, [([], []), ([], []), ([], []), ([1, 2], [1, 2]), ([0, 3], [0, 3]), ([], []), ([], []), ([6], [6]), ([], []), ([8], [8]), ([7, 9], [7, 9]), ([5, 10], [5, 10]), ([4, 11, 4], [4, 11]), ([12, 12, 0, 1, 2, 3, 4, 5, 6, 7, 8, 9, 10, 11, 12], [0, 12])])
def inkhornlaw5_EditSteps.B11 : List Nat := [0, 0, 0, 6, 15, 0, 0, 64, 0, 256, 960, 2016, 4095, 8191]
theorem inkhornlaw5_EditSteps.tab11 : rtab .any (opsOf Try.f6 11) = inkhornlaw5_EditSteps.T11 := by kernel_rfl
theorem inkhornlaw5_EditSteps.bits11 : waitsOk inkhornlaw5_EditSteps.T11.2 inkhornlaw5_EditSteps.B11 = true := by kernel_rfl
set_option maxHeartbeats 8000000 in
set_option maxRecDepth 100000 in
theorem inkhornlaw5_EditSteps.calls (k : Nat) (A0 : Option Addr) (c0 : Nat) (l0 : List Int) (A1 : Option Addr) (c1 : Nat) (l1 : List Int) (a2 : Int) (a3 : Int) (a4 : Int) (A5 : Option Addr) (c5 : Nat) (l5 : List Int) (A6 : Option Addr) (c6 : Nat) (l6 : List Int) (r : Bool) (w : World) (hr0 : Kd.C (Kd.int .i32) w A0 l0.length l0) (hc0 : l0.length ≤ c0) (hr1 : Kd.C (Kd.int .i32) w A1 l1.length l1) (hc1 : l1.length ≤ c1) (hr5 : Kd.C (Kd.int .i32) w A5 l5.length l5) (hc5 : l5.length ≤ c5) (hr6 : Kd.C (Kd.int .i32) w A6 l6.length l6) (hc6 : l6.length ≤ c6) (h : inkhornlaw5_EditSteps.f k l0 l1 a2 a3 a4 l5 l6 = some r) (hrt : r = true) :
    Calls Try.prog 6 #[.slice A0 l0.length c0, .slice A1 l1.length c1, .int .i64 a2, .int .i32 a3, .int .i64 a4, .slice A5 l5.length c5, .slice A6 l6.length c6] w fun e w' => e = .returned (.bool r) ∧ Below w.heap.size w w' := by
  have HR0 := Aside0.mk hr0
  have HC0 := Aside0.mk hc0
  clear hr0 hc0
  have HR1 := Aside0.mk hr1
  have HC1 := Aside0.mk hc1
  clear hr1 hc1
  have HR5 := Aside0.mk hr5
  have HC5 := Aside0.mk hc5
  clear hr5 hc5
  have HR6 := Aside0.mk hr6
  have HC6 := Aside0.mk hc6
  clear hr6 hc6
  have HB := Aside0.mk (Below.refl w.heap.size w)
  have H : (if (l0.length : Int) > 20 then (inkhornlaw5_EditSteps.j0 k l0 l1 a2 a3 a4 l5 l6 true) else (if (l1.length : Int) > 20 then (inkhornlaw5_EditSteps.j0 k l0 l1 a2 a3 a4 l5 l6 true) else (if (l5.length : Int) > 5 then (inkhornlaw5_EditSteps.j0 k l0 l1 a2 a3 a4 l5 l6 true) else (inkhornlaw5_EditSteps.j0 k l0 l1 a2 a3 a4 l5 l6 (decide ((l6.length : Int) > 5)))))) = some r := h
  clear h
  have HRT := Aside0.mk hrt
  clear hrt
  have HC8 := Aside0.mk H
  clear H
  go_enter Try.func6, Try.ntmps6
  go_upto_region 1 with (fail)
  go_cut [38] (fun v38 wc => ∃ (kq : Nat) (x38_7 : Bool), v38 = .bool x38_7 ∧ Aside0 (inkhornlaw5_EditSteps.j0 kq l0 l1 a2 a3 a4 l5 l6 x38_7 = some r) ∧ Aside0 (kq ≤ k) ∧ Aside0 (Below w.heap.size w wc))
  case first =>
    have H := HC8.out
    clear HC8
    by_cases c9 : (l0.length : Int) > 20
    · rw [if_pos c9] at H
      have c9b0 : decide (20 < (l0.length : Int)) = true := decide_eq_true c9
      have c9b1 : decide (20 < l0.length) = true := decide_eq_true (by omega)
      clear c9
      (first | rw [c9b0] | (simp only [i64_w, i32_w]; rw [c9b0]) | skip)
      have H' := Aside0.mk H
      clear H
      go_wp2
      go_meet
      case rel => exact ⟨_, (true), (by first | rfl | (simp; done) | (simp [*]; done)), H', ⟨by first | omega | exact Nat.le_refl _⟩, ⟨by repeat (first | (with_reducible first | exact HB.out | apply below_alloc | apply pw_below_drewN | apply below_drew1) | exact HB.out)⟩⟩
    · rw [if_neg c9] at H
      have c9b0 : decide (20 < (l0.length : Int)) = false := decide_eq_false c9
      have c9b1 : decide (20 < l0.length) = false := decide_eq_false (by omega)
      clear c9
      (first | rw [c9b0] | (simp only [i64_w, i32_w]; rw [c9b0]) | skip)
      by_cases c10 : (l1.length : Int) > 20
      · rw [if_pos c10] at H
        have c10b0 : decide (20 < (l1.length : Int)) = true := decide_eq_true c10
        have c10b1 : decide (20 < l1.length) = true := decide_eq_true (by omega)
        clear c10
        have H' := Aside0.mk H
        clear H
        go_wp2
        go_meet
        case rel => exact ⟨_, (true), (by first | rfl | (simp; done) | (simp [*]; done)), H', ⟨by first | omega | exact Nat.le_refl _⟩, ⟨by repeat (first | (with_reducible first | exact HB.out | apply below_alloc | apply pw_below_drewN | apply below_drew1) | exact HB.out)⟩⟩
      · rw [if_neg c10] at H
        have c10b0 : decide (20 < (l1.length : Int)) = false := decide_eq_false c10
        have c10b1 : decide (20 < l1.length) = false := decide_eq_false (by omega)
        clear c10
        by_cases c11 : (l5.length : Int) > 5
        · rw [if_pos c11] at H
          have c11b0 : decide (5 < (l5.length : Int)) = true := decide_eq_true c11
          have c11b1 : decide (5 < l5.length) = true := decide_eq_true (by omega)
          clear c11
          have H' := Aside0.mk H
          clear H
          go_wp2
          go_meet
          case rel => exact ⟨_, (true), (by first | rfl | (simp; done) | (simp [*]; done)), H', ⟨by first | omega | exact Nat.le_refl _⟩, ⟨by repeat (first | (with_reducible first | exact HB.out | apply below_alloc | apply pw_below_drewN | apply below_drew1) | exact HB.out)⟩⟩
        · rw [if_neg c11] at H
          have c11b0 : decide (5 < (l5.length : Int)) = false := decide_eq_false c11
          have c11b1 : decide (5 < l5.length) = false := decide_eq_false (by omega)
          clear c11
          have H' := Aside0.mk H
          clear H
          go_wp2
          go_meet
          case rel => exact ⟨_, (decide ((l6.length : Int) > 5)), (by first | rfl | (simp; done) | (simp [*]; done)), H', ⟨by first | omega | exact Nat.le_refl _⟩, ⟨by repeat (first | (with_reducible first | exact HB.out | apply below_alloc | apply pw_below_drewN | apply below_drew1) | exact HB.out)⟩⟩
  case rest =>
    clear HC8
    try clear c1
    try clear p2
    try clear c5
    try clear c6
    try clear c9
    try clear c9b0
    try clear c9b1
    try clear c10
    try clear c10b0
    try clear c10b1
    try clear c11
    try clear c11b0
    try clear c11b1
    obtain ⟨kq, x38_7, rfl, HA, HJ7, HB⟩ := hcut
    cases kq with
    | zero => exact absurd HA.out (by simp [inkhornlaw5_EditSteps.j0])
    | succ kj7 =>
      have H := HA.out
      clear HA
      simp only [inkhornlaw5_EditSteps.j0] at H
      by_cases c12 : x38_7 = true
      · subst c12
        have H1 : ((inkhornlaw5_awake.f kj7).bind fun t151 => (some t151)) = some r := by rw [if_pos rfl] at H; exact H
        clear H
        have H := H1
        clear H1
        replace H := Option.bind_eq_some_iff.mp H
        obtain ⟨t151, A130, H⟩ := H
        replace H : (some t151) = some r := H
        have A13 := Aside0.mk A130
        clear A130
        obtain rfl := Option.some.inj H
        go_wp2_with (first | ((with_reducible refine gate_callee (f := 16) rfl ?_); refine goesL_ (some 39) rfl rfl Try.func16 (by kernel_rfl) rfl #[] rfl (by (try simp only [List.map_toArray, List.map_cons, List.map_nil]); first | done | rfl | (simp only [List.length_drop, List.length_take]; rfl)) ?_; (with_reducible refine (inkhornlaw5_awake.calls kj7  t151 _ A13.out).mono ?_); rintro e w14 ⟨rfl, hb⟩; refine ⟨_, rfl, ?_⟩; have n0_ := Aside0.mk (below_step (by repeat (first | (with_reducible first | exact HB.out | apply below_alloc | apply pw_below_drewN | apply below_drew1) | exact HB.out)) hb); clear HB; have HB := n0_; clear n0_; (try clear hb); (try clear hb2); (try clear hk); (try clear hi)))
        go_ret
        exact ⟨by first | rfl | (simp [errW_none, errW_some] <;> rfl) | (simp [*, errW_none, errW_some] <;> rfl), by repeat (first | (with_reducible first | exact HB.out | apply below_alloc | apply pw_below_drewN | apply below_drew1) | exact HB.out)⟩
      · replace c12 := Bool.eq_false_iff.mpr c12
        subst c12
        have H1 : ((edit_Runes.f kj7 l0 l1).bind fun t152 => ((inkhornlaw0_Low.f a2 (wrap64 ((l0.length : Int) + 1))).bind fun t153 => ((inkhornlaw0_Low.f a4 3).bind fun t154 => (if t154 = 0 then (if 0 ≤ t153 then (if t153 ≤ (l0.length : Int) then (if ([] : List Int).length + (l0.take (t153 : Int).toNat).length < 35184372088832 then ((some (([] : List Int) ++ (l0.take (t153 : Int).toNat) : List Int)).bind fun y156 => ((some (([a3] : List Int) : List Int)).bind fun y159 => (if y156.length + y159.length < 35184372088832 then ((some (y156 ++ y159 : List Int)).bind fun y162 => (if y162.length + (l0.drop (t153 : Int).toNat).length < 35184372088832 then ((edit_Runes.f kj7 (y162 ++ (l0.drop (t153 : Int).toNat)) l1).bind fun t169 => (if ([] : List Int).length + l5.length < 35184372088832 then ((some (([] : List Int) ++ l5 : List Int)).bind fun y170 => (if y170.length + l0.length < 35184372088832 then ((some (y170 ++ l0 : List Int)).bind fun y173 => (if y173.length + l6.length < 35184372088832 then ((some (([] : List Int) ++ l5 : List Int)).bind fun y179 => (if y179.length + l1.length < 35184372088832 then ((some (y179 ++ l1 : List Int)).bind fun y182 => (if y182.length + l6.length < 35184372088832 then (if t169 ≤ (wrap64 (t152 + 1)) then (if t152 ≤ (wrap64 (t169 + 1)) then ((edit_Runes.f kj7 (y173 ++ l6) (y182 ++ l6)).bind fun t188 => (if t188 = t152 then ((inkhornlaw5_awake.f kj7).bind fun t189 => (some t189)) else (some false))) else (some false)) else (some false)) else (none))) else (none))) else (none))) else (none))) else (none))) else (none))) else (none)))) else (none)) else (none)) else (none)) else (if t154 = 1 then (if 0 ≤ t153 then (if t153 ≤ (l0.length : Int) then (if ([] : List Int).length + (l0.take (t153 : Int).toNat).length < 35184372088832 then ((some (([] : List Int) ++ (l0.take (t153 : Int).toNat) : List Int)).bind fun y191 => (if 0 ≤ (mn (wrap64 (t153 + 1)) (l0.length : Int)) then (if (mn (wrap64 (t153 + 1)) (l0.length : Int)) ≤ (l0.length : Int) then (if y191.length + (l0.drop ((mn (wrap64 (t153 + 1)) (l0.length : Int)) : Int).toNat).length < 35184372088832 then ((edit_Runes.f kj7 (y191 ++ (l0.drop ((mn (wrap64 (t153 + 1)) (l0.length : Int)) : Int).toNat)) l1).bind fun t198 => (if ([] : List Int).length + l5.length < 35184372088832 then ((some (([] : List Int) ++ l5 : List Int)).bind fun y199 => (if y199.length + l0.length < 35184372088832 then ((some (y199 ++ l0 : List Int)).bind fun y202 => (if y202.length + l6.length < 35184372088832 then ((some (([] : List Int) ++ l5 : List Int)).bind fun y208 => (if y208.length + l1.length < 35184372088832 then ((some (y208 ++ l1 : List Int)).bind fun y211 => (if y211.length + l6.length < 35184372088832 then (if t198 ≤ (wrap64 (t152 + 1)) then (if t152 ≤ (wrap64 (t198 + 1)) then ((edit_Runes.f kj7 (y202 ++ l6) (y211 ++ l6)).bind fun t217 => (if t217 = t152 then ((inkhornlaw5_awake.f kj7).bind fun t218 => (some t218)) else (some false))) else (some false)) else (some false)) else (none))) else (none))) else (none))) else (none))) else (none))) else (none)) else (none)) else (none))) else (none)) else (none)) else (none)) else (if 0 ≤ t153 then (if t153 ≤ (l0.length : Int) then (if ([] : List Int).length + (l0.take (t153 : Int).toNat).length < 35184372088832 then ((some (([] : List Int) ++ (l0.take (t153 : Int).toNat) : List Int)).bind fun y220 => ((some (([a3] : List Int) : List Int)).bind fun y223 => (if y220.length + y223.length < 35184372088832 then ((some (y220 ++ y223 : List Int)).bind fun y226 => (if 0 ≤ (mn (wrap64 (t153 + 1)) (l0.length : Int)) then (if (mn (wrap64 (t153 + 1)) (l0.length : Int)) ≤ (l0.length : Int) then (if y226.length + (l0.drop ((mn (wrap64 (t153 + 1)) (l0.length : Int)) : Int).toNat).length < 35184372088832 then ((edit_Runes.f kj7 (y226 ++ (l0.drop ((mn (wrap64 (t153 + 1)) (l0.length : Int)) : Int).toNat)) l1).bind fun t233 => (if ([] : List Int).length + l5.length < 35184372088832 then ((some (([] : List Int) ++ l5 : List Int)).bind fun y234 => (if y234.length + l0.length < 35184372088832 then ((some (y234 ++ l0 : List Int)).bind fun y237 => (if y237.length + l6.length < 35184372088832 then ((some (([] : List Int) ++ l5 : List Int)).bind fun y243 => (if y243.length + l1.length < 35184372088832 then ((some (y243 ++ l1 : List Int)).bind fun y246 => (if y246.length + l6.length < 35184372088832 then (if t233 ≤ (wrap64 (t152 + 1)) then (if t152 ≤ (wrap64 (t233 + 1)) then ((edit_Runes.f kj7 (y237 ++ l6) (y246 ++ l6)).bind fun t252 => (if t252 = t152 then ((inkhornlaw5_awake.f kj7).bind fun t253 => (some t253)) else (some false))) else (some false)) else (some false)) else (none))) else (none))) else (none))) else (none))) else (none))) else (none)) else (none)) else (none))) else (none)))) else (none)) else (none)) else (none))))))) = some r := by rw [if_neg (show ¬ (false = true) by decide)] at H; exact H
        clear H
        have H := H1
        clear H1
        replace H := Option.bind_eq_some_iff.mp H
        obtain ⟨t152, A150, H⟩ := H
        replace H : ((inkhornlaw0_Low.f a2 (wrap64 ((l0.length : Int) + 1))).bind fun t153 => ((inkhornlaw0_Low.f a4 3).bind fun t154 => (if t154 = 0 then (if 0 ≤ t153 then (if t153 ≤ (l0.length : Int) then (if ([] : List Int).length + (l0.take (t153 : Int).toNat).length < 35184372088832 then ((some (([] : List Int) ++ (l0.take (t153 : Int).toNat) : List Int)).bind fun y156 => ((some (([a3] : List Int) : List Int)).bind fun y159 => (if y156.length + y159.length < 35184372088832 then ((some (y156 ++ y159 : List Int)).bind fun y162 => (if y162.length + (l0.drop (t153 : Int).toNat).length < 35184372088832 then ((edit_Runes.f kj7 (y162 ++ (l0.drop (t153 : Int).toNat)) l1).bind fun t169 => (if ([] : List Int).length + l5.length < 35184372088832 then ((some (([] : List Int) ++ l5 : List Int)).bind fun y170 => (if y170.length + l0.length < 35184372088832 then ((some (y170 ++ l0 : List Int)).bind fun y173 => (if y173.length + l6.length < 35184372088832 then ((some (([] : List Int) ++ l5 : List Int)).bind fun y179 => (if y179.length + l1.length < 35184372088832 then ((some (y179 ++ l1 : List Int)).bind fun y182 => (if y182.length + l6.length < 35184372088832 then (if t169 ≤ (wrap64 (t152 + 1)) then (if t152 ≤ (wrap64 (t169 + 1)) then ((edit_Runes.f kj7 (y173 ++ l6) (y182 ++ l6)).bind fun t188 => (if t188 = t152 then ((inkhornlaw5_awake.f kj7).bind fun t189 => (some t189)) else (some false))) else (some false)) else (some false)) else (none))) else (none))) else (none))) else (none))) else (none))) else (none))) else (none)))) else (none)) else (none)) else (none)) else (if t154 = 1 then (if 0 ≤ t153 then (if t153 ≤ (l0.length : Int) then (if ([] : List Int).length + (l0.take (t153 : Int).toNat).length < 35184372088832 then ((some (([] : List Int) ++ (l0.take (t153 : Int).toNat) : List Int)).bind fun y191 => (if 0 ≤ (mn (wrap64 (t153 + 1)) (l0.length : Int)) then (if (mn (wrap64 (t153 + 1)) (l0.length : Int)) ≤ (l0.length : Int) then (if y191.length + (l0.drop ((mn (wrap64 (t153 + 1)) (l0.length : Int)) : Int).toNat).length < 35184372088832 then ((edit_Runes.f kj7 (y191 ++ (l0.drop ((mn (wrap64 (t153 + 1)) (l0.length : Int)) : Int).toNat)) l1).bind fun t198 => (if ([] : List Int).length + l5.length < 35184372088832 then ((some (([] : List Int) ++ l5 : List Int)).bind fun y199 => (if y199.length + l0.length < 35184372088832 then ((some (y199 ++ l0 : List Int)).bind fun y202 => (if y202.length + l6.length < 35184372088832 then ((some (([] : List Int) ++ l5 : List Int)).bind fun y208 => (if y208.length + l1.length < 35184372088832 then ((some (y208 ++ l1 : List Int)).bind fun y211 => (if y211.length + l6.length < 35184372088832 then (if t198 ≤ (wrap64 (t152 + 1)) then (if t152 ≤ (wrap64 (t198 + 1)) then ((edit_Runes.f kj7 (y202 ++ l6) (y211 ++ l6)).bind fun t217 => (if t217 = t152 then ((inkhornlaw5_awake.f kj7).bind fun t218 => (some t218)) else (some false))) else (some false)) else (some false)) else (none))) else (none))) else (none))) else (none))) else (none))) else (none)) else (none)) else (none))) else (none)) else (none)) else (none)) else (if 0 ≤ t153 then (if t153 ≤ (l0.length : Int) then (if ([] : List Int).length + (l0.take (t153 : Int).toNat).length < 35184372088832 then ((some (([] : List Int) ++ (l0.take (t153 : Int).toNat) : List Int)).bind fun y220 => ((some (([a3] : List Int) : List Int)).bind fun y223 => (if y220.length + y223.length < 35184372088832 then ((some (y220 ++ y223 : List Int)).bind fun y226 => (if 0 ≤ (mn (wrap64 (t153 + 1)) (l0.length : Int)) then (if (mn (wrap64 (t153 + 1)) (l0.length : Int)) ≤ (l0.length : Int) then (if y226.length + (l0.drop ((mn (wrap64 (t153 + 1)) (l0.length : Int)) : Int).toNat).length < 35184372088832 then ((edit_Runes.f kj7 (y226 ++ (l0.drop ((mn (wrap64 (t153 + 1)) (l0.length : Int)) : Int).toNat)) l1).bind fun t233 => (if ([] : List Int).length + l5.length < 35184372088832 then ((some (([] : List Int) ++ l5 : List Int)).bind fun y234 => (if y234.length + l0.length < 35184372088832 then ((some (y234 ++ l0 : List Int)).bind fun y237 => (if y237.length + l6.length < 35184372088832 then ((some (([] : List Int) ++ l5 : List Int)).bind fun y243 => (if y243.length + l1.length < 35184372088832 then ((some (y243 ++ l1 : List Int)).bind fun y246 => (if y246.length + l6.length < 35184372088832 then (if t233 ≤ (wrap64 (t152 + 1)) then (if t152 ≤ (wrap64 (t233 + 1)) then ((edit_Runes.f kj7 (y237 ++ l6) (y246 ++ l6)).bind fun t252 => (if t252 = t152 then ((inkhornlaw5_awake.f kj7).bind fun t253 => (some t253)) else (some false))) else (some false)) else (some false)) else (none))) else (none))) else (none))) else (none))) else (none))) else (none)) else (none)) else (none))) else (none)))) else (none)) else (none)) else (none)))))) = some r := H
        have A15 := Aside0.mk A150
        clear A150
        replace H := Option.bind_eq_some_iff.mp H
        obtain ⟨t153, A160, H⟩ := H
        replace H : ((inkhornlaw0_Low.f a4 3).bind fun t154 => (if t154 = 0 then (if 0 ≤ t153 then (if t153 ≤ (l0.length : Int) then (if ([] : List Int).length + (l0.take (t153 : Int).toNat).length < 35184372088832 then ((some (([] : List Int) ++ (l0.take (t153 : Int).toNat) : List Int)).bind fun y156 => ((some (([a3] : List Int) : List Int)).bind fun y159 => (if y156.length + y159.length < 35184372088832 then ((some (y156 ++ y159 : List Int)).bind fun y162 => (if y162.length + (l0.drop (t153 : Int).toNat).length < 35184372088832 then ((edit_Runes.f kj7 (y162 ++ (l0.drop (t153 : Int).toNat)) l1).bind fun t169 => (if ([] : List Int).length + l5.length < 35184372088832 then ((some (([] : List Int) ++ l5 : List Int)).bind fun y170 => (if y170.length + l0.length < 35184372088832 then ((some (y170 ++ l0 : List Int)).bind fun y173 => (if y173.length + l6.length < 35184372088832 then ((some (([] : List Int) ++ l5 : List Int)).bind fun y179 => (if y179.length + l1.length < 35184372088832 then ((some (y179 ++ l1 : List Int)).bind fun y182 => (if y182.length + l6.length < 35184372088832 then (if t169 ≤ (wrap64 (t152 + 1)) then (if t152 ≤ (wrap64 (t169 + 1)) then ((edit_Runes.f kj7 (y173 ++ l6) (y182 ++ l6)).bind fun t188 => (if t188 = t152 then ((inkhornlaw5_awake.f kj7).bind fun t189 => (some t189)) else (some false))) else (some false)) else (some false)) else (none))) else (none))) else (none))) else (none))) else (none))) else (none))) else (none)))) else (none)) else (none)) else (none)) else (if t154 = 1 then (if 0 ≤ t153 then (if t153 ≤ (l0.length : Int) then (if ([] : List Int).length + (l0.take (t153 : Int).toNat).length < 35184372088832 then ((some (([] : List Int) ++ (l0.take (t153 : Int).toNat) : List Int)).bind fun y191 => (if 0 ≤ (mn (wrap64 (t153 + 1)) (l0.length : Int)) then (if (mn (wrap64 (t153 + 1)) (l0.length : Int)) ≤ (l0.length : Int) then (if y191.length + (l0.drop ((mn (wrap64 (t153 + 1)) (l0.length : Int)) : Int).toNat).length < 35184372088832 then ((edit_Runes.f kj7 (y191 ++ (l0.drop ((mn (wrap64 (t153 + 1)) (l0.length : Int)) : Int).toNat)) l1).bind fun t198 => (if ([] : List Int).length + l5.length < 35184372088832 then ((some (([] : List Int) ++ l5 : List Int)).bind fun y199 => (if y199.length + l0.length < 35184372088832 then ((some (y199 ++ l0 : List Int)).bind fun y202 => (if y202.length + l6.length < 35184372088832 then ((some (([] : List Int) ++ l5 : List Int)).bind fun y208 => (if y208.length + l1.length < 35184372088832 then ((some (y208 ++ l1 : List Int)).bind fun y211 => (if y211.length + l6.length < 35184372088832 then (if t198 ≤ (wrap64 (t152 + 1)) then (if t152 ≤ (wrap64 (t198 + 1)) then ((edit_Runes.f kj7 (y202 ++ l6) (y211 ++ l6)).bind fun t217 => (if t217 = t152 then ((inkhornlaw5_awake.f kj7).bind fun t218 => (some t218)) else (some false))) else (some false)) else (some false)) else (none))) else (none))) else (none))) else (none))) else (none))) else (none)) else (none)) else (none))) else (none)) else (none)) else (none)) else (if 0 ≤ t153 then (if t153 ≤ (l0.length : Int) then (if ([] : List Int).length + (l0.take (t153 : Int).toNat).length < 35184372088832 then ((some (([] : List Int) ++ (l0.take (t153 : Int).toNat) : List Int)).bind fun y220 => ((some (([a3] : List Int) : List Int)).bind fun y223 => (if y220.length + y223.length < 35184372088832 then ((some (y220 ++ y223 : List Int)).bind fun y226 => (if 0 ≤ (mn (wrap64 (t153 + 1)) (l0.length : Int)) then (if (mn (wrap64 (t153 + 1)) (l0.length : Int)) ≤ (l0.length : Int) then (if y226.length + (l0.drop ((mn (wrap64 (t153 + 1)) (l0.length : Int)) : Int).toNat).length < 35184372088832 then ((edit_Runes.f kj7 (y226 ++ (l0.drop ((mn (wrap64 (t153 + 1)) (l0.length : Int)) : Int).toNat)) l1).bind fun t233 => (if ([] : List Int).length + l5.length < 35184372088832 then ((some (([] : List Int) ++ l5 : List Int)).bind fun y234 => (if y234.length + l0.length < 35184372088832 then ((some (y234 ++ l0 : List Int)).bind fun y237 => (if y237.length + l6.length < 35184372088832 then ((some (([] : List Int) ++ l5 : List Int)).bind fun y243 => (if y243.length + l1.length < 35184372088832 then ((some (y243 ++ l1 : List Int)).bind fun y246 => (if y246.length + l6.length < 35184372088832 then (if t233 ≤ (wrap64 (t152 + 1)) then (if t152 ≤ (wrap64 (t233 + 1)) then ((edit_Runes.f kj7 (y237 ++ l6) (y246 ++ l6)).bind fun t252 => (if t252 = t152 then ((inkhornlaw5_awake.f kj7).bind fun t253 => (some t253)) else (some false))) else (some false)) else (some false)) else (none))) else (none))) else (none))) else (none))) else (none))) else (none)) else (none)) else (none))) else (none)))) else (none)) else (none)) else (none))))) = some r := H
        have A16 := Aside0.mk A160
        clear A160
        replace H := Option.bind_eq_some_iff.mp H
        obtain ⟨t154, A170, H⟩ := H
        replace H : (if t154 = 0 then (if 0 ≤ t153 then (if t153 ≤ (l0.length : Int) then (if ([] : List Int).length + (l0.take (t153 : Int).toNat).length < 35184372088832 then ((some (([] : List Int) ++ (l0.take (t153 : Int).toNat) : List Int)).bind fun y156 => ((some (([a3] : List Int) : List Int)).bind fun y159 => (if y156.length + y159.length < 35184372088832 then ((some (y156 ++ y159 : List Int)).bind fun y162 => (if y162.length + (l0.drop (t153 : Int).toNat).length < 35184372088832 then ((edit_Runes.f kj7 (y162 ++ (l0.drop (t153 : Int).toNat)) l1).bind fun t169 => (if ([] : List Int).length + l5.length < 35184372088832 then ((some (([] : List Int) ++ l5 : List Int)).bind fun y170 => (if y170.length + l0.length < 35184372088832 then ((some (y170 ++ l0 : List Int)).bind fun y173 => (if y173.length + l6.length < 35184372088832 then ((some (([] : List Int) ++ l5 : List Int)).bind fun y179 => (if y179.length + l1.length < 35184372088832 then ((some (y179 ++ l1 : List Int)).bind fun y182 => (if y182.length + l6.length < 35184372088832 then (if t169 ≤ (wrap64 (t152 + 1)) then (if t152 ≤ (wrap64 (t169 + 1)) then ((edit_Runes.f kj7 (y173 ++ l6) (y182 ++ l6)).bind fun t188 => (if t188 = t152 then ((inkhornlaw5_awake.f kj7).bind fun t189 => (some t189)) else (some false))) else (some false)) else (some false)) else (none))) else (none))) else (none))) else (none))) else (none))) else (none))) else (none)))) else (none)) else (none)) else (none)) else (if t154 = 1 then (if 0 ≤ t153 then (if t153 ≤ (l0.length : Int) then (if ([] : List Int).length + (l0.take (t153 : Int).toNat).length < 35184372088832 then ((some (([] : List Int) ++ (l0.take (t153 : Int).toNat) : List Int)).bind fun y191 => (if 0 ≤ (mn (wrap64 (t153 + 1)) (l0.length : Int)) then (if (mn (wrap64 (t153 + 1)) (l0.length : Int)) ≤ (l0.length : Int) then (if y191.length + (l0.drop ((mn (wrap64 (t153 + 1)) (l0.length : Int)) : Int).toNat).length < 35184372088832 then ((edit_Runes.f kj7 (y191 ++ (l0.drop ((mn (wrap64 (t153 + 1)) (l0.length : Int)) : Int).toNat)) l1).bind fun t198 => (if ([] : List Int).length + l5.length < 35184372088832 then ((some (([] : List Int) ++ l5 : List Int)).bind fun y199 => (if y199.length + l0.length < 35184372088832 then ((some (y199 ++ l0 : List Int)).bind fun y202 => (if y202.length + l6.length < 35184372088832 then ((some (([] : List Int) ++ l5 : List Int)).bind fun y208 => (if y208.length + l1.length < 35184372088832 then ((some (y208 ++ l1 : List Int)).bind fun y211 => (if y211.length + l6.length < 35184372088832 then (if t198 ≤ (wrap64 (t152 + 1)) then (if t152 ≤ (wrap64 (t198 + 1)) then ((edit_Runes.f kj7 (y202 ++ l6) (y211 ++ l6)).bind fun t217 => (if t217 = t152 then ((inkhornlaw5_awake.f kj7).bind fun t218 => (some t218)) else (some false))) else (some false)) else (some false)) else (none))) else (none))) else (none))) else (none))) else (none))) else (none)) else (none)) else (none))) else (none)) else (none)) else (none)) else (if 0 ≤ t153 then (if t153 ≤ (l0.length : Int) then (if ([] : List Int).length + (l0.take (t153 : Int).toNat).length < 35184372088832 then ((some (([] : List Int) ++ (l0.take (t153 : Int).toNat) : List Int)).bind fun y220 => ((some (([a3] : List Int) : List Int)).bind fun y223 => (if y220.length + y223.length < 35184372088832 then ((some (y220 ++ y223 : List Int)).bind fun y226 => (if 0 ≤ (mn (wrap64 (t153 + 1)) (l0.length : Int)) then (if (mn (wrap64 (t153 + 1)) (l0.length : Int)) ≤ (l0.length : Int) then (if y226.length + (l0.drop ((mn (wrap64 (t153 + 1)) (l0.length : Int)) : Int).toNat).length < 35184372088832 then ((edit_Runes.f kj7 (y226 ++ (l0.drop ((mn (wrap64 (t153 + 1)) (l0.length : Int)) : Int).toNat)) l1).bind fun t233 => (if ([] : List Int).length + l5.length < 35184372088832 then ((some (([] : List Int) ++ l5 : List Int)).bind fun y234 => (if y234.length + l0.length < 35184372088832 then ((some (y234 ++ l0 : List Int)).bind fun y237 => (if y237.length + l6.length < 35184372088832 then ((some (([] : List Int) ++ l5 : List Int)).bind fun y243 => (if y243.length + l1.length < 35184372088832 then ((some (y243 ++ l1 : List Int)).bind fun y246 => (if y246.length + l6.length < 35184372088832 then (if t233 ≤ (wrap64 (t152 + 1)) then (if t152 ≤ (wrap64 (t233 + 1)) then ((edit_Runes.f kj7 (y237 ++ l6) (y246 ++ l6)).bind fun t252 => (if t252 = t152 then ((inkhornlaw5_awake.f kj7).bind fun t253 => (some t253)) else (some false))) else (some false)) else (some false)) else (none))) else (none))) else (none))) else (none))) else (none))) else (none)) else (none)) else (none))) else (none)))) else (none)) else (none)) else (none)))) = some r := H
        have A17 := Aside0.mk A170
        clear A170
        by_cases c18 : t154 = 0
        · rw [if_pos c18] at H
          have c18b0 : (t154 == 0) = true := beq_iff_eq.mpr c18
          have c18b1 : (t154 != 0) = false := bne_eq_false_iff_eq.mpr c18
          clear c18
          by_cases c19 : 0 ≤ t153
          · rw [if_pos c19] at H
            have c19b0 := eq_true c19
            have c19b1 : decide (0 ≤ t153) = true := decide_eq_true c19
            clear c19
            by_cases c20 : t153 ≤ (l0.length : Int)
            · rw [if_pos c20] at H
              have c20b0 := eq_true c20
              have c20b1 : decide (t153 ≤ (l0.length : Int)) = true := decide_eq_true c20
              clear c20
              by_cases c21 : ([] : List Int).length + (l0.take (t153 : Int).toNat).length < 35184372088832
              · rw [if_pos c21] at H
                have LMc21 := Aside0.mk c21
                clear c21
                obtain ⟨y156, hy156⟩ : ∃ y_ : List Int, y_ = (([] : List Int) ++ (l0.take (t153 : Int).toNat)) := ⟨_, rfl⟩
                replace H : ((some (([a3] : List Int) : List Int)).bind fun y159 => (if y156.length + y159.length < 35184372088832 then ((some (y156 ++ y159 : List Int)).bind fun y162 => (if y162.length + (l0.drop (t153 : Int).toNat).length < 35184372088832 then ((edit_Runes.f kj7 (y162 ++ (l0.drop (t153 : Int).toNat)) l1).bind fun t169 => (if ([] : List Int).length + l5.length < 35184372088832 then ((some (([] : List Int) ++ l5 : List Int)).bind fun y170 => (if y170.length + l0.length < 35184372088832 then ((some (y170 ++ l0 : List Int)).bind fun y173 => (if y173.length + l6.length < 35184372088832 then ((some (([] : List Int) ++ l5 : List Int)).bind fun y179 => (if y179.length + l1.length < 35184372088832 then ((some (y179 ++ l1 : List Int)).bind fun y182 => (if y182.length + l6.length < 35184372088832 then (if t169 ≤ (wrap64 (t152 + 1)) then (if t152 ≤ (wrap64 (t169 + 1)) then ((edit_Runes.f kj7 (y173 ++ l6) (y182 ++ l6)).bind fun t188 => (if t188 = t152 then ((inkhornlaw5_awake.f kj7).bind fun t189 => (some t189)) else (some false))) else (some false)) else (some false)) else (none))) else (none))) else (none))) else (none))) else (none))) else (none))) else (none))) = some r := by first | (rw [hy156]; with_reducible exact H) | (have H2_ := (Option.bind_some _ _).symm.trans H; rw [hy156]; with_reducible exact H2_) | (have H2_ := (Option.bind_some _ _).symm.trans H; with_reducible exact H2_) | with_reducible exact H | (rw [hy156]; exact H) | exact H
                have Ny156 := Aside0.mk hy156
                clear hy156
                obtain ⟨y159, hy159⟩ : ∃ y_ : List Int, y_ = (([a3] : List Int)) := ⟨_, rfl⟩
                replace H : (if y156.length + y159.length < 35184372088832 then ((some (y156 ++ y159 : List Int)).bind fun y162 => (if y162.length + (l0.drop (t153 : Int).toNat).length < 35184372088832 then ((edit_Runes.f kj7 (y162 ++ (l0.drop (t153 : Int).toNat)) l1).bind fun t169 => (if ([] : List Int).length + l5.length < 35184372088832 then ((some (([] : List Int) ++ l5 : List Int)).bind fun y170 => (if y170.length + l0.length < 35184372088832 then ((some (y170 ++ l0 : List Int)).bind fun y173 => (if y173.length + l6.length < 35184372088832 then ((some (([] : List Int) ++ l5 : List Int)).bind fun y179 => (if y179.length + l1.length < 35184372088832 then ((some (y179 ++ l1 : List Int)).bind fun y182 => (if y182.length + l6.length < 35184372088832 then (if t169 ≤ (wrap64 (t152 + 1)) then (if t152 ≤ (wrap64 (t169 + 1)) then ((edit_Runes.f kj7 (y173 ++ l6) (y182 ++ l6)).bind fun t188 => (if t188 = t152 then ((inkhornlaw5_awake.f kj7).bind fun t189 => (some t189)) else (some false))) else (some false)) else (some false)) else (none))) else (none))) else (none))) else (none))) else (none))) else (none))) else (none)) = some r := by first | (rw [hy159]; with_reducible exact H) | (have H2_ := (Option.bind_some _ _).symm.trans H; rw [hy159]; with_reducible exact H2_) | (have H2_ := (Option.bind_some _ _).symm.trans H; with_reducible exact H2_) | with_reducible exact H | (rw [hy159]; exact H) | exact H
                have Ny159 := Aside0.mk hy159
                clear hy159
                by_cases c22 : y156.length + y159.length < 35184372088832
                · rw [if_pos c22] at H
                  have LMc22 := Aside0.mk c22
                  clear c22
                  obtain ⟨y162, hy162⟩ : ∃ y_ : List Int, y_ = (y156 ++ y159) := ⟨_, rfl⟩
                  replace H : (if y162.length + (l0.drop (t153 : Int).toNat).length < 35184372088832 then ((edit_Runes.f kj7 (y162 ++ (l0.drop (t153 : Int).toNat)) l1).bind fun t169 => (if ([] : List Int).length + l5.length < 35184372088832 then ((some (([] : List Int) ++ l5 : List Int)).bind fun y170 => (if y170.length + l0.length < 35184372088832 then ((some (y170 ++ l0 : List Int)).bind fun y173 => (if y173.length + l6.length < 35184372088832 then ((some (([] : List Int) ++ l5 : List Int)).bind fun y179 => (if y179.length + l1.length < 35184372088832 then ((some (y179 ++ l1 : List Int)).bind fun y182 => (if y182.length + l6.length < 35184372088832 then (if t169 ≤ (wrap64 (t152 + 1)) then (if t152 ≤ (wrap64 (t169 + 1)) then ((edit_Runes.f kj7 (y173 ++ l6) (y182 ++ l6)).bind fun t188 => (if t188 = t152 then ((inkhornlaw5_awake.f kj7).bind fun t189 => (some t189)) else (some false))) else (some false)) else (some false)) else (none))) else (none))) else (none))) else (none))) else (none))) else (none)) = some r := by first | (rw [hy162]; with_reducible exact H) | (have H2_ := (Option.bind_some _ _).symm.trans H; rw [hy162]; with_reducible exact H2_) | (have H2_ := (Option.bind_some _ _).symm.trans H; with_reducible exact H2_) | with_reducible exact H | (rw [hy162]; exact H) | exact H
                  have Ny162 := Aside0.mk hy162
                  clear hy162
                  have c23b0 := eq_true (of_decide_eq_true (by first | (with_reducible assumption) | assumption) : 0 ≤ t153)
                  have c24b0 := eq_true (of_decide_eq_true (by first | (with_reducible assumption) | assumption) : t153 ≤ (l0.length : Int))
                  by_cases c25 : y162.length + (l0.drop (t153 : Int).toNat).length < 35184372088832
                  · rw [if_pos c25] at H
                    have LMc25 := Aside0.mk c25
                    clear c25
                    obtain ⟨y166, hy166⟩ : ∃ y_ : List Int, y_ = (y162 ++ (l0.drop (t153 : Int).toNat)) := ⟨_, rfl⟩
                    replace H : ((edit_Runes.f kj7 y166 l1).bind fun t169 => (if ([] : List Int).length + l5.length < 35184372088832 then ((some (([] : List Int) ++ l5 : List Int)).bind fun y170 => (if y170.length + l0.length < 35184372088832 then ((some (y170 ++ l0 : List Int)).bind fun y173 => (if y173.length + l6.length < 35184372088832 then ((some (([] : List Int) ++ l5 : List Int)).bind fun y179 => (if y179.length + l1.length < 35184372088832 then ((some (y179 ++ l1 : List Int)).bind fun y182 => (if y182.length + l6.length < 35184372088832 then (if t169 ≤ (wrap64 (t152 + 1)) then (if t152 ≤ (wrap64 (t169 + 1)) then ((edit_Runes.f kj7 (y173 ++ l6) (y182 ++ l6)).bind fun t188 => (if t188 = t152 then ((inkhornlaw5_awake.f kj7).bind fun t189 => (some t189)) else (some false))) else (some false)) else (some false)) else (none))) else (none))) else (none))) else (none))) else (none))) = some r := by first | (rw [hy166]; with_reducible exact H) | (have H2_ := (Option.bind_some _ _).symm.trans H; rw [hy166]; with_reducible exact H2_) | (have H2_ := (Option.bind_some _ _).symm.trans H; with_reducible exact H2_) | with_reducible exact H | (rw [hy166]; exact H) | exact H
                    have Ny166 := Aside0.mk hy166
                    clear hy166
                    replace H := Option.bind_eq_some_iff.mp H
                    obtain ⟨t169, A260, H⟩ := H
                    replace H : (if ([] : List Int).length + l5.length < 35184372088832 then ((some (([] : List Int) ++ l5 : List Int)).bind fun y170 => (if y170.length + l0.length < 35184372088832 then ((some (y170 ++ l0 : List Int)).bind fun y173 => (if y173.length + l6.length < 35184372088832 then ((some (([] : List Int) ++ l5 : List Int)).bind fun y179 => (if y179.length + l1.length < 35184372088832 then ((some (y179 ++ l1 : List Int)).bind fun y182 => (if y182.length + l6.length < 35184372088832 then (if t169 ≤ (wrap64 (t152 + 1)) then (if t152 ≤ (wrap64 (t169 + 1)) then ((edit_Runes.f kj7 (y173 ++ l6) (y182 ++ l6)).bind fun t188 => (if t188 = t152 then ((inkhornlaw5_awake.f kj7).bind fun t189 => (some t189)) else (some false))) else (some false)) else (some false)) else (none))) else (none))) else (none))) else (none))) else (none)) = some r := H
                    have A26 := Aside0.mk A260
                    clear A260
                    by_cases c27 : ([] : List Int).length + l5.length < 35184372088832
                    · rw [if_pos c27] at H
                      have LMc27 := Aside0.mk c27
                      clear c27
                      obtain ⟨y170, hy170⟩ : ∃ y_ : List Int, y_ = (([] : List Int) ++ l5) := ⟨_, rfl⟩
                      replace H : (if y170.length + l0.length < 35184372088832 then ((some (y170 ++ l0 : List Int)).bind fun y173 => (if y173.length + l6.length < 35184372088832 then ((some (([] : List Int) ++ l5 : List Int)).bind fun y179 => (if y179.length + l1.length < 35184372088832 then ((some (y179 ++ l1 : List Int)).bind fun y182 => (if y182.length + l6.length < 35184372088832 then (if t169 ≤ (wrap64 (t152 + 1)) then (if t152 ≤ (wrap64 (t169 + 1)) then ((edit_Runes.f kj7 (y173 ++ l6) (y182 ++ l6)).bind fun t188 => (if t188 = t152 then ((inkhornlaw5_awake.f kj7).bind fun t189 => (some t189)) else (some false))) else (some false)) else (some false)) else (none))) else (none))) else (none))) else (none)) = some r := by first | (rw [hy170]; with_reducible exact H) | (have H2_ := (Option.bind_some _ _).symm.trans H; rw [hy170]; with_reducible exact H2_) | (have H2_ := (Option.bind_some _ _).symm.trans H; with_reducible exact H2_) | with_reducible exact H | (rw [hy170]; exact H) | exact H
                      have Ny170 := Aside0.mk hy170
                      clear hy170
                      by_cases c28 : y170.length + l0.length < 35184372088832
                      · rw [if_pos c28] at H
                        have LMc28 := Aside0.mk c28
                        clear c28
                        obtain ⟨y173, hy173⟩ : ∃ y_ : List Int, y_ = (y170 ++ l0) := ⟨_, rfl⟩
                        replace H : (if y173.length + l6.length < 35184372088832 then ((some (([] : List Int) ++ l5 : List Int)).bind fun y179 => (if y179.length + l1.length < 35184372088832 then ((some (y179 ++ l1 : List Int)).bind fun y182 => (if y182.length + l6.length < 35184372088832 then (if t169 ≤ (wrap64 (t152 + 1)) then (if t152 ≤ (wrap64 (t169 + 1)) then ((edit_Runes.f kj7 (y173 ++ l6) (y182 ++ l6)).bind fun t188 => (if t188 = t152 then ((inkhornlaw5_awake.f kj7).bind fun t189 => (some t189)) else (some false))) else (some false)) else (some false)) else (none))) else (none))) else (none)) = some r := by first | (rw [hy173]; with_reducible exact H) | (have H2_ := (Option.bind_some _ _).symm.trans H; rw [hy173]; with_reducible exact H2_) | (have H2_ := (Option.bind_some _ _).symm.trans H; with_reducible exact H2_) | with_reducible exact H | (rw [hy173]; exact H) | exact H
                        have Ny173 := Aside0.mk hy173
                        clear hy173
                        by_cases c29 : y173.length + l6.length < 35184372088832
                        · rw [if_pos c29] at H
                          have LMc29 := Aside0.mk c29
                          clear c29
                          obtain ⟨y176, hy176⟩ : ∃ y_ : List Int, y_ = (y173 ++ l6) := ⟨_, rfl⟩
                          replace H : ((some (([] : List Int) ++ l5 : List Int)).bind fun y179 => (if y179.length + l1.length < 35184372088832 then ((some (y179 ++ l1 : List Int)).bind fun y182 => (if y182.length + l6.length < 35184372088832 then (if t169 ≤ (wrap64 (t152 + 1)) then (if t152 ≤ (wrap64 (t169 + 1)) then ((edit_Runes.f kj7 y176 (y182 ++ l6)).bind fun t188 => (if t188 = t152 then ((inkhornlaw5_awake.f kj7).bind fun t189 => (some t189)) else (some false))) else (some false)) else (some false)) else (none))) else (none))) = some r := by first | (rw [hy176]; with_reducible exact H) | (have H2_ := (Option.bind_some _ _).symm.trans H; rw [hy176]; with_reducible exact H2_) | (have H2_ := (Option.bind_some _ _).symm.trans H; with_reducible exact H2_) | with_reducible exact H | (rw [hy176]; exact H) | exact H
                          have Ny176 := Aside0.mk hy176
                          clear hy176
                          obtain ⟨y179, hy179⟩ : ∃ y_ : List Int, y_ = (([] : List Int) ++ l5) := ⟨_, rfl⟩
                          replace H : (if y179.length + l1.length < 35184372088832 then ((some (y179 ++ l1 : List Int)).bind fun y182 => (if y182.length + l6.length < 35184372088832 then (if t169 ≤ (wrap64 (t152 + 1)) then (if t152 ≤ (wrap64 (t169 + 1)) then ((edit_Runes.f kj7 y176 (y182 ++ l6)).bind fun t188 => (if t188 = t152 then ((inkhornlaw5_awake.f kj7).bind fun t189 => (some t189)) else (some false))) else (some false)) else (some false)) else (none))) else (none)) = some r := by first | (rw [hy179]; with_reducible exact H) | (have H2_ := (Option.bind_some _ _).symm.trans H; rw [hy179]; with_reducible exact H2_) | (have H2_ := (Option.bind_some _ _).symm.trans H; with_reducible exact H2_) | with_reducible exact H | (rw [hy179]; exact H) | exact H
                          have Ny179 := Aside0.mk hy179
                          clear hy179
                          by_cases c30 : y179.length + l1.length < 35184372088832
                          · rw [if_pos c30] at H
                            have LMc30 := Aside0.mk c30
                            clear c30
                            obtain ⟨y182, hy182⟩ : ∃ y_ : List Int, y_ = (y179 ++ l1) := ⟨_, rfl⟩
                            replace H : (if y182.length + l6.length < 35184372088832 then (if t169 ≤ (wrap64 (t152 + 1)) then (if t152 ≤ (wrap64 (t169 + 1)) then ((edit_Runes.f kj7 y176 (y182 ++ l6)).bind fun t188 => (if t188 = t152 then ((inkhornlaw5_awake.f kj7).bind fun t189 => (some t189)) else (some false))) else (some false)) else (some false)) else (none)) = some r := by first | (rw [hy182]; with_reducible exact H) | (have H2_ := (Option.bind_some _ _).symm.trans H; rw [hy182]; with_reducible exact H2_) | (have H2_ := (Option.bind_some _ _).symm.trans H; with_reducible exact H2_) | with_reducible exact H | (rw [hy182]; exact H) | exact H
                            have Ny182 := Aside0.mk hy182
                            clear hy182
                            by_cases c31 : y182.length + l6.length < 35184372088832
                            · rw [if_pos c31] at H
                              have LMc31 := Aside0.mk c31
                              clear c31
                              obtain ⟨y185, hy185⟩ : ∃ y_ : List Int, y_ = (y182 ++ l6) := ⟨_, rfl⟩
                              replace H : (if t169 ≤ (wrap64 (t152 + 1)) then (if t152 ≤ (wrap64 (t169 + 1)) then ((edit_Runes.f kj7 y176 y185).bind fun t188 => (if t188 = t152 then ((inkhornlaw5_awake.f kj7).bind fun t189 => (some t189)) else (some false))) else (some false)) else (some false)) = some r := by first | (rw [hy185]; with_reducible exact H) | (have H2_ := (Option.bind_some _ _).symm.trans H; rw [hy185]; with_reducible exact H2_) | (have H2_ := (Option.bind_some _ _).symm.trans H; with_reducible exact H2_) | with_reducible exact H | (rw [hy185]; exact H) | exact H
                              have Ny185 := Aside0.mk hy185
                              clear hy185
                              by_cases c32 : t169 ≤ (wrap64 (t152 + 1))
                              · rw [if_pos c32] at H
                                have c32b0 : decide (t169 ≤ (wrap64 (t152 + 1))) = true := decide_eq_true c32
                                clear c32
                                by_cases c33 : t152 ≤ (wrap64 (t169 + 1))
                                · rw [if_pos c33] at H
                                  have c33b0 : decide (t152 ≤ (wrap64 (t169 + 1))) = true := decide_eq_true c33
                                  clear c33
                                  replace H := Option.bind_eq_some_iff.mp H
                                  obtain ⟨t188, A340, H⟩ := H
                                  replace H : (if t188 = t152 then ((inkhornlaw5_awake.f kj7).bind fun t189 => (some t189)) else (some false)) = some r := H
                                  have A34 := Aside0.mk A340
                                  clear A340
                                  by_cases c35 : t188 = t152
                                  · rw [if_pos c35] at H
                                    have c35b0 : (t188 == t152) = true := beq_iff_eq.mpr c35
                                    have c35b1 : (t188 != t152) = false := bne_eq_false_iff_eq.mpr c35
                                    clear c35
                                    replace H := Option.bind_eq_some_iff.mp H
                                    obtain ⟨t189, A360, H⟩ := H
                                    replace H : (some t189) = some r := H
                                    have A36 := Aside0.mk A360
                                    clear A360
                                    obtain rfl := Option.some.inj H
                                    try go_wp2_with (first | ((with_reducible refine gate_callee (f := 19) rfl ?_); refine goesL_ (some 42) rfl rfl Try.func19 (by kernel_rfl) rfl #[.slice A0 l0.length c0, .slice A1 l1.length c1] rfl (by (try simp only [List.map_toArray, List.map_cons, List.map_nil]); first | done | rfl | (simp only [List.length_drop, List.length_take]; rfl)) ?_; (with_reducible refine (edit_Runes.calls kj7 _ _ l0 _ _ l1 t152 _ ?side1 ?side2 ?side3 ?side4 A15.out).mono ?_); (case side1 => repeat (first | exact (Kd.C_below HR0.out HB.out) | (with_reducible refine Kd.C_alloc ?_ _) | (with_reducible refine Kd.C_drewN ?_ _) | (with_reducible refine Kd.C_drew ?_))); (case side2 => exact HC0.out); (case side3 => repeat (first | exact (Kd.C_below HR1.out HB.out) | (with_reducible refine Kd.C_alloc ?_ _) | (with_reducible refine Kd.C_drewN ?_ _) | (with_reducible refine Kd.C_drew ?_))); (case side4 => exact HC1.out); rintro e w37 ⟨rfl, hb⟩; refine ⟨_, rfl, ?_⟩; have n0_ := Aside0.mk (below_step (by repeat (first | (with_reducible first | exact HB.out | apply below_alloc | apply pw_below_drewN | apply below_drew1) | exact HB.out)) hb); clear HB; have HB := n0_; clear n0_; (try clear hb); (try clear hb2); (try clear hk); (try clear hi)) | ((with_reducible refine gate_callee (f := 28) rfl ?_); refine goesL_ (some 47) rfl rfl Try.func28 (by kernel_rfl) rfl #[.int .i64 a2, .int .i64 (wrap64 ((l0.length : Int) + 1))] rfl (by (try simp only [List.map_toArray, List.map_cons, List.map_nil]); first | done | rfl | (simp only [List.length_drop, List.length_take]; rfl)) ?_; (with_reducible refine (inkhornlaw0_Low.calls a2 (wrap64 ((l0.length : Int) + 1)) t153 _ A16.out).mono ?_); rintro e w' ⟨rfl, ⟨nd, rfl⟩⟩; refine ⟨_, rfl, ?_⟩) | ((with_reducible refine gate_callee (f := 28) rfl ?_); refine goesL_ (some 49) rfl rfl Try.func28 (by kernel_rfl) rfl #[.int .i64 a4, .int .i64 3] rfl (by (try simp only [List.map_toArray, List.map_cons, List.map_nil]); first | done | rfl | (simp only [List.length_drop, List.length_take]; rfl)) ?_; (with_reducible refine (inkhornlaw0_Low.calls a4 3 t154 _ A17.out).mono ?_); rintro e w' ⟨rfl, ⟨nd, rfl⟩⟩; refine ⟨_, rfl, ?_⟩))
                                    (try (rw [drewN_self w37]; generalize hq_ : World.drewN w37 _ = w37; have n0_ : Aside0 (Below w.heap.size w w37) := ⟨by rw [← hq_]; exact (by repeat (first | (with_reducible first | exact HB.out | apply below_alloc | apply pw_below_drewN | apply below_drew1) | exact HB.out))⟩; clear HB hq_; have HB := n0_; clear n0_))
                                    have n0_ := Aside0.mk (below_drew1 HB.out)
                                    clear HB
                                    have HB := n0_
                                    clear n0_
                                    obtain ⟨i039, hi039, _, hsz39, _⟩ := info_parts info21
                                    obtain ⟨hcut39, hA39, hC39⟩ := print_take_of (P := Try.prog) (Value.int .i32) 0 22 21 .i64 Try.underlying22 hi039 hsz39 A0 c0 l0 t153 (of_decide_eq_true (by first | (with_reducible assumption) | assumption)) (of_decide_eq_true (by first | (with_reducible assumption) | assumption)) HC0.out
                                    have HR155 := Aside0.mk (Kd.C_of_reads (h1 := fun _ => rfl) (hA39 _ (Kd.reads_of_C HR0.out)))
                                    have HC155 := Aside0.mk hC39
                                    clear hA39 hC39 hi039 hsz39
                                    obtain ⟨i040, hi040, _, hsz40, _⟩ := info_parts info21
                                    obtain ⟨A40, hcut40, hA40, hC40⟩ := print_drop_of (P := Try.prog) (Value.int .i32) 0 22 21 .i64 Try.underlying22 hi040 hsz40 A0 c0 l0 t153 (of_decide_eq_true (by first | (with_reducible assumption) | assumption)) (of_decide_eq_true (by first | (with_reducible assumption) | assumption)) HC0.out
                                    have HR165 := Aside0.mk (Kd.C_of_reads (h1 := fun _ => rfl) (hA40 _ (Kd.reads_of_C HR0.out)))
                                    have HC165 := Aside0.mk hC40
                                    clear hA40 hC40 hi040 hsz40
                                    refine start_ (n := 13) (S := fun w' => True) (ds := []) #[false, false, false, false, false, false, false, false, false, false, false, false, false] (by kernel_rfl) rfl rfl trivial (fun hHeld => ?_); refine with_tabW inkhornlaw5_EditSteps.tab9 inkhornlaw5_EditSteps.bits9 (fun HT_ HW_ => ?_)
                                    generalize w37.drew = w38 at HB HR155 HR165 hHeld ⊢
                                    refine pure_ (i := 0) (N := some 68) (v := ?_) (a' := ?_) #[true, false, false, false, false, false, false, false, false, false, false, false, false] rfl rfl (any_of HT_.out (by kernel_rfl)) (fun _ _ _ h => h) (Or.inl ⟨by rfl, ?_⟩) ?_ ?_
                                    rotate_left
                                    · intro w'
                                      go_simp
                                      with_reducible rfl
                                    rotate_left
                                    · simp only [Act.put, List.setIfInBounds_toArray, List.set_cons_zero, List.set_cons_succ, i64_w, i32_w]
                                      rfl
                                    refine pure_ (i := 1) (N := some 69) (v := ?_) (a' := ?_) #[true, true, false, false, false, false, false, false, false, false, false, false, false] rfl rfl (any_of HT_.out (by kernel_rfl)) (fun _ _ _ h => h) (Or.inl ⟨by rfl, ?_⟩) ?_ ?_
                                    rotate_left
                                    · intro w'
                                      go_simp
                                      with_reducible rfl
                                    rotate_left
                                    · simp only [Act.put, List.setIfInBounds_toArray, List.set_cons_zero, List.set_cons_succ, i64_w, i32_w]
                                      rfl
                                    refine pure_ (i := 2) (N := some 70) (v := ?_) (a' := ?_) #[true, true, true, false, false, false, false, false, false, false, false, false, false] rfl rfl (any_of HT_.out (by kernel_rfl)) (fun _ _ _ h => h) (Or.inl ⟨by rfl, ?_⟩) ?_ ?_
                                    rotate_left
                                    · intro w'
                                      go_simp
                                      with_reducible rfl
                                    rotate_left
                                    · simp only [Act.put, List.setIfInBounds_toArray, List.set_cons_zero, List.set_cons_succ, i64_w, i32_w]
                                      rfl
                                    refine pure_ (i := 3) (N := some 71) (v := ?_) (a' := ?_) #[true, true, true, true, false, false, false, false, false, false, false, false, false] rfl rfl (any_of HT_.out (by kernel_rfl)) (fun _ _ _ h => h) (Or.inl ⟨by rfl, ?_⟩) ?_ ?_
                                    rotate_left
                                    · intro w'
                                      go_simp
                                      with_reducible rfl
                                    rotate_left
                                    · simp only [Act.put, List.setIfInBounds_toArray, List.set_cons_zero, List.set_cons_succ, i64_w, i32_w]
                                      rfl
                                    refine pure_ (i := 5) (N := some 73) (v := ?_) (a' := ?_) #[true, true, true, true, false, true, false, false, false, false, false, false, false] rfl rfl (any_of HT_.out (by kernel_rfl)) (fun _ _ _ h => h) (Or.inl ⟨by rfl, ?_⟩) ?_ ?_
                                    rotate_left
                                    · intro w'
                                      go_simp
                                      with_reducible rfl
                                    rotate_left
                                    · simp only [Act.put, List.setIfInBounds_toArray, List.set_cons_zero, List.set_cons_succ, i64_w, i32_w]
                                      rfl
                                    refine pure_ (i := 8) (N := some 76) (v := ?_) (a' := ?_) #[true, true, true, true, false, true, false, false, true, false, false, false, false] rfl rfl (any_of HT_.out (by kernel_rfl)) (fun _ _ _ h => h) (Or.inl ⟨by rfl, ?_⟩) ?_ ?_
                                    rotate_left
                                    · intro w'
                                      go_simp
                                      with_reducible rfl
                                    rotate_left
                                    · simp only [Act.put, List.setIfInBounds_toArray, List.set_cons_zero, List.set_cons_succ, i64_w, i32_w]
                                      rfl
                                    refine pure_ (i := 9) (N := some 77) (v := ?_) (a' := ?_) #[true, true, true, true, false, true, false, false, true, true, false, false, false] rfl rfl (any_of HT_.out (by kernel_rfl)) (fun _ _ _ h => h) (Or.inl ⟨by rfl, ?_⟩) ?_ ?_
                                    rotate_left
                                    · intro w'
                                      go_simp
                                      with_reducible rfl
                                    rotate_left
                                    · simp only [Act.put, List.setIfInBounds_toArray, List.set_cons_zero, List.set_cons_succ, i64_w, i32_w]
                                      rfl
                                    refine pure_ (i := 10) (N := some 78) (v := ?_) (a' := ?_) #[true, true, true, true, false, true, false, false, true, true, true, false, false] rfl rfl (any_of HT_.out (by kernel_rfl)) (fun _ _ _ h => h) (Or.inl ⟨by rfl, ?_⟩) ?_ ?_
                                    rotate_left
                                    · intro w'
                                      go_simp
                                      with_reducible rfl
                                    rotate_left
                                    · simp only [Act.put, List.setIfInBounds_toArray, List.set_cons_zero, List.set_cons_succ, i64_w, i32_w]
                                      rfl
                                    refine join_ (σ := Value × Value) 3 #[true, true, true, true, true, true, true, false, true, true, true, false, false] (fun s_ => [(72, s_.1), (74, s_.2)]) (fun s_ w' => (Kd.R (Kd.int .i32) 21 w' w.heap.size (fun k_ => some k_ ≠ (s_.2 : Value).ownBlock) s_.1 y156) ∧ (Kd.R (Kd.int .i32) 21 w' w.heap.size (fun k_ => some k_ ≠ (s_.1 : Value).ownBlock) s_.2 y159) ∧ (Below w.heap.size w w')) ?_ ?_
                                    rotate_left
                                    · intro hCont
                                      refine two_ (i := 4) (j := 6) (Ni := some 72) (Nj := some 74) #[true, true, true, true, true, true, false, false, true, true, true, false, false] #[true, true, true, true, false, true, true, false, true, true, true, false, false] rfl rfl rfl rfl (two_of HT_.out (by kernel_rfl)) (by decide) (by decide) (fun K hK => ?_) (fun K hK => ?_)
                                      · skip
                                        refine Kd.R_append_rows_step (Kd.int .i32) (w0 := w) w.heap.size (by rfl) (.tmp 68) (.tmp 71) 22 21 (.int .i32 0) 4 rfl Try.underlying22 info21 rfl (by decide) (by omega) (.slice none 0 0) ([] : List Int) (l0.take (t153 : Int).toNat) _ _ _ (fun _ => True) (fun _ => False) rfl rfl ?aO ?aR (fun _ _ h => h) (fun _ h => h.elim) ?aF ?aB ?aS ?aL ?_
                                        (case aR => first | (have X_ := (Kd.C_below HR155.out HB.out); rw [show (l0.take (t153 : Int).toNat).length = t153.toNat from (by rw [List.length_take]; have h_ : (t153 : Int) ≤ (l0.length : Int) := of_decide_eq_true (by first | (with_reducible assumption) | assumption); omega)] at X_; exact X_) | (have X_ := (Kd.C_below HR155.out HB.out); rw [show (l0.take (t153 : Int).toNat).length = t153.toNat from (by rw [List.length_take]; have h_ : (t153 : Int) ≤ (l0.length : Int) := of_decide_eq_true (by first | (with_reducible assumption) | assumption); omega)] at X_; exact Kd.C_alloc X_ _) | (rw [← show (l0.take (t153 : Int).toNat).length = t153.toNat from (by rw [List.length_take]; have h_ : (t153 : Int) ≤ (l0.length : Int) := of_decide_eq_true (by first | (with_reducible assumption) | assumption); omega)]; repeat (first | exact (Kd.C_below HR155.out HB.out) | (with_reducible refine Kd.C_alloc ?_ _) | (with_reducible refine Kd.C_drewN ?_ _) | (with_reducible refine Kd.C_drew ?_)); done) | (repeat (first | exact (Kd.C_below HR155.out HB.out) | (with_reducible refine Kd.C_alloc ?_ _) | (with_reducible refine Kd.C_drewN ?_ _) | (with_reducible refine Kd.C_drew ?_))))
                                        (case aB => exact (by repeat (first | (with_reducible first | exact HB.out | apply below_alloc | apply pw_below_drewN | apply below_drew1) | exact HB.out)))
                                        (case aF => exact (fun _ _ => trivial))
                                        (case aO => exact ((Kd.R_nil _ _ _ _ (fun _ => True))))
                                        (case aS => exact (below_size (by repeat (first | (with_reducible first | exact HB.out | apply below_alloc | apply pw_below_drewN | apply below_drew1) | exact HB.out))))
                                        (case aL => have := LMc21.out; have hlx_ := (show (l0.take (t153 : Int).toNat).length = t153.toNat from (by rw [List.length_take]; have h_ : (t153 : Int) ≤ (l0.length : Int) := of_decide_eq_true (by first | (with_reducible assumption) | assumption); omega)); omega)
                                        intro v157 w41 ho hb hg hat
                                        rw [← Ny156.out] at ho
                                        have n0_ := Aside0.mk (hb)
                                        have n1_ := Aside0.mk (ho)
                                        clear HB
                                        have HB := n0_
                                        have HO158 := n1_
                                        clear n0_ n1_
                                        clear ho hb hg hat
                                        refine hK.out _ _ trivial (fun hHeld => ?_)
                                        clear hK K
                                        refine norm_ (a' := ?_) ?_ ?_
                                        rotate_left
                                        · show Act.put _ (some 72) _ = _
                                          simp only [Act.put, List.setIfInBounds_toArray, List.set_cons_zero, List.set_cons_succ, i64_w, i32_w]
                                          rfl
                                        refine one_ (i := 6) (N := some 74) #[true, true, true, true, true, true, true, false, true, true, true, false, false] rfl rfl (one_of HT_.out (by kernel_rfl)) (by decide) (fun K hK => ?_)
                                        refine Kd.R_lit_step (Kd.int .i32) _ 21 ?hg (N := 74) ?hd (xs := ([a3] : List Int)) (inner := [.int .i32 a3]) (ok := fun _ => True) (okp := fun _ => True) ?hr ?hp (fun _ hk => hk) trivial (Below.refl _ _) (Nat.le_refl _) (by simp) ?_; (case hd => rfl); (case hg => rfl); (case hr => first | (go_simp; done) | (go_simp; rfl)); (case hp => exact (Reps.one (show Kd.M (Kd.int .i32) _ _ _ a3 [.int .i32 a3] from rfl) (Reps.none _ _)))
                                        intro v160 w42 ho43 hb hg_ hnew_
                                        clear hg_ hnew_
                                        (first | rw [← Ny159.out] at ho43 | (simp only [Int.reduceToNat] at ho43; rw [← Ny159.out] at ho43))
                                        have n0_ := Aside0.mk (Kd.R_elder' (by (with_reducible repeat (first | apply Kd.R_alloc | apply Kd.R_drewN | apply Kd.R_drew)); exact HO158.out) (Kd.R_base ho43) hb)
                                        have n1_ := Aside0.mk (Kd.R_lower (Kd.R_new' ho43 (Kd.R_lt (by (with_reducible repeat (first | apply Kd.R_alloc | apply Kd.R_drewN | apply Kd.R_drew)); exact HO158.out))) (below_size (by repeat (first | (with_reducible first | exact HB.out | apply below_alloc | apply pw_below_drewN | apply below_drew1) | exact HB.out))))
                                        have n2_ := Aside0.mk (below_step (by repeat (first | (with_reducible first | exact HB.out | apply below_alloc | apply pw_below_drewN | apply below_drew1) | exact HB.out)) hb)
                                        clear HO158
                                        clear HB
                                        have HO158 := n0_
                                        have HO161 := n1_
                                        have HB := n2_
                                        clear n0_ n1_ n2_
                                        clear hb ho43
                                        refine hK.out _ _ trivial (fun hHeld => ?_)
                                        clear hK K
                                        refine norm_ (a' := ?_) ?_ ?_
                                        rotate_left
                                        · show Act.put _ (some 74) _ = _
                                          simp only [Act.put, List.setIfInBounds_toArray, List.set_cons_zero, List.set_cons_succ, i64_w, i32_w]
                                          rfl
                                        exact norm_ (by simp only [putAll, Act.put, List.setIfInBounds_toArray, List.set_cons_zero, List.set_cons_succ]) (hCont (v157, v160) _ ⟨(by (with_reducible repeat (first | apply Kd.R_alloc | apply Kd.R_drewN | apply Kd.R_drew)); exact Kd.R_mono HO158.out (fun _ hk => hk.2)), (by (with_reducible repeat (first | apply Kd.R_alloc | apply Kd.R_drewN | apply Kd.R_drew)); exact Kd.R_mono HO161.out (fun _ hk => hk.2)), (by repeat (first | (with_reducible first | exact HB.out | apply below_alloc | apply pw_below_drewN | apply below_drew1) | exact HB.out))⟩)
                                      · skip
                                        refine Kd.R_lit_step (Kd.int .i32) _ 21 ?hg (N := 74) ?hd (xs := ([a3] : List Int)) (inner := [.int .i32 a3]) (ok := fun _ => True) (okp := fun _ => True) ?hr ?hp (fun _ hk => hk) trivial (Below.refl _ _) (Nat.le_refl _) (by simp) ?_; (case hd => rfl); (case hg => rfl); (case hr => first | (go_simp; done) | (go_simp; rfl)); (case hp => exact (Reps.one (show Kd.M (Kd.int .i32) _ _ _ a3 [.int .i32 a3] from rfl) (Reps.none _ _)))
                                        intro v160 w41 ho42 hb hg_ hnew_
                                        clear hg_ hnew_
                                        (first | rw [← Ny159.out] at ho42 | (simp only [Int.reduceToNat] at ho42; rw [← Ny159.out] at ho42))
                                        have n0_ := Aside0.mk (Kd.R_lower ho42 (below_size (by repeat (first | (with_reducible first | exact HB.out | apply below_alloc | apply pw_below_drewN | apply below_drew1) | exact HB.out))))
                                        have n1_ := Aside0.mk (below_step (by repeat (first | (with_reducible first | exact HB.out | apply below_alloc | apply pw_below_drewN | apply below_drew1) | exact HB.out)) hb)
                                        clear HB
                                        have HO161 := n0_
                                        have HB := n1_
                                        clear n0_ n1_
                                        clear hb ho42
                                        refine hK.out _ _ trivial (fun hHeld => ?_)
                                        clear hK K
                                        refine norm_ (a' := ?_) ?_ ?_
                                        rotate_left
                                        · show Act.put _ (some 74) _ = _
                                          simp only [Act.put, List.setIfInBounds_toArray, List.set_cons_zero, List.set_cons_succ, i64_w, i32_w]
                                          rfl
                                        refine one_ (i := 4) (N := some 72) #[true, true, true, true, true, true, true, false, true, true, true, false, false] rfl rfl (one_of HT_.out (by kernel_rfl)) (by decide) (fun K hK => ?_)
                                        refine Kd.R_append_rows_step (Kd.int .i32) (w0 := w) w.heap.size (by rfl) (.tmp 68) (.tmp 71) 22 21 (.int .i32 0) 4 rfl Try.underlying22 info21 rfl (by decide) (by omega) (.slice none 0 0) ([] : List Int) (l0.take (t153 : Int).toNat) _ _ _ (fun k_ => some k_ ≠ (v160 : Value).ownBlock) (fun _ => False) rfl rfl ?aO ?aR (fun _ _ h => h) (fun _ h => h.elim) ?aF ?aB ?aS ?aL ?_
                                        (case aR => first | (have X_ := (Kd.C_below HR155.out HB.out); rw [show (l0.take (t153 : Int).toNat).length = t153.toNat from (by rw [List.length_take]; have h_ : (t153 : Int) ≤ (l0.length : Int) := of_decide_eq_true (by first | (with_reducible assumption) | assumption); omega)] at X_; exact X_) | (have X_ := (Kd.C_below HR155.out HB.out); rw [show (l0.take (t153 : Int).toNat).length = t153.toNat from (by rw [List.length_take]; have h_ : (t153 : Int) ≤ (l0.length : Int) := of_decide_eq_true (by first | (with_reducible assumption) | assumption); omega)] at X_; exact Kd.C_alloc X_ _) | (rw [← show (l0.take (t153 : Int).toNat).length = t153.toNat from (by rw [List.length_take]; have h_ : (t153 : Int) ≤ (l0.length : Int) := of_decide_eq_true (by first | (with_reducible assumption) | assumption); omega)]; repeat (first | exact (Kd.C_below HR155.out HB.out) | (with_reducible refine Kd.C_alloc ?_ _) | (with_reducible refine Kd.C_drewN ?_ _) | (with_reducible refine Kd.C_drew ?_)); done) | (repeat (first | exact (Kd.C_below HR155.out HB.out) | (with_reducible refine Kd.C_alloc ?_ _) | (with_reducible refine Kd.C_drewN ?_ _) | (with_reducible refine Kd.C_drew ?_))))
                                        (case aB => exact (by repeat (first | (with_reducible first | exact HB.out | apply below_alloc | apply pw_below_drewN | apply below_drew1) | exact HB.out)))
                                        (case aF => exact (fun k_ hk => Kd.fresh' (Kd.R_lt (by (with_reducible repeat (first | apply Kd.R_alloc | apply Kd.R_drewN | apply Kd.R_drew)); exact HO161.out)) k_ hk))
                                        (case aO => exact ((Kd.R_nil _ _ _ _ (fun k_ => some k_ ≠ (v160 : Value).ownBlock))))
                                        (case aS => exact (below_size (by repeat (first | (with_reducible first | exact HB.out | apply below_alloc | apply pw_below_drewN | apply below_drew1) | exact HB.out))))
                                        (case aL => have := LMc21.out; have hlx_ := (show (l0.take (t153 : Int).toNat).length = t153.toNat from (by rw [List.length_take]; have h_ : (t153 : Int) ≤ (l0.length : Int) := of_decide_eq_true (by first | (with_reducible assumption) | assumption); omega)); omega)
                                        intro v157 w43 ho hb hg hat
                                        rw [← Ny156.out] at ho
                                        have n0_ := Aside0.mk (Kd.R_after (Kd.R_apart_nil (by (with_reducible repeat (first | apply Kd.R_alloc | apply Kd.R_drewN | apply Kd.R_drew)); exact HO161.out)) hg hat)
                                        have n1_ := Aside0.mk (hb)
                                        have n2_ := Aside0.mk (ho)
                                        clear HO161
                                        clear HB
                                        have HO161 := n0_
                                        have HB := n1_
                                        have HO158 := n2_
                                        clear n0_ n1_ n2_
                                        clear ho hb hg hat
                                        refine hK.out _ _ trivial (fun hHeld => ?_)
                                        clear hK K
                                        refine norm_ (a' := ?_) ?_ ?_
                                        rotate_left
                                        · show Act.put _ (some 72) _ = _
                                          simp only [Act.put, List.setIfInBounds_toArray, List.set_cons_zero, List.set_cons_succ, i64_w, i32_w]
                                          rfl
                                        exact norm_ (by simp only [putAll, Act.put, List.setIfInBounds_toArray, List.set_cons_zero, List.set_cons_succ]) (hCont (v157, v160) _ ⟨(by (with_reducible repeat (first | apply Kd.R_alloc | apply Kd.R_drewN | apply Kd.R_drew)); exact HO158.out), (by (with_reducible repeat (first | apply Kd.R_alloc | apply Kd.R_drewN | apply Kd.R_drew)); exact Kd.R_mono HO161.out (fun _ hk => hk.2)), (by repeat (first | (with_reducible first | exact HB.out | apply below_alloc | apply pw_below_drewN | apply below_drew1) | exact HB.out))⟩)
                                    rintro ⟨v157, v160⟩ w44 ⟨h0_, h1_, h2_⟩
                                    have n0_ : Aside0 (Kd.R (Kd.int .i32) 21 w44 w.heap.size (fun k_ => some k_ ≠ (v160 : Value).ownBlock) v157 y156) := ⟨h0_⟩
                                    have n1_ : Aside0 (Kd.R (Kd.int .i32) 21 w44 w.heap.size (fun k_ => some k_ ≠ (v157 : Value).ownBlock) v160 y159) := ⟨h1_⟩
                                    have n2_ : Aside0 (Below w.heap.size w w44) := ⟨h2_⟩
                                    clear HB
                                    clear h0_ h1_ h2_
                                    have HO158 := n0_
                                    have HO161 := n1_
                                    have HB := n2_
                                    clear n0_ n1_ n2_
                                    have hHeld := trivial
                                    obtain ⟨Ao46, co46, eo46⟩ := Kd.R_slice HO161.out
                                    (first | subst eo46 | (injection eo46 with f1_ f2_ f3_; have f4_ := f1_.symm; have f5_ := f3_.symm; clear f1_ f2_ f3_; subst f4_; subst f5_))
                                    refine norm_ (a' := ?_) ?_ ?_
                                    rotate_left
                                    · simp only [putAll, Act.put, List.setIfInBounds_toArray, List.set_cons_zero, List.set_cons_succ]
                                      rfl
                                    refine one_ (i := 7) (N := some 75) #[true, true, true, true, true, true, true, true, true, true, true, false, false] rfl rfl (one_of HT_.out (by kernel_rfl)) (by decide) (fun K hK => ?_)
                                    refine Kd.R_append_rows_step (Kd.int .i32) (w0 := w) w.heap.size (by rfl) (.tmp 72) (.tmp 74) 22 21 (.int .i32 0) 4 rfl Try.underlying22 info21 rfl (by decide) (by omega) v157 y156 y159 _ _ _ (fun k_ => some k_ ≠ (.slice Ao46 y159.length co46 : Value).ownBlock) (fun _ => False) rfl rfl ?aO ?aR (fun _ _ h => h) (fun _ h => h.elim) ?aF ?aB ?aS ?aL ?_
                                    (case aR => repeat (first | exact (Kd.R_reads' HO161.out).2.2 | (with_reducible refine Kd.C_alloc ?_ _) | (with_reducible refine Kd.C_drewN ?_ _) | (with_reducible refine Kd.C_drew ?_)))
                                    (case aB => exact (by repeat (first | (with_reducible first | exact HB.out | apply below_alloc | apply pw_below_drewN | apply below_drew1) | exact HB.out)))
                                    (case aF => exact (fun k_ hk => Kd.fresh' (Kd.R_lt (by (with_reducible repeat (first | apply Kd.R_alloc | apply Kd.R_drewN | apply Kd.R_drew)); exact HO161.out)) k_ hk))
                                    (case aO => exact (by (with_reducible repeat (first | apply Kd.R_alloc | apply Kd.R_drewN | apply Kd.R_drew)); exact HO158.out))
                                    (case aS => exact (below_size (by repeat (first | (with_reducible first | exact HB.out | apply below_alloc | apply pw_below_drewN | apply below_drew1) | exact HB.out))))
                                    (case aL => have := LMc22.out; omega)
                                    intro v163 w45 ho hb hg hat
                                    rw [← Ny162.out] at ho
                                    have n0_ := Aside0.mk (Kd.R_after (ok := (fun _ => True)) (by (with_reducible repeat (first | apply Kd.R_alloc | apply Kd.R_drewN | apply Kd.R_drew)); exact Kd.R_mono HO161.out (fun _ hk => ⟨trivial, hk⟩)) hg hat)
                                    have n1_ := Aside0.mk (hb)
                                    have n2_ := Aside0.mk (ho)
                                    clear HO161
                                    clear HB
                                    clear HO158
                                    have HO161 := n0_
                                    have HB := n1_
                                    have HO164 := n2_
                                    clear n0_ n1_ n2_
                                    clear ho hb hg hat
                                    refine hK.out _ _ trivial (fun hHeld => ?_)
                                    clear hK K
                                    refine norm_ (a' := ?_) ?_ ?_
                                    rotate_left
                                    · show Act.put _ (some 75) _ = _
                                      simp only [Act.put, List.setIfInBounds_toArray, List.set_cons_zero, List.set_cons_succ, i64_w, i32_w]
                                      rfl
                                    refine one_ (i := 11) (N := some 79) #[true, true, true, true, true, true, true, true, true, true, true, true, false] rfl rfl (one_of HT_.out (by kernel_rfl)) (by decide) (fun K hK => ?_)
                                    refine Kd.R_append_rows_step (Kd.int .i32) (w0 := w) w.heap.size (by rfl) (.tmp 75) (.tmp 78) 22 21 (.int .i32 0) 4 rfl Try.underlying22 info21 rfl (by decide) (by omega) v163 y162 (l0.drop (t153 : Int).toNat) _ _ _ (fun k_ => some k_ ≠ (.slice Ao46 y159.length co46 : Value).ownBlock) (fun _ => False) rfl rfl ?aO ?aR (fun _ _ h => h) (fun _ h => h.elim) ?aF ?aB ?aS ?aL ?_
                                    (case aR => first | (have X_ := (Kd.C_below HR165.out HB.out); rw [show (l0.drop (t153 : Int).toNat).length = (l0.length - t153.toNat) from List.length_drop] at X_; exact X_) | (have X_ := (Kd.C_below HR165.out HB.out); rw [show (l0.drop (t153 : Int).toNat).length = (l0.length - t153.toNat) from List.length_drop] at X_; exact Kd.C_alloc X_ _) | (rw [← show (l0.drop (t153 : Int).toNat).length = (l0.length - t153.toNat) from List.length_drop]; repeat (first | exact (Kd.C_below HR165.out HB.out) | (with_reducible refine Kd.C_alloc ?_ _) | (with_reducible refine Kd.C_drewN ?_ _) | (with_reducible refine Kd.C_drew ?_)); done) | (repeat (first | exact (Kd.C_below HR165.out HB.out) | (with_reducible refine Kd.C_alloc ?_ _) | (with_reducible refine Kd.C_drewN ?_ _) | (with_reducible refine Kd.C_drew ?_))))
                                    (case aB => exact (by repeat (first | (with_reducible first | exact HB.out | apply below_alloc | apply pw_below_drewN | apply below_drew1) | exact HB.out)))
                                    (case aF => exact (fun k_ hk => Kd.fresh' (Kd.R_lt (by (with_reducible repeat (first | apply Kd.R_alloc | apply Kd.R_drewN | apply Kd.R_drew)); exact HO161.out)) k_ hk))
                                    (case aO => exact (by (with_reducible repeat (first | apply Kd.R_alloc | apply Kd.R_drewN | apply Kd.R_drew)); exact HO164.out))
                                    (case aS => exact (below_size (by repeat (first | (with_reducible first | exact HB.out | apply below_alloc | apply pw_below_drewN | apply below_drew1) | exact HB.out))))
                                    (case aL => have := LMc25.out; have hlx_ := (show (l0.drop (t153 : Int).toNat).length = (l0.length - t153.toNat) from List.length_drop); omega)
                                    intro v167 w47 ho hb hg hat
                                    rw [← Ny166.out] at ho
                                    have n0_ := Aside0.mk (Kd.R_after (ok := (fun _ => True)) (by (with_reducible repeat (first | apply Kd.R_alloc | apply Kd.R_drewN | apply Kd.R_drew)); exact HO161.out) hg hat)
                                    have n1_ := Aside0.mk (hb)
                                    have n2_ := Aside0.mk (ho)
                                    clear HO161
                                    clear HB
                                    clear HO164
                                    have HO161 := n0_
                                    have HB := n1_
                                    have HO168 := n2_
                                    clear n0_ n1_ n2_
                                    clear ho hb hg hat
                                    refine hK.out _ _ trivial (fun hHeld => ?_)
                                    clear hK K
                                    refine norm_ (a' := ?_) ?_ ?_
                                    rotate_left
                                    · show Act.put _ (some 79) _ = _
                                      simp only [Act.put, List.setIfInBounds_toArray, List.set_cons_zero, List.set_cons_succ, i64_w, i32_w]
                                      rfl
                                    refine pure_ (i := 12) (N := some 17) (v := ?_) (a' := ?_) #[true, true, true, true, true, true, true, true, true, true, true, true, true] rfl rfl (any_of HT_.out (by kernel_rfl)) (fun _ _ _ h => h) (Or.inl ⟨by rfl, ?_⟩) ?_ ?_
                                    rotate_left
                                    · intro w'
                                      go_simp
                                      with_reducible rfl
                                    rotate_left
                                    · simp only [Act.put, List.setIfInBounds_toArray, List.set_cons_zero, List.set_cons_succ, i64_w, i32_w]
                                      rfl
                                    refine done_ (done_of HT_.out (by kernel_rfl)) ?_
                                    obtain ⟨Ao48, co48, eo48⟩ := Kd.R_slice HO168.out
                                    subst eo48
                                    try go_wp2_with (first | ((with_reducible refine gate_callee (f := 19) rfl ?_); refine goesL_ (some 97) rfl rfl Try.func19 (by kernel_rfl) rfl #[.slice Ao48 y166.length co48, .slice A1 l1.length c1] rfl (by (try simp only [List.map_toArray, List.map_cons, List.map_nil]); first | done | rfl | (simp only [List.length_drop, List.length_take]; rfl)) ?_; (with_reducible refine (edit_Runes.calls kj7 _ _ y166 _ _ l1 t169 _ ?side1 ?side2 ?side3 ?side4 A26.out).mono ?_); (case side1 => repeat (first | exact (Kd.R_reads' HO168.out).2.2 | (with_reducible refine Kd.C_alloc ?_ _) | (with_reducible refine Kd.C_drewN ?_ _) | (with_reducible refine Kd.C_drew ?_))); (case side2 => exact (Kd.R_reads' HO168.out).2.1); (case side3 => repeat (first | exact (Kd.C_below HR1.out HB.out) | (with_reducible refine Kd.C_alloc ?_ _) | (with_reducible refine Kd.C_drewN ?_ _) | (with_reducible refine Kd.C_drew ?_))); (case side4 => exact HC1.out); rintro e w49 ⟨rfl, hb⟩; refine ⟨_, rfl, ?_⟩; have n0_ := Aside0.mk (Kd.R_below (by (with_reducible repeat (first | apply Kd.R_alloc | apply Kd.R_drewN | apply Kd.R_drew)); exact HO161.out) hb); have n1_ := Aside0.mk (Kd.R_below (by (with_reducible repeat (first | apply Kd.R_alloc | apply Kd.R_drewN | apply Kd.R_drew)); exact HO168.out) hb); have n2_ := Aside0.mk (below_step (by repeat (first | (with_reducible first | exact HB.out | apply below_alloc | apply pw_below_drewN | apply below_drew1) | exact HB.out)) hb); clear HO161; clear HO168; clear HB; have HO161 := n0_; have HO168 := n1_; have HB := n2_; clear n0_ n1_ n2_; (try clear hb); (try clear hb2); (try clear hk); (try clear hi)) | ((with_reducible refine gate_builtin (b := .append) (xs := #[.const (.slice none 0 0), .tmp 98]) rfl ?_); (try (refine gate_guard (by rfl) ?_; dsimp only)); at_builtin; refine Kd.R_append_rows (Kd.int .i32) (w0 := w) w.heap.size rfl (.const (.slice none 0 0)) (.tmp 98) 22 21 (.int .i32 0) 4 rfl Try.underlying22 info21 rfl (by decide) (by omega) (.slice none 0 0) ([] : List Int) l5 _ _ _ (fun k_ => some k_ ≠ (.slice Ao46 y159.length co46 : Value).ownBlock ∧ some k_ ≠ (.slice Ao48 y166.length co48 : Value).ownBlock) (fun _ => False) rfl rfl ?aO ?aR (fun _ _ h => h) (fun _ h => h.elim) ?aF ?aB ?aS ?aL ?_; (case aR => repeat (first | exact (Kd.C_below HR5.out HB.out) | (with_reducible refine Kd.C_alloc ?_ _) | (with_reducible refine Kd.C_drewN ?_ _) | (with_reducible refine Kd.C_drew ?_))); (case aB => exact (by repeat (first | (with_reducible first | exact HB.out | apply below_alloc | apply pw_below_drewN | apply below_drew1) | exact HB.out))); (case aF => exact (fun k_ hk => ⟨Kd.fresh' (Kd.R_lt (by (with_reducible repeat (first | apply Kd.R_alloc | apply Kd.R_drewN | apply Kd.R_drew)); exact HO161.out)) k_ hk, Kd.fresh' (Kd.R_lt (by (with_reducible repeat (first | apply Kd.R_alloc | apply Kd.R_drewN | apply Kd.R_drew)); exact HO168.out)) k_ hk⟩)); (case aO => exact ((Kd.R_nil _ _ _ _ (fun k_ => some k_ ≠ (.slice Ao46 y159.length co46 : Value).ownBlock ∧ some k_ ≠ (.slice Ao48 y166.length co48 : Value).ownBlock)))); (case aS => exact (below_size (by repeat (first | (with_reducible first | exact HB.out | apply below_alloc | apply pw_below_drewN | apply below_drew1) | exact HB.out)))); (case aL => have := LMc27.out; omega); intro v171 w50 ho hb hg hat; rw [← Ny170.out] at ho; have n0_ := Aside0.mk (Kd.R_after (Kd.R_apart_nil (by (with_reducible repeat (first | apply Kd.R_alloc | apply Kd.R_drewN | apply Kd.R_drew)); exact HO161.out)) hg hat); have n1_ := Aside0.mk (Kd.R_after (Kd.R_apart_nil (by (with_reducible repeat (first | apply Kd.R_alloc | apply Kd.R_drewN | apply Kd.R_drew)); exact HO168.out)) hg hat); have n2_ := Aside0.mk (hb); have n3_ := Aside0.mk (ho); clear HO161; clear HO168; clear HB; have HO161 := n0_; have HO168 := n1_; have HB := n2_; have HO172 := n3_; clear n0_ n1_ n2_ n3_; clear ho hb hg hat) | ((with_reducible refine gate_builtin (b := .append) (xs := #[.tmp 99, .tmp 100]) rfl ?_); (try (refine gate_guard (by rfl) ?_; dsimp only)); at_builtin; refine Kd.R_append_rows (Kd.int .i32) (w0 := w) w.heap.size rfl (.tmp 99) (.tmp 100) 22 21 (.int .i32 0) 4 rfl Try.underlying22 info21 rfl (by decide) (by omega) v171 y170 l0 _ _ _ (fun k_ => some k_ ≠ (.slice Ao46 y159.length co46 : Value).ownBlock ∧ some k_ ≠ (.slice Ao48 y166.length co48 : Value).ownBlock) (fun _ => False) rfl rfl ?aO ?aR (fun _ _ h => h) (fun _ h => h.elim) ?aF ?aB ?aS ?aL ?_; (case aR => repeat (first | exact (Kd.C_below HR0.out HB.out) | (with_reducible refine Kd.C_alloc ?_ _) | (with_reducible refine Kd.C_drewN ?_ _) | (with_reducible refine Kd.C_drew ?_))); (case aB => exact (by repeat (first | (with_reducible first | exact HB.out | apply below_alloc | apply pw_below_drewN | apply below_drew1) | exact HB.out))); (case aF => exact (fun k_ hk => ⟨Kd.fresh' (Kd.R_lt (by (with_reducible repeat (first | apply Kd.R_alloc | apply Kd.R_drewN | apply Kd.R_drew)); exact HO161.out)) k_ hk, Kd.fresh' (Kd.R_lt (by (with_reducible repeat (first | apply Kd.R_alloc | apply Kd.R_drewN | apply Kd.R_drew)); exact HO168.out)) k_ hk⟩)); (case aO => exact (by (with_reducible repeat (first | apply Kd.R_alloc | apply Kd.R_drewN | apply Kd.R_drew)); exact HO172.out)); (case aS => exact (below_size (by repeat (first | (with_reducible first | exact HB.out | apply below_alloc | apply pw_below_drewN | apply below_drew1) | exact HB.out)))); (case aL => have := LMc28.out; omega); intro v174 w51 ho hb hg hat; rw [← Ny173.out] at ho; have n0_ := Aside0.mk (Kd.R_after (ok := (fun k_ => some k_ ≠ (.slice Ao48 y166.length co48 : Value).ownBlock)) (by (with_reducible repeat (first | apply Kd.R_alloc | apply Kd.R_drewN | apply Kd.R_drew)); exact Kd.R_mono HO161.out (fun _ hk => ⟨hk.1.2, hk.2⟩)) hg hat); have n1_ := Aside0.mk (Kd.R_after (ok := (fun k_ => some k_ ≠ (.slice Ao46 y159.length co46 : Value).ownBlock)) (by (with_reducible repeat (first | apply Kd.R_alloc | apply Kd.R_drewN | apply Kd.R_drew)); exact HO168.out) hg hat); have n2_ := Aside0.mk (hb); have n3_ := Aside0.mk (ho); clear HO161; clear HO168; clear HB; clear HO172; have HO161 := n0_; have HO168 := n1_; have HB := n2_; have HO175 := n3_; clear n0_ n1_ n2_ n3_; clear ho hb hg hat) | ((with_reducible refine gate_builtin (b := .append) (xs := #[.tmp 101, .tmp 102]) rfl ?_); (try (refine gate_guard (by rfl) ?_; dsimp only)); at_builtin; refine Kd.R_append_rows (Kd.int .i32) (w0 := w) w.heap.size rfl (.tmp 101) (.tmp 102) 22 21 (.int .i32 0) 4 rfl Try.underlying22 info21 rfl (by decide) (by omega) v174 y173 l6 _ _ _ (fun k_ => some k_ ≠ (.slice Ao46 y159.length co46 : Value).ownBlock ∧ some k_ ≠ (.slice Ao48 y166.length co48 : Value).ownBlock) (fun _ => False) rfl rfl ?aO ?aR (fun _ _ h => h) (fun _ h => h.elim) ?aF ?aB ?aS ?aL ?_; (case aR => repeat (first | exact (Kd.C_below HR6.out HB.out) | (with_reducible refine Kd.C_alloc ?_ _) | (with_reducible refine Kd.C_drewN ?_ _) | (with_reducible refine Kd.C_drew ?_))); (case aB => exact (by repeat (first | (with_reducible first | exact HB.out | apply below_alloc | apply pw_below_drewN | apply below_drew1) | exact HB.out))); (case aF => exact (fun k_ hk => ⟨Kd.fresh' (Kd.R_lt (by (with_reducible repeat (first | apply Kd.R_alloc | apply Kd.R_drewN | apply Kd.R_drew)); exact HO161.out)) k_ hk, Kd.fresh' (Kd.R_lt (by (with_reducible repeat (first | apply Kd.R_alloc | apply Kd.R_drewN | apply Kd.R_drew)); exact HO168.out)) k_ hk⟩)); (case aO => exact (by (with_reducible repeat (first | apply Kd.R_alloc | apply Kd.R_drewN | apply Kd.R_drew)); exact HO175.out)); (case aS => exact (below_size (by repeat (first | (with_reducible first | exact HB.out | apply below_alloc | apply pw_below_drewN | apply below_drew1) | exact HB.out)))); (case aL => have := LMc29.out; omega); intro v177 w52 ho hb hg hat; rw [← Ny176.out] at ho; have n0_ := Aside0.mk (Kd.R_after (ok := (fun k_ => some k_ ≠ (.slice Ao48 y166.length co48 : Value).ownBlock)) (by (with_reducible repeat (first | apply Kd.R_alloc | apply Kd.R_drewN | apply Kd.R_drew)); exact HO161.out) hg hat); have n1_ := Aside0.mk (Kd.R_after (ok := (fun k_ => some k_ ≠ (.slice Ao46 y159.length co46 : Value).ownBlock)) (by (with_reducible repeat (first | apply Kd.R_alloc | apply Kd.R_drewN | apply Kd.R_drew)); exact HO168.out) hg hat); have n2_ := Aside0.mk (hb); have n3_ := Aside0.mk (ho); clear HO161; clear HO168; clear HB; clear HO175; have HO161 := n0_; have HO168 := n1_; have HB := n2_; have HO178 := n3_; clear n0_ n1_ n2_ n3_; clear ho hb hg hat) | ((with_reducible refine gate_builtin (b := .append) (xs := #[.const (.slice none 0 0), .tmp 104]) rfl ?_); (try (refine gate_guard (by rfl) ?_; dsimp only)); at_builtin; refine Kd.R_append_rows (Kd.int .i32) (w0 := w) w.heap.size rfl (.const (.slice none 0 0)) (.tmp 104) 22 21 (.int .i32 0) 4 rfl Try.underlying22 info21 rfl (by decide) (by omega) (.slice none 0 0) ([] : List Int) l5 _ _ _ (fun k_ => some k_ ≠ (.slice Ao46 y159.length co46 : Value).ownBlock ∧ some k_ ≠ (.slice Ao48 y166.length co48 : Value).ownBlock ∧ some k_ ≠ (v177 : Value).ownBlock) (fun _ => False) rfl rfl ?aO ?aR (fun _ _ h => h) (fun _ h => h.elim) ?aF ?aB ?aS ?aL ?_; (case aR => repeat (first | exact (Kd.C_below HR5.out HB.out) | (with_reducible refine Kd.C_alloc ?_ _) | (with_reducible refine Kd.C_drewN ?_ _) | (with_reducible refine Kd.C_drew ?_))); (case aB => exact (by repeat (first | (with_reducible first | exact HB.out | apply below_alloc | apply pw_below_drewN | apply below_drew1) | exact HB.out))); (case aF => exact (fun k_ hk => ⟨Kd.fresh' (Kd.R_lt (by (with_reducible repeat (first | apply Kd.R_alloc | apply Kd.R_drewN | apply Kd.R_drew)); exact HO161.out)) k_ hk, Kd.fresh' (Kd.R_lt (by (with_reducible repeat (first | apply Kd.R_alloc | apply Kd.R_drewN | apply Kd.R_drew)); exact HO168.out)) k_ hk, Kd.fresh' (Kd.R_lt (by (with_reducible repeat (first | apply Kd.R_alloc | apply Kd.R_drewN | apply Kd.R_drew)); exact HO178.out)) k_ hk⟩)); (case aO => exact ((Kd.R_nil _ _ _ _ (fun k_ => some k_ ≠ (.slice Ao46 y159.length co46 : Value).ownBlock ∧ some k_ ≠ (.slice Ao48 y166.length co48 : Value).ownBlock ∧ some k_ ≠ (v177 : Value).ownBlock)))); (case aS => exact (below_size (by repeat (first | (with_reducible first | exact HB.out | apply below_alloc | apply pw_below_drewN | apply below_drew1) | exact HB.out)))); (case aL => have := LMc27.out; omega); intro v180 w53 ho hb hg hat; rw [← Ny179.out] at ho; have n0_ := Aside0.mk (Kd.R_after (Kd.R_apart_nil (by (with_reducible repeat (first | apply Kd.R_alloc | apply Kd.R_drewN | apply Kd.R_drew)); exact HO161.out)) hg hat); have n1_ := Aside0.mk (Kd.R_after (Kd.R_apart_nil (by (with_reducible repeat (first | apply Kd.R_alloc | apply Kd.R_drewN | apply Kd.R_drew)); exact HO168.out)) hg hat); have n2_ := Aside0.mk (Kd.R_after (Kd.R_apart_nil (by (with_reducible repeat (first | apply Kd.R_alloc | apply Kd.R_drewN | apply Kd.R_drew)); exact HO178.out)) hg hat); have n3_ := Aside0.mk (hb); have n4_ := Aside0.mk (ho); clear HO161; clear HO168; clear HO178; clear HB; have HO161 := n0_; have HO168 := n1_; have HO178 := n2_; have HB := n3_; have HO181 := n4_; clear n0_ n1_ n2_ n3_ n4_; clear ho hb hg hat) | ((with_reducible refine gate_builtin (b := .append) (xs := #[.tmp 105, .tmp 106]) rfl ?_); (try (refine gate_guard (by rfl) ?_; dsimp only)); at_builtin; refine Kd.R_append_rows (Kd.int .i32) (w0 := w) w.heap.size rfl (.tmp 105) (.tmp 106) 22 21 (.int .i32 0) 4 rfl Try.underlying22 info21 rfl (by decide) (by omega) v180 y179 l1 _ _ _ (fun k_ => some k_ ≠ (.slice Ao46 y159.length co46 : Value).ownBlock ∧ some k_ ≠ (.slice Ao48 y166.length co48 : Value).ownBlock ∧ some k_ ≠ (v177 : Value).ownBlock) (fun _ => False) rfl rfl ?aO ?aR (fun _ _ h => h) (fun _ h => h.elim) ?aF ?aB ?aS ?aL ?_; (case aR => repeat (first | exact (Kd.C_below HR1.out HB.out) | (with_reducible refine Kd.C_alloc ?_ _) | (with_reducible refine Kd.C_drewN ?_ _) | (with_reducible refine Kd.C_drew ?_))); (case aB => exact (by repeat (first | (with_reducible first | exact HB.out | apply below_alloc | apply pw_below_drewN | apply below_drew1) | exact HB.out))); (case aF => exact (fun k_ hk => ⟨Kd.fresh' (Kd.R_lt (by (with_reducible repeat (first | apply Kd.R_alloc | apply Kd.R_drewN | apply Kd.R_drew)); exact HO161.out)) k_ hk, Kd.fresh' (Kd.R_lt (by (with_reducible repeat (first | apply Kd.R_alloc | apply Kd.R_drewN | apply Kd.R_drew)); exact HO168.out)) k_ hk, Kd.fresh' (Kd.R_lt (by (with_reducible repeat (first | apply Kd.R_alloc | apply Kd.R_drewN | apply Kd.R_drew)); exact HO178.out)) k_ hk⟩)); (case aO => exact (by (with_reducible repeat (first | apply Kd.R_alloc | apply Kd.R_drewN | apply Kd.R_drew)); exact HO181.out)); (case aS => exact (below_size (by repeat (first | (with_reducible first | exact HB.out | apply below_alloc | apply pw_below_drewN | apply below_drew1) | exact HB.out)))); (case aL => have := LMc30.out; omega); intro v183 w54 ho hb hg hat; rw [← Ny182.out] at ho; have n0_ := Aside0.mk (Kd.R_after (ok := (fun k_ => some k_ ≠ (.slice Ao48 y166.length co48 : Value).ownBlock ∧ some k_ ≠ (v177 : Value).ownBlock)) (by (with_reducible repeat (first | apply Kd.R_alloc | apply Kd.R_drewN | apply Kd.R_drew)); exact HO161.out) hg hat); have n1_ := Aside0.mk (Kd.R_after (ok := (fun k_ => some k_ ≠ (.slice Ao46 y159.length co46 : Value).ownBlock ∧ some k_ ≠ (v177 : Value).ownBlock)) (by (with_reducible repeat (first | apply Kd.R_alloc | apply Kd.R_drewN | apply Kd.R_drew)); exact HO168.out) hg hat); have n2_ := Aside0.mk (Kd.R_after (ok := (fun k_ => some k_ ≠ (.slice Ao46 y159.length co46 : Value).ownBlock ∧ some k_ ≠ (.slice Ao48 y166.length co48 : Value).ownBlock)) (by (with_reducible repeat (first | apply Kd.R_alloc | apply Kd.R_drewN | apply Kd.R_drew)); exact HO178.out) hg hat); have n3_ := Aside0.mk (hb); have n4_ := Aside0.mk (ho); clear HO161; clear HO168; clear HO178; clear HB; clear HO181; have HO161 := n0_; have HO168 := n1_; have HO178 := n2_; have HB := n3_; have HO184 := n4_; clear n0_ n1_ n2_ n3_ n4_; clear ho hb hg hat) | ((with_reducible refine gate_builtin (b := .append) (xs := #[.tmp 107, .tmp 108]) rfl ?_); (try (refine gate_guard (by rfl) ?_; dsimp only)); at_builtin; refine Kd.R_append_rows (Kd.int .i32) (w0 := w) w.heap.size rfl (.tmp 107) (.tmp 108) 22 21 (.int .i32 0) 4 rfl Try.underlying22 info21 rfl (by decide) (by omega) v183 y182 l6 _ _ _ (fun k_ => some k_ ≠ (.slice Ao46 y159.length co46 : Value).ownBlock ∧ some k_ ≠ (.slice Ao48 y166.length co48 : Value).ownBlock ∧ some k_ ≠ (v177 : Value).ownBlock) (fun _ => False) rfl rfl ?aO ?aR (fun _ _ h => h) (fun _ h => h.elim) ?aF ?aB ?aS ?aL ?_; (case aR => repeat (first | exact (Kd.C_below HR6.out HB.out) | (with_reducible refine Kd.C_alloc ?_ _) | (with_reducible refine Kd.C_drewN ?_ _) | (with_reducible refine Kd.C_drew ?_))); (case aB => exact (by repeat (first | (with_reducible first | exact HB.out | apply below_alloc | apply pw_below_drewN | apply below_drew1) | exact HB.out))); (case aF => exact (fun k_ hk => ⟨Kd.fresh' (Kd.R_lt (by (with_reducible repeat (first | apply Kd.R_alloc | apply Kd.R_drewN | apply Kd.R_drew)); exact HO161.out)) k_ hk, Kd.fresh' (Kd.R_lt (by (with_reducible repeat (first | apply Kd.R_alloc | apply Kd.R_drewN | apply Kd.R_drew)); exact HO168.out)) k_ hk, Kd.fresh' (Kd.R_lt (by (with_reducible repeat (first | apply Kd.R_alloc | apply Kd.R_drewN | apply Kd.R_drew)); exact HO178.out)) k_ hk⟩)); (case aO => exact (by (with_reducible repeat (first | apply Kd.R_alloc | apply Kd.R_drewN | apply Kd.R_drew)); exact HO184.out)); (case aS => exact (below_size (by repeat (first | (with_reducible first | exact HB.out | apply below_alloc | apply pw_below_drewN | apply below_drew1) | exact HB.out)))); (case aL => have := LMc31.out; omega); intro v186 w55 ho hb hg hat; rw [← Ny185.out] at ho; have n0_ := Aside0.mk (Kd.R_after (ok := (fun k_ => some k_ ≠ (.slice Ao48 y166.length co48 : Value).ownBlock ∧ some k_ ≠ (v177 : Value).ownBlock)) (by (with_reducible repeat (first | apply Kd.R_alloc | apply Kd.R_drewN | apply Kd.R_drew)); exact HO161.out) hg hat); have n1_ := Aside0.mk (Kd.R_after (ok := (fun k_ => some k_ ≠ (.slice Ao46 y159.length co46 : Value).ownBlock ∧ some k_ ≠ (v177 : Value).ownBlock)) (by (with_reducible repeat (first | apply Kd.R_alloc | apply Kd.R_drewN | apply Kd.R_drew)); exact HO168.out) hg hat); have n2_ := Aside0.mk (Kd.R_after (ok := (fun k_ => some k_ ≠ (.slice Ao46 y159.length co46 : Value).ownBlock ∧ some k_ ≠ (.slice Ao48 y166.length co48 : Value).ownBlock)) (by (with_reducible repeat (first | apply Kd.R_alloc | apply Kd.R_drewN | apply Kd.R_drew)); exact HO178.out) hg hat); have n3_ := Aside0.mk (hb); have n4_ := Aside0.mk (ho); clear HO161; clear HO168; clear HO178; clear HB; clear HO184; have HO161 := n0_; have HO168 := n1_; have HO178 := n2_; have HB := n3_; have HO187 := n4_; clear n0_ n1_ n2_ n3_ n4_; clear ho hb hg hat; obtain ⟨Ao56, co56, eo56⟩ := Kd.R_slice HO178.out; subst eo56; obtain ⟨Ao57, co57, eo57⟩ := Kd.R_slice HO187.out; subst eo57) | (go_at_call 19; (with_reducible refine (edit_Runes.calls kj7 _ _ y176 _ _ y185 t188 _ ?side1 ?side2 ?side3 ?side4 A34.out).mono ?_); (case side1 => repeat (first | exact (Kd.R_reads' HO178.out).2.2 | (with_reducible refine Kd.C_alloc ?_ _) | (with_reducible refine Kd.C_drewN ?_ _) | (with_reducible refine Kd.C_drew ?_))); (case side2 => exact (Kd.R_reads' HO178.out).2.1); (case side3 => repeat (first | exact (Kd.R_reads' HO187.out).2.2 | (with_reducible refine Kd.C_alloc ?_ _) | (with_reducible refine Kd.C_drewN ?_ _) | (with_reducible refine Kd.C_drew ?_))); (case side4 => exact (Kd.R_reads' HO187.out).2.1); rintro e w58 ⟨rfl, hb⟩; have n0_ := Aside0.mk (Kd.R_below (by (with_reducible repeat (first | apply Kd.R_alloc | apply Kd.R_drewN | apply Kd.R_drew)); exact HO161.out) hb); have n1_ := Aside0.mk (Kd.R_below (by (with_reducible repeat (first | apply Kd.R_alloc | apply Kd.R_drewN | apply Kd.R_drew)); exact HO168.out) hb); have n2_ := Aside0.mk (Kd.R_below (by (with_reducible repeat (first | apply Kd.R_alloc | apply Kd.R_drewN | apply Kd.R_drew)); exact HO178.out) hb); have n3_ := Aside0.mk (Kd.R_below (by (with_reducible repeat (first | apply Kd.R_alloc | apply Kd.R_drewN | apply Kd.R_drew)); exact HO187.out) hb); have n4_ := Aside0.mk (below_step (by repeat (first | (with_reducible first | exact HB.out | apply below_alloc | apply pw_below_drewN | apply below_drew1) | exact HB.out)) hb); clear HO161; clear HO168; clear HO178; clear HO187; clear HB; have HO161 := n0_; have HO168 := n1_; have HO178 := n2_; have HO187 := n3_; have HB := n4_; clear n0_ n1_ n2_ n3_ n4_; (try clear hb); (try clear hb2); (try clear hk); (try clear hi)) | (go_at_call 16; (with_reducible refine (inkhornlaw5_awake.calls kj7  t189 _ A36.out).mono ?_); rintro e w59 ⟨rfl, hb⟩; have n0_ := Aside0.mk (Kd.R_below (by (with_reducible repeat (first | apply Kd.R_alloc | apply Kd.R_drewN | apply Kd.R_drew)); exact HO161.out) hb); have n1_ := Aside0.mk (Kd.R_below (by (with_reducible repeat (first | apply Kd.R_alloc | apply Kd.R_drewN | apply Kd.R_drew)); exact HO168.out) hb); have n2_ := Aside0.mk (Kd.R_below (by (with_reducible repeat (first | apply Kd.R_alloc | apply Kd.R_drewN | apply Kd.R_drew)); exact HO178.out) hb); have n3_ := Aside0.mk (Kd.R_below (by (with_reducible repeat (first | apply Kd.R_alloc | apply Kd.R_drewN | apply Kd.R_drew)); exact HO187.out) hb); have n4_ := Aside0.mk (below_step (by repeat (first | (with_reducible first | exact HB.out | apply below_alloc | apply pw_below_drewN | apply below_drew1) | exact HB.out)) hb); clear HO161; clear HO168; clear HO178; clear HO187; clear HB; have HO161 := n0_; have HO168 := n1_; have HO178 := n2_; have HO187 := n3_; have HB := n4_; clear n0_ n1_ n2_ n3_ n4_; (try clear hb); (try clear hb2); (try clear hk); (try clear hi)))
                                    go_ret
                                    exact ⟨by first | rfl | (simp [errW_none, errW_some] <;> rfl) | (simp [*, errW_none, errW_some] <;> rfl), by repeat (first | (with_reducible first | exact HB.out | apply below_alloc | apply pw_below_drewN | apply below_drew1) | exact HB.out)⟩
                                  · rw [if_neg c35] at H
                                    have c35b0 : (t188 == t152) = false := beq_eq_false_iff_ne.mpr c35
                                    have c35b1 : (t188 != t152) = true := bne_iff_ne.mpr c35
                                    exact absurd (H.trans (congrArg some HRT.out)) (by simp)
                                · rw [if_neg c33] at H
                                  have c33b0 : decide (t152 ≤ (wrap64 (t169 + 1))) = false := decide_eq_false c33
                                  clear c33
                                  exact absurd (H.trans (congrArg some HRT.out)) (by simp)
                              · rw [if_neg c32] at H
                                have c32b0 : decide (t169 ≤ (wrap64 (t152 + 1))) = false := decide_eq_false c32
                                clear c32
                                exact absurd (H.trans (congrArg some HRT.out)) (by simp)
                            · rw [if_neg c31] at H
                              exact absurd H (by simp)
                          · rw [if_neg c30] at H
                            exact absurd H (by simp)
                        · rw [if_neg c29] at H
                          exact absurd H (by simp)
                      · rw [if_neg c28] at H
                        exact absurd H (by simp)
                    · rw [if_neg c27] at H
                      exact absurd H (by simp)
                  · rw [if_neg c25] at H
                    exact absurd H (by simp)
                · rw [if_neg c22] at H
                  exact absurd H (by simp)
              · rw [if_neg c21] at H
                exact absurd H (by simp)
            · rw [if_neg c20] at H
              exact absurd H (by simp)
          · rw [if_neg c19] at H
            exact absurd H (by simp)
        · rw [if_neg c18] at H
          have c18b0 : (t154 == 0) = false := beq_eq_false_iff_ne.mpr c18
          have c18b1 : (t154 != 0) = true := bne_iff_ne.mpr c18
          by_cases c60 : t154 = 1
          · rw [if_pos c60] at H
            have c60b0 : (t154 == 1) = true := beq_iff_eq.mpr c60
            have c60b1 : (t154 != 1) = false := bne_eq_false_iff_eq.mpr c60
            clear c60
            by_cases c61 : 0 ≤ t153
            · rw [if_pos c61] at H
              have c61b0 := eq_true c61
              have c61b1 : decide (0 ≤ t153) = true := decide_eq_true c61
              clear c61
              by_cases c62 : t153 ≤ (l0.length : Int)
              · rw [if_pos c62] at H
                have c62b0 := eq_true c62
                have c62b1 : decide (t153 ≤ (l0.length : Int)) = true := decide_eq_true c62
                clear c62
                by_cases c63 : ([] : List Int).length + (l0.take (t153 : Int).toNat).length < 35184372088832
                · rw [if_pos c63] at H
                  have LMc63 := Aside0.mk c63
                  clear c63
                  obtain ⟨y191, hy191⟩ : ∃ y_ : List Int, y_ = (([] : List Int) ++ (l0.take (t153 : Int).toNat)) := ⟨_, rfl⟩
                  replace H : (if 0 ≤ (mn (wrap64 (t153 + 1)) (l0.length : Int)) then (if (mn (wrap64 (t153 + 1)) (l0.length : Int)) ≤ (l0.length : Int) then (if y191.length + (l0.drop ((mn (wrap64 (t153 + 1)) (l0.length : Int)) : Int).toNat).length < 35184372088832 then ((edit_Runes.f kj7 (y191 ++ (l0.drop ((mn (wrap64 (t153 + 1)) (l0.length : Int)) : Int).toNat)) l1).bind fun t198 => (if ([] : List Int).length + l5.length < 35184372088832 then ((some (([] : List Int) ++ l5 : List Int)).bind fun y199 => (if y199.length + l0.length < 35184372088832 then ((some (y199 ++ l0 : List Int)).bind fun y202 => (if y202.length + l6.length < 35184372088832 then ((some (([] : List Int) ++ l5 : List Int)).bind fun y208 => (if y208.length + l1.length < 35184372088832 then ((some (y208 ++ l1 : List Int)).bind fun y211 => (if y211.length + l6.length < 35184372088832 then (if t198 ≤ (wrap64 (t152 + 1)) then (if t152 ≤ (wrap64 (t198 + 1)) then ((edit_Runes.f kj7 (y202 ++ l6) (y211 ++ l6)).bind fun t217 => (if t217 = t152 then ((inkhornlaw5_awake.f kj7).bind fun t218 => (some t218)) else (some false))) else (some false)) else (some false)) else (none))) else (none))) else (none))) else (none))) else (none))) else (none)) else (none)) else (none)) = some r := by first | (rw [hy191]; with_reducible exact H) | (have H2_ := (Option.bind_some _ _).symm.trans H; rw [hy191]; with_reducible exact H2_) | (have H2_ := (Option.bind_some _ _).symm.trans H; with_reducible exact H2_) | with_reducible exact H | (rw [hy191]; exact H) | exact H
                  have Ny191 := Aside0.mk hy191
                  clear hy191
                  obtain ⟨ji64, hji64⟩ : ∃ j_ : Int, (mn (wrap64 (t153 + 1)) (l0.length : Int)) = j_ := ⟨_, rfl⟩
                  replace H : (if 0 ≤ (ji64) then (if (ji64) ≤ (l0.length : Int) then (if y191.length + (l0.drop ((ji64) : Int).toNat).length < 35184372088832 then ((edit_Runes.f kj7 (y191 ++ (l0.drop ((ji64) : Int).toNat)) l1).bind fun t198 => (if ([] : List Int).length + l5.length < 35184372088832 then ((some (([] : List Int) ++ l5 : List Int)).bind fun y199 => (if y199.length + l0.length < 35184372088832 then ((some (y199 ++ l0 : List Int)).bind fun y202 => (if y202.length + l6.length < 35184372088832 then ((some (([] : List Int) ++ l5 : List Int)).bind fun y208 => (if y208.length + l1.length < 35184372088832 then ((some (y208 ++ l1 : List Int)).bind fun y211 => (if y211.length + l6.length < 35184372088832 then (if t198 ≤ (wrap64 (t152 + 1)) then (if t152 ≤ (wrap64 (t198 + 1)) then ((edit_Runes.f kj7 (y202 ++ l6) (y211 ++ l6)).bind fun t217 => (if t217 = t152 then ((inkhornlaw5_awake.f kj7).bind fun t218 => (some t218)) else (some false))) else (some false)) else (some false)) else (none))) else (none))) else (none))) else (none))) else (none))) else (none)) else (none)) else (none)) = some r := by first | (rw [hji64] at H; exact H) | (simp only [hji64] at H ⊢; exact H)
                  (try rw [hji64] at A15)
                  (try rw [hji64] at A16)
                  (try rw [hji64] at A17)
                  have hji64_ : (if (l0.length : Int) < (wrap64 (t153 + 1)) then (l0.length : Int) else (wrap64 (t153 + 1))) = ji64 := hji64
                  by_cases c65 : 0 ≤ (ji64)
                  · rw [if_pos c65] at H
                    have c65b0 := eq_true c65
                    have c65b1 : decide (0 ≤ (ji64)) = true := decide_eq_true c65
                    clear c65
                    by_cases c66 : (ji64) ≤ (l0.length : Int)
                    · rw [if_pos c66] at H
                      have c66b0 := eq_true c66
                      have c66b1 : decide ((ji64) ≤ (l0.length : Int)) = true := decide_eq_true c66
                      clear c66
                      by_cases c67 : y191.length + (l0.drop ((ji64) : Int).toNat).length < 35184372088832
                      · rw [if_pos c67] at H
                        have LMc67 := Aside0.mk c67
                        clear c67
                        obtain ⟨y195, hy195⟩ : ∃ y_ : List Int, y_ = (y191 ++ (l0.drop ((ji64) : Int).toNat)) := ⟨_, rfl⟩
                        replace H : ((edit_Runes.f kj7 y195 l1).bind fun t198 => (if ([] : List Int).length + l5.length < 35184372088832 then ((some (([] : List Int) ++ l5 : List Int)).bind fun y199 => (if y199.length + l0.length < 35184372088832 then ((some (y199 ++ l0 : List Int)).bind fun y202 => (if y202.length + l6.length < 35184372088832 then ((some (([] : List Int) ++ l5 : List Int)).bind fun y208 => (if y208.length + l1.length < 35184372088832 then ((some (y208 ++ l1 : List Int)).bind fun y211 => (if y211.length + l6.length < 35184372088832 then (if t198 ≤ (wrap64 (t152 + 1)) then (if t152 ≤ (wrap64 (t198 + 1)) then ((edit_Runes.f kj7 (y202 ++ l6) (y211 ++ l6)).bind fun t217 => (if t217 = t152 then ((inkhornlaw5_awake.f kj7).bind fun t218 => (some t218)) else (some false))) else (some false)) else (some false)) else (none))) else (none))) else (none))) else (none))) else (none))) = some r := by first | (rw [hy195]; with_reducible exact H) | (have H2_ := (Option.bind_some _ _).symm.trans H; rw [hy195]; with_reducible exact H2_) | (have H2_ := (Option.bind_some _ _).symm.trans H; with_reducible exact H2_) | with_reducible exact H | (rw [hy195]; exact H) | exact H
                        have Ny195 := Aside0.mk hy195
                        clear hy195
                        replace H := Option.bind_eq_some_iff.mp H
                        obtain ⟨t198, A680, H⟩ := H
                        replace H : (if ([] : List Int).length + l5.length < 35184372088832 then ((some (([] : List Int) ++ l5 : List Int)).bind fun y199 => (if y199.length + l0.length < 35184372088832 then ((some (y199 ++ l0 : List Int)).bind fun y202 => (if y202.length + l6.length < 35184372088832 then ((some (([] : List Int) ++ l5 : List Int)).bind fun y208 => (if y208.length + l1.length < 35184372088832 then ((some (y208 ++ l1 : List Int)).bind fun y211 => (if y211.length + l6.length < 35184372088832 then (if t198 ≤ (wrap64 (t152 + 1)) then (if t152 ≤ (wrap64 (t198 + 1)) then ((edit_Runes.f kj7 (y202 ++ l6) (y211 ++ l6)).bind fun t217 => (if t217 = t152 then ((inkhornlaw5_awake.f kj7).bind fun t218 => (some t218)) else (some false))) else (some false)) else (some false)) else (none))) else (none))) else (none))) else (none))) else (none)) = some r := H
                        have A68 := Aside0.mk A680
                        clear A680
                        by_cases c69 : ([] : List Int).length + l5.length < 35184372088832
                        · rw [if_pos c69] at H
                          have LMc69 := Aside0.mk c69
                          clear c69
                          obtain ⟨y199, hy199⟩ : ∃ y_ : List Int, y_ = (([] : List Int) ++ l5) := ⟨_, rfl⟩
                          replace H : (if y199.length + l0.length < 35184372088832 then ((some (y199 ++ l0 : List Int)).bind fun y202 => (if y202.length + l6.length < 35184372088832 then ((some (([] : List Int) ++ l5 : List Int)).bind fun y208 => (if y208.length + l1.length < 35184372088832 then ((some (y208 ++ l1 : List Int)).bind fun y211 => (if y211.length + l6.length < 35184372088832 then (if t198 ≤ (wrap64 (t152 + 1)) then (if t152 ≤ (wrap64 (t198 + 1)) then ((edit_Runes.f kj7 (y202 ++ l6) (y211 ++ l6)).bind fun t217 => (if t217 = t152 then ((inkhornlaw5_awake.f kj7).bind fun t218 => (some t218)) else (some false))) else (some false)) else (some false)) else (none))) else (none))) else (none))) else (none)) = some r := by first | (rw [hy199]; with_reducible exact H) | (have H2_ := (Option.bind_some _ _).symm.trans H; rw [hy199]; with_reducible exact H2_) | (have H2_ := (Option.bind_some _ _).symm.trans H; with_reducible exact H2_) | with_reducible exact H | (rw [hy199]; exact H) | exact H
                          have Ny199 := Aside0.mk hy199
                          clear hy199
                          by_cases c70 : y199.length + l0.length < 35184372088832
                          · rw [if_pos c70] at H
                            have LMc70 := Aside0.mk c70
                            clear c70
                            obtain ⟨y202, hy202⟩ : ∃ y_ : List Int, y_ = (y199 ++ l0) := ⟨_, rfl⟩
                            replace H : (if y202.length + l6.length < 35184372088832 then ((some (([] : List Int) ++ l5 : List Int)).bind fun y208 => (if y208.length + l1.length < 35184372088832 then ((some (y208 ++ l1 : List Int)).bind fun y211 => (if y211.length + l6.length < 35184372088832 then (if t198 ≤ (wrap64 (t152 + 1)) then (if t152 ≤ (wrap64 (t198 + 1)) then ((edit_Runes.f kj7 (y202 ++ l6) (y211 ++ l6)).bind fun t217 => (if t217 = t152 then ((inkhornlaw5_awake.f kj7).bind fun t218 => (some t218)) else (some false))) else (some false)) else (some false)) else (none))) else (none))) else (none)) = some r := by first | (rw [hy202]; with_reducible exact H) | (have H2_ := (Option.bind_some _ _).symm.trans H; rw [hy202]; with_reducible exact H2_) | (have H2_ := (Option.bind_some _ _).symm.trans H; with_reducible exact H2_) | with_reducible exact H | (rw [hy202]; exact H) | exact H
                            have Ny202 := Aside0.mk hy202
                            clear hy202
                            by_cases c71 : y202.length + l6.length < 35184372088832
                            · rw [if_pos c71] at H
                              have LMc71 := Aside0.mk c71
                              clear c71
                              obtain ⟨y205, hy205⟩ : ∃ y_ : List Int, y_ = (y202 ++ l6) := ⟨_, rfl⟩
                              replace H : ((some (([] : List Int) ++ l5 : List Int)).bind fun y208 => (if y208.length + l1.length < 35184372088832 then ((some (y208 ++ l1 : List Int)).bind fun y211 => (if y211.length + l6.length < 35184372088832 then (if t198 ≤ (wrap64 (t152 + 1)) then (if t152 ≤ (wrap64 (t198 + 1)) then ((edit_Runes.f kj7 y205 (y211 ++ l6)).bind fun t217 => (if t217 = t152 then ((inkhornlaw5_awake.f kj7).bind fun t218 => (some t218)) else (some false))) else (some false)) else (some false)) else (none))) else (none))) = some r := by first | (rw [hy205]; with_reducible exact H) | (have H2_ := (Option.bind_some _ _).symm.trans H; rw [hy205]; with_reducible exact H2_) | (have H2_ := (Option.bind_some _ _).symm.trans H; with_reducible exact H2_) | with_reducible exact H | (rw [hy205]; exact H) | exact H
                              have Ny205 := Aside0.mk hy205
                              clear hy205
                              obtain ⟨y208, hy208⟩ : ∃ y_ : List Int, y_ = (([] : List Int) ++ l5) := ⟨_, rfl⟩
                              replace H : (if y208.length + l1.length < 35184372088832 then ((some (y208 ++ l1 : List Int)).bind fun y211 => (if y211.length + l6.length < 35184372088832 then (if t198 ≤ (wrap64 (t152 + 1)) then (if t152 ≤ (wrap64 (t198 + 1)) then ((edit_Runes.f kj7 y205 (y211 ++ l6)).bind fun t217 => (if t217 = t152 then ((inkhornlaw5_awake.f kj7).bind fun t218 => (some t218)) else (some false))) else (some false)) else (some false)) else (none))) else (none)) = some r := by first | (rw [hy208]; with_reducible exact H) | (have H2_ := (Option.bind_some _ _).symm.trans H; rw [hy208]; with_reducible exact H2_) | (have H2_ := (Option.bind_some _ _).symm.trans H; with_reducible exact H2_) | with_reducible exact H | (rw [hy208]; exact H) | exact H
                              have Ny208 := Aside0.mk hy208
                              clear hy208
                              by_cases c72 : y208.length + l1.length < 35184372088832
                              · rw [if_pos c72] at H
                                have LMc72 := Aside0.mk c72
                                clear c72
                                obtain ⟨y211, hy211⟩ : ∃ y_ : List Int, y_ = (y208 ++ l1) := ⟨_, rfl⟩
                                replace H : (if y211.length + l6.length < 35184372088832 then (if t198 ≤ (wrap64 (t152 + 1)) then (if t152 ≤ (wrap64 (t198 + 1)) then ((edit_Runes.f kj7 y205 (y211 ++ l6)).bind fun t217 => (if t217 = t152 then ((inkhornlaw5_awake.f kj7).bind fun t218 => (some t218)) else (some false))) else (some false)) else (some false)) else (none)) = some r := by first | (rw [hy211]; with_reducible exact H) | (have H2_ := (Option.bind_some _ _).symm.trans H; rw [hy211]; with_reducible exact H2_) | (have H2_ := (Option.bind_some _ _).symm.trans H; with_reducible exact H2_) | with_reducible exact H | (rw [hy211]; exact H) | exact H
                                have Ny211 := Aside0.mk hy211
                                clear hy211
                                by_cases c73 : y211.length + l6.length < 35184372088832
                                · rw [if_pos c73] at H
                                  have LMc73 := Aside0.mk c73
                                  clear c73
                                  obtain ⟨y214, hy214⟩ : ∃ y_ : List Int, y_ = (y211 ++ l6) := ⟨_, rfl⟩
                                  replace H : (if t198 ≤ (wrap64 (t152 + 1)) then (if t152 ≤ (wrap64 (t198 + 1)) then ((edit_Runes.f kj7 y205 y214).bind fun t217 => (if t217 = t152 then ((inkhornlaw5_awake.f kj7).bind fun t218 => (some t218)) else (some false))) else (some false)) else (some false)) = some r := by first | (rw [hy214]; with_reducible exact H) | (have H2_ := (Option.bind_some _ _).symm.trans H; rw [hy214]; with_reducible exact H2_) | (have H2_ := (Option.bind_some _ _).symm.trans H; with_reducible exact H2_) | with_reducible exact H | (rw [hy214]; exact H) | exact H
                                  have Ny214 := Aside0.mk hy214
                                  clear hy214
                                  by_cases c74 : t198 ≤ (wrap64 (t152 + 1))
                                  · rw [if_pos c74] at H
                                    have c74b0 : decide (t198 ≤ (wrap64 (t152 + 1))) = true := decide_eq_true c74
                                    clear c74
                                    by_cases c75 : t152 ≤ (wrap64 (t198 + 1))
                                    · rw [if_pos c75] at H
                                      have c75b0 : decide (t152 ≤ (wrap64 (t198 + 1))) = true := decide_eq_true c75
                                      clear c75
                                      replace H := Option.bind_eq_some_iff.mp H
                                      obtain ⟨t217, A760, H⟩ := H
                                      replace H : (if t217 = t152 then ((inkhornlaw5_awake.f kj7).bind fun t218 => (some t218)) else (some false)) = some r := H
                                      have A76 := Aside0.mk A760
                                      clear A760
                                      by_cases c77 : t217 = t152
                                      · rw [if_pos c77] at H
                                        have c77b0 : (t217 == t152) = true := beq_iff_eq.mpr c77
                                        have c77b1 : (t217 != t152) = false := bne_eq_false_iff_eq.mpr c77
                                        clear c77
                                        replace H := Option.bind_eq_some_iff.mp H
                                        obtain ⟨t218, A780, H⟩ := H
                                        replace H : (some t218) = some r := H
                                        have A78 := Aside0.mk A780
                                        clear A780
                                        obtain rfl := Option.some.inj H
                                        try go_wp2_with (first | ((with_reducible refine gate_callee (f := 19) rfl ?_); refine goesL_ (some 42) rfl rfl Try.func19 (by kernel_rfl) rfl #[.slice A0 l0.length c0, .slice A1 l1.length c1] rfl (by (try simp only [List.map_toArray, List.map_cons, List.map_nil]); first | done | rfl | (simp only [List.length_drop, List.length_take]; rfl)) ?_; (with_reducible refine (edit_Runes.calls kj7 _ _ l0 _ _ l1 t152 _ ?side1 ?side2 ?side3 ?side4 A15.out).mono ?_); (case side1 => repeat (first | exact (Kd.C_below HR0.out HB.out) | (with_reducible refine Kd.C_alloc ?_ _) | (with_reducible refine Kd.C_drewN ?_ _) | (with_reducible refine Kd.C_drew ?_))); (case side2 => exact HC0.out); (case side3 => repeat (first | exact (Kd.C_below HR1.out HB.out) | (with_reducible refine Kd.C_alloc ?_ _) | (with_reducible refine Kd.C_drewN ?_ _) | (with_reducible refine Kd.C_drew ?_))); (case side4 => exact HC1.out); rintro e w79 ⟨rfl, hb⟩; refine ⟨_, rfl, ?_⟩; have n0_ := Aside0.mk (below_step (by repeat (first | (with_reducible first | exact HB.out | apply below_alloc | apply pw_below_drewN | apply below_drew1) | exact HB.out)) hb); clear HB; have HB := n0_; clear n0_; (try clear hb); (try clear hb2); (try clear hk); (try clear hi)) | ((with_reducible refine gate_callee (f := 28) rfl ?_); refine goesL_ (some 47) rfl rfl Try.func28 (by kernel_rfl) rfl #[.int .i64 a2, .int .i64 (wrap64 ((l0.length : Int) + 1))] rfl (by (try simp only [List.map_toArray, List.map_cons, List.map_nil]); first | done | rfl | (simp only [List.length_drop, List.length_take]; rfl)) ?_; (with_reducible refine (inkhornlaw0_Low.calls a2 (wrap64 ((l0.length : Int) + 1)) t153 _ A16.out).mono ?_); rintro e w' ⟨rfl, ⟨nd, rfl⟩⟩; refine ⟨_, rfl, ?_⟩) | ((with_reducible refine gate_callee (f := 28) rfl ?_); refine goesL_ (some 49) rfl rfl Try.func28 (by kernel_rfl) rfl #[.int .i64 a4, .int .i64 3] rfl (by (try simp only [List.map_toArray, List.map_cons, List.map_nil]); first | done | rfl | (simp only [List.length_drop, List.length_take]; rfl)) ?_; (with_reducible refine (inkhornlaw0_Low.calls a4 3 t154 _ A17.out).mono ?_); rintro e w' ⟨rfl, ⟨nd, rfl⟩⟩; refine ⟨_, rfl, ?_⟩))
                                        (try (rw [drewN_self w79]; generalize hq_ : World.drewN w79 _ = w79; have n0_ : Aside0 (Below w.heap.size w w79) := ⟨by rw [← hq_]; exact (by repeat (first | (with_reducible first | exact HB.out | apply below_alloc | apply pw_below_drewN | apply below_drew1) | exact HB.out))⟩; clear HB hq_; have HB := n0_; clear n0_))
                                        have n0_ := Aside0.mk (below_drew1 HB.out)
                                        clear HB
                                        have HB := n0_
                                        clear n0_
                                        obtain ⟨i081, hi081, _, hsz81, _⟩ := info_parts info21
                                        obtain ⟨hcut81, hA81, hC81⟩ := print_take_of (P := Try.prog) (Value.int .i32) 0 22 21 .i64 Try.underlying22 hi081 hsz81 A0 c0 l0 t153 (of_decide_eq_true (by first | (with_reducible assumption) | assumption)) (of_decide_eq_true (by first | (with_reducible assumption) | assumption)) HC0.out
                                        have HR190 := Aside0.mk (Kd.C_of_reads (h1 := fun _ => rfl) (hA81 _ (Kd.reads_of_C HR0.out)))
                                        have HC190 := Aside0.mk hC81
                                        clear hA81 hC81 hi081 hsz81
                                        obtain ⟨i082, hi082, _, hsz82, _⟩ := info_parts info21
                                        obtain ⟨A82, hcut82, hA82, hC82⟩ := print_drop_of (P := Try.prog) (Value.int .i32) 0 22 21 .i64 Try.underlying22 hi082 hsz82 A0 c0 l0 (ji64) (of_decide_eq_true (by first | (with_reducible assumption) | assumption)) (of_decide_eq_true (by first | (with_reducible assumption) | assumption)) HC0.out
                                        have HR194 := Aside0.mk (Kd.C_of_reads (h1 := fun _ => rfl) (hA82 _ (Kd.reads_of_C HR0.out)))
                                        have HC194 := Aside0.mk hC82
                                        clear hA82 hC82 hi082 hsz82
                                        refine start_ (n := 14) (S := fun w' => True) (ds := []) #[false, false, false, false, false, false, false, false, false, false, false, false, false, false] (by kernel_rfl) rfl rfl trivial (fun hHeld => ?_); refine with_tabW inkhornlaw5_EditSteps.tab11 inkhornlaw5_EditSteps.bits11 (fun HT_ HW_ => ?_)
                                        generalize w79.drew = w80 at HB HR190 HR194 hHeld ⊢
                                        refine pure_ (i := 0) (N := some 82) (v := ?_) (a' := ?_) #[true, false, false, false, false, false, false, false, false, false, false, false, false, false] rfl rfl (any_of HT_.out (by kernel_rfl)) (fun _ _ _ h => h) (Or.inl ⟨by rfl, ?_⟩) ?_ ?_
                                        rotate_left
                                        · intro w'
                                          go_simp
                                          with_reducible rfl
                                        rotate_left
                                        · simp only [Act.put, List.setIfInBounds_toArray, List.set_cons_zero, List.set_cons_succ, i64_w, i32_w]
                                          rfl
                                        refine pure_ (i := 1) (N := some 83) (v := ?_) (a' := ?_) #[true, true, false, false, false, false, false, false, false, false, false, false, false, false] rfl rfl (any_of HT_.out (by kernel_rfl)) (fun _ _ _ h => h) (Or.inl ⟨by rfl, ?_⟩) ?_ ?_
                                        rotate_left
                                        · intro w'
                                          go_simp
                                          with_reducible rfl
                                        rotate_left
                                        · simp only [Act.put, List.setIfInBounds_toArray, List.set_cons_zero, List.set_cons_succ, i64_w, i32_w]
                                          rfl
                                        refine pure_ (i := 2) (N := some 84) (v := ?_) (a' := ?_) #[true, true, true, false, false, false, false, false, false, false, false, false, false, false] rfl rfl (any_of HT_.out (by kernel_rfl)) (fun _ _ _ h => h) (Or.inl ⟨by rfl, ?_⟩) ?_ ?_
                                        rotate_left
                                        · intro w'
                                          go_simp
                                          with_reducible rfl
                                        rotate_left
                                        · simp only [Act.put, List.setIfInBounds_toArray, List.set_cons_zero, List.set_cons_succ, i64_w, i32_w]
                                          rfl
                                        refine pure_ (i := 3) (N := some 85) (v := ?_) (a' := ?_) #[true, true, true, true, false, false, false, false, false, false, false, false, false, false] rfl rfl (any_of HT_.out (by kernel_rfl)) (fun _ _ _ h => h) (Or.inl ⟨by rfl, ?_⟩) ?_ ?_
                                        rotate_left
                                        · intro w'
                                          go_simp
                                          with_reducible rfl
                                        rotate_left
                                        · simp only [Act.put, List.setIfInBounds_toArray, List.set_cons_zero, List.set_cons_succ, i64_w, i32_w]
                                          rfl
                                        refine pure_ (i := 5) (N := some 87) (v := ?_) (a' := ?_) #[true, true, true, true, false, true, false, false, false, false, false, false, false, false] rfl rfl (any_of HT_.out (by kernel_rfl)) (fun _ _ _ h => h) (Or.inl ⟨by rfl, ?_⟩) ?_ ?_
                                        rotate_left
                                        · intro w'
                                          go_simp
                                          with_reducible rfl
                                        rotate_left
                                        · simp only [Act.put, List.setIfInBounds_toArray, List.set_cons_zero, List.set_cons_succ, i64_w, i32_w]
                                          rfl
                                        refine pure_ (i := 6) (N := some 88) (v := ?_) (a' := ?_) #[true, true, true, true, false, true, true, false, false, false, false, false, false, false] rfl rfl (any_of HT_.out (by kernel_rfl)) (fun _ _ _ h => h) (Or.inl ⟨by rfl, ?_⟩) ?_ ?_
                                        rotate_left
                                        · intro w'
                                          go_simp
                                          with_reducible rfl
                                        rotate_left
                                        · simp only [Act.put, List.setIfInBounds_toArray, List.set_cons_zero, List.set_cons_succ, i64_w, i32_w]
                                          rfl
                                        refine pure_ (i := 7) (N := some 89) (v := ?_) (a' := ?_) #[true, true, true, true, false, true, true, true, false, false, false, false, false, false] rfl rfl (any_of HT_.out (by kernel_rfl)) (fun _ _ _ h => h) (Or.inl ⟨by rfl, ?_⟩) ?_ ?_
                                        rotate_left
                                        · intro w'
                                          go_simp
                                          with_reducible rfl
                                        rotate_left
                                        · simp only [Act.put, List.setIfInBounds_toArray, List.set_cons_zero, List.set_cons_succ, i64_w, i32_w]
                                          rfl
                                        refine pure_ (i := 8) (N := some 90) (v := ?_) (a' := ?_) #[true, true, true, true, false, true, true, true, true, false, false, false, false, false] rfl rfl (any_of HT_.out (by kernel_rfl)) (fun _ _ _ h => h) (Or.inl ⟨by rfl, ?_⟩) ?_ ?_
                                        rotate_left
                                        · intro w'
                                          go_simp
                                          with_reducible rfl
                                        rotate_left
                                        · simp only [Act.put, List.setIfInBounds_toArray, List.set_cons_zero, List.set_cons_succ, i64_w, i32_w]
                                          rfl
                                        refine pure_ (i := 9) (N := some 91) (v := ?_) (a' := ?_) #[true, true, true, true, false, true, true, true, true, true, false, false, false, false] rfl rfl (any_of HT_.out (by kernel_rfl)) (fun _ _ _ h => h) (Or.inl ⟨by rfl, ?_⟩) ?_ ?_
                                        rotate_left
                                        · intro w'
                                          go_simp
                                          with_reducible rfl
                                        rotate_left
                                        · simp only [Act.put, List.setIfInBounds_toArray, List.set_cons_zero, List.set_cons_succ, i64_w, i32_w]
                                          rfl
                                        refine pure_ (i := 10) (N := some 92) (v := ?_) (a' := ?_) #[true, true, true, true, false, true, true, true, true, true, true, false, false, false] rfl rfl (any_of HT_.out (by kernel_rfl)) (fun _ _ _ h => h) (Or.inl ⟨by rfl, ?_⟩) ?_ ?_
                                        rotate_left
                                        · intro w'
                                          go_simp
                                          with_reducible rfl
                                        rotate_left
                                        · simp only [Act.put, List.setIfInBounds_toArray, List.set_cons_zero, List.set_cons_succ, i64_w, i32_w]
                                          rfl
                                        refine pure_ (i := 11) (N := some 93) (v := ?_) (a' := ?_) #[true, true, true, true, false, true, true, true, true, true, true, true, false, false] rfl rfl (any_of HT_.out (by kernel_rfl)) (fun _ _ _ h => h) (Or.inl ⟨by rfl, ?_⟩) ?_ ?_
                                        rotate_left
                                        · intro w'
                                          go_simp
                                          with_reducible rfl
                                        rotate_left
                                        · simp only [Act.put, List.setIfInBounds_toArray, List.set_cons_zero, List.set_cons_succ, i64_w, i32_w]
                                          rfl
                                        refine one_ (i := 4) (N := some 86) #[true, true, true, true, true, true, true, true, true, true, true, true, false, false] rfl rfl (one_of HT_.out (by kernel_rfl)) (by decide) (fun K hK => ?_)
                                        refine Kd.R_append_rows_step (Kd.int .i32) (w0 := w) w.heap.size (by rfl) (.tmp 82) (.tmp 85) 22 21 (.int .i32 0) 4 rfl Try.underlying22 info21 rfl (by decide) (by omega) (.slice none 0 0) ([] : List Int) (l0.take (t153 : Int).toNat) _ _ _ (fun _ => True) (fun _ => False) rfl rfl ?aO ?aR (fun _ _ h => h) (fun _ h => h.elim) ?aF ?aB ?aS ?aL ?_
                                        (case aR => first | (have X_ := (Kd.C_below HR190.out HB.out); rw [show (l0.take (t153 : Int).toNat).length = t153.toNat from (by rw [List.length_take]; have h_ : (t153 : Int) ≤ (l0.length : Int) := of_decide_eq_true (by first | (with_reducible assumption) | assumption); omega)] at X_; exact X_) | (have X_ := (Kd.C_below HR190.out HB.out); rw [show (l0.take (t153 : Int).toNat).length = t153.toNat from (by rw [List.length_take]; have h_ : (t153 : Int) ≤ (l0.length : Int) := of_decide_eq_true (by first | (with_reducible assumption) | assumption); omega)] at X_; exact Kd.C_alloc X_ _) | (rw [← show (l0.take (t153 : Int).toNat).length = t153.toNat from (by rw [List.length_take]; have h_ : (t153 : Int) ≤ (l0.length : Int) := of_decide_eq_true (by first | (with_reducible assumption) | assumption); omega)]; repeat (first | exact (Kd.C_below HR190.out HB.out) | (with_reducible refine Kd.C_alloc ?_ _) | (with_reducible refine Kd.C_drewN ?_ _) | (with_reducible refine Kd.C_drew ?_)); done) | (repeat (first | exact (Kd.C_below HR190.out HB.out) | (with_reducible refine Kd.C_alloc ?_ _) | (with_reducible refine Kd.C_drewN ?_ _) | (with_reducible refine Kd.C_drew ?_))))
                                        (case aB => exact (by repeat (first | (with_reducible first | exact HB.out | apply below_alloc | apply pw_below_drewN | apply below_drew1) | exact HB.out)))
                                        (case aF => exact (fun _ _ => trivial))
                                        (case aO => exact ((Kd.R_nil _ _ _ _ (fun _ => True))))
                                        (case aS => exact (below_size (by repeat (first | (with_reducible first | exact HB.out | apply below_alloc | apply pw_below_drewN | apply below_drew1) | exact HB.out))))
                                        (case aL => have := LMc63.out; have hlx_ := (show (l0.take (t153 : Int).toNat).length = t153.toNat from (by rw [List.length_take]; have h_ : (t153 : Int) ≤ (l0.length : Int) := of_decide_eq_true (by first | (with_reducible assumption) | assumption); omega)); omega)
                                        intro v192 w83 ho hb hg hat
                                        rw [← Ny191.out] at ho
                                        have n0_ := Aside0.mk (hb)
                                        have n1_ := Aside0.mk (ho)
                                        clear HB
                                        have HB := n0_
                                        have HO193 := n1_
                                        clear n0_ n1_
                                        clear ho hb hg hat
                                        refine hK.out _ _ trivial (fun hHeld => ?_)
                                        clear hK K
                                        refine norm_ (a' := ?_) ?_ ?_
                                        rotate_left
                                        · show Act.put _ (some 86) _ = _
                                          simp only [Act.put, List.setIfInBounds_toArray, List.set_cons_zero, List.set_cons_succ, i64_w, i32_w]
                                          rfl
                                        refine one_ (i := 12) (N := some 94) #[true, true, true, true, true, true, true, true, true, true, true, true, true, false] rfl rfl (one_of HT_.out (by kernel_rfl)) (by decide) (fun K hK => ?_)
                                        refine Kd.R_append_rows_step (Kd.int .i32) (w0 := w) w.heap.size (by rfl) (.tmp 86) (.tmp 93) 22 21 (.int .i32 0) 4 rfl Try.underlying22 info21 rfl (by decide) (by omega) v192 y191 (l0.drop ((ji64) : Int).toNat) _ _ _ (fun _ => True) (fun _ => False) rfl rfl ?aO ?aR (fun _ _ h => h) (fun _ h => h.elim) ?aF ?aB ?aS ?aL ?_
                                        (case aR => first | (have X_ := (Kd.C_below HR194.out HB.out); rw [show (l0.drop ((ji64) : Int).toNat).length = (l0.length - (ji64).toNat) from List.length_drop] at X_; exact X_) | (have X_ := (Kd.C_below HR194.out HB.out); rw [show (l0.drop ((ji64) : Int).toNat).length = (l0.length - (ji64).toNat) from List.length_drop] at X_; exact Kd.C_alloc X_ _) | (rw [← show (l0.drop ((ji64) : Int).toNat).length = (l0.length - (ji64).toNat) from List.length_drop]; repeat (first | exact (Kd.C_below HR194.out HB.out) | (with_reducible refine Kd.C_alloc ?_ _) | (with_reducible refine Kd.C_drewN ?_ _) | (with_reducible refine Kd.C_drew ?_)); done) | (repeat (first | exact (Kd.C_below HR194.out HB.out) | (with_reducible refine Kd.C_alloc ?_ _) | (with_reducible refine Kd.C_drewN ?_ _) | (with_reducible refine Kd.C_drew ?_))))
                                        (case aB => exact (by repeat (first | (with_reducible first | exact HB.out | apply below_alloc | apply pw_below_drewN | apply below_drew1) | exact HB.out)))
                                        (case aF => exact (fun _ _ => trivial))
                                        (case aO => exact (by (with_reducible repeat (first | apply Kd.R_alloc | apply Kd.R_drewN | apply Kd.R_drew)); exact HO193.out))
                                        (case aS => exact (below_size (by repeat (first | (with_reducible first | exact HB.out | apply below_alloc | apply pw_below_drewN | apply below_drew1) | exact HB.out))))
                                        (case aL => have := LMc67.out; have hlx_ := (show (l0.drop ((ji64) : Int).toNat).length = (l0.length - (ji64).toNat) from List.length_drop); omega)
                                        intro v196 w84 ho hb hg hat
                                        rw [← Ny195.out] at ho
                                        have n0_ := Aside0.mk (hb)
                                        have n1_ := Aside0.mk (ho)
                                        clear HB
                                        clear HO193
                                        have HB := n0_
                                        have HO197 := n1_
                                        clear n0_ n1_
                                        clear ho hb hg hat
                                        refine hK.out _ _ trivial (fun hHeld => ?_)
                                        clear hK K
                                        refine norm_ (a' := ?_) ?_ ?_
                                        rotate_left
                                        · show Act.put _ (some 94) _ = _
                                          simp only [Act.put, List.setIfInBounds_toArray, List.set_cons_zero, List.set_cons_succ, i64_w, i32_w]
                                          rfl
                                        refine pure_ (i := 13) (N := some 17) (v := ?_) (a' := ?_) #[true, true, true, true, true, true, true, true, true, true, true, true, true, true] rfl rfl (any_of HT_.out (by kernel_rfl)) (fun _ _ _ h => h) (Or.inl ⟨by rfl, ?_⟩) ?_ ?_
                                        rotate_left
                                        · intro w'
                                          go_simp
                                          with_reducible rfl
                                        rotate_left
                                        · simp only [Act.put, List.setIfInBounds_toArray, List.set_cons_zero, List.set_cons_succ, i64_w, i32_w]
                                          rfl
                                        refine done_ (done_of HT_.out (by kernel_rfl)) ?_
                                        obtain ⟨Ao85, co85, eo85⟩ := Kd.R_slice HO197.out
                                        subst eo85
                                        try go_wp2_with (first | ((with_reducible refine gate_callee (f := 19) rfl ?_); refine goesL_ (some 97) rfl rfl Try.func19 (by kernel_rfl) rfl #[.slice Ao85 y195.length co85, .slice A1 l1.length c1] rfl (by (try simp only [List.map_toArray, List.map_cons, List.map_nil]); first | done | rfl | (simp only [List.length_drop, List.length_take]; rfl)) ?_; (with_reducible refine (edit_Runes.calls kj7 _ _ y195 _ _ l1 t198 _ ?side1 ?side2 ?side3 ?side4 A68.out).mono ?_); (case side1 => repeat (first | exact (Kd.R_reads' HO197.out).2.2 | (with_reducible refine Kd.C_alloc ?_ _) | (with_reducible refine Kd.C_drewN ?_ _) | (with_reducible refine Kd.C_drew ?_))); (case side2 => exact (Kd.R_reads' HO197.out).2.1); (case side3 => repeat (first | exact (Kd.C_below HR1.out HB.out) | (with_reducible refine Kd.C_alloc ?_ _) | (with_reducible refine Kd.C_drewN ?_ _) | (with_reducible refine Kd.C_drew ?_))); (case side4 => exact HC1.out); rintro e w86 ⟨rfl, hb⟩; refine ⟨_, rfl, ?_⟩; have n0_ := Aside0.mk (Kd.R_below (by (with_reducible repeat (first | apply Kd.R_alloc | apply Kd.R_drewN | apply Kd.R_drew)); exact HO197.out) hb); have n1_ := Aside0.mk (below_step (by repeat (first | (with_reducible first | exact HB.out | apply below_alloc | apply pw_below_drewN | apply below_drew1) | exact HB.out)) hb); clear HO197; clear HB; have HO197 := n0_; have HB := n1_; clear n0_ n1_; (try clear hb); (try clear hb2); (try clear hk); (try clear hi)) | ((with_reducible refine gate_builtin (b := .append) (xs := #[.const (.slice none 0 0), .tmp 98]) rfl ?_); (try (refine gate_guard (by rfl) ?_; dsimp only)); at_builtin; refine Kd.R_append_rows (Kd.int .i32) (w0 := w) w.heap.size rfl (.const (.slice none 0 0)) (.tmp 98) 22 21 (.int .i32 0) 4 rfl Try.underlying22 info21 rfl (by decide) (by omega) (.slice none 0 0) ([] : List Int) l5 _ _ _ (fun k_ => some k_ ≠ (.slice Ao85 y195.length co85 : Value).ownBlock) (fun _ => False) rfl rfl ?aO ?aR (fun _ _ h => h) (fun _ h => h.elim) ?aF ?aB ?aS ?aL ?_; (case aR => repeat (first | exact (Kd.C_below HR5.out HB.out) | (with_reducible refine Kd.C_alloc ?_ _) | (with_reducible refine Kd.C_drewN ?_ _) | (with_reducible refine Kd.C_drew ?_))); (case aB => exact (by repeat (first | (with_reducible first | exact HB.out | apply below_alloc | apply pw_below_drewN | apply below_drew1) | exact HB.out))); (case aF => exact (fun k_ hk => Kd.fresh' (Kd.R_lt (by (with_reducible repeat (first | apply Kd.R_alloc | apply Kd.R_drewN | apply Kd.R_drew)); exact HO197.out)) k_ hk)); (case aO => exact ((Kd.R_nil _ _ _ _ (fun k_ => some k_ ≠ (.slice Ao85 y195.length co85 : Value).ownBlock)))); (case aS => exact (below_size (by repeat (first | (with_reducible first | exact HB.out | apply below_alloc | apply pw_below_drewN | apply below_drew1) | exact HB.out)))); (case aL => have := LMc69.out; omega); intro v200 w87 ho hb hg hat; rw [← Ny199.out] at ho; have n0_ := Aside0.mk (Kd.R_after (Kd.R_apart_nil (by (with_reducible repeat (first | apply Kd.R_alloc | apply Kd.R_drewN | apply Kd.R_drew)); exact HO197.out)) hg hat); have n1_ := Aside0.mk (hb); have n2_ := Aside0.mk (ho); clear HO197; clear HB; have HO197 := n0_; have HB := n1_; have HO201 := n2_; clear n0_ n1_ n2_; clear ho hb hg hat) | ((with_reducible refine gate_builtin (b := .append) (xs := #[.tmp 99, .tmp 100]) rfl ?_); (try (refine gate_guard (by rfl) ?_; dsimp only)); at_builtin; refine Kd.R_append_rows (Kd.int .i32) (w0 := w) w.heap.size rfl (.tmp 99) (.tmp 100) 22 21 (.int .i32 0) 4 rfl Try.underlying22 info21 rfl (by decide) (by omega) v200 y199 l0 _ _ _ (fun k_ => some k_ ≠ (.slice Ao85 y195.length co85 : Value).ownBlock) (fun _ => False) rfl rfl ?aO ?aR (fun _ _ h => h) (fun _ h => h.elim) ?aF ?aB ?aS ?aL ?_; (case aR => repeat (first | exact (Kd.C_below HR0.out HB.out) | (with_reducible refine Kd.C_alloc ?_ _) | (with_reducible refine Kd.C_drewN ?_ _) | (with_reducible refine Kd.C_drew ?_))); (case aB => exact (by repeat (first | (with_reducible first | exact HB.out | apply below_alloc | apply pw_below_drewN | apply below_drew1) | exact HB.out))); (case aF => exact (fun k_ hk => Kd.fresh' (Kd.R_lt (by (with_reducible repeat (first | apply Kd.R_alloc | apply Kd.R_drewN | apply Kd.R_drew)); exact HO197.out)) k_ hk)); (case aO => exact (by (with_reducible repeat (first | apply Kd.R_alloc | apply Kd.R_drewN | apply Kd.R_drew)); exact HO201.out)); (case aS => exact (below_size (by repeat (first | (with_reducible first | exact HB.out | apply below_alloc | apply pw_below_drewN | apply below_drew1) | exact HB.out)))); (case aL => have := LMc70.out; omega); intro v203 w88 ho hb hg hat; rw [← Ny202.out] at ho; have n0_ := Aside0.mk (Kd.R_after (ok := (fun _ => True)) (by (with_reducible repeat (first | apply Kd.R_alloc | apply Kd.R_drewN | apply Kd.R_drew)); exact HO197.out) hg hat); have n1_ := Aside0.mk (hb); have n2_ := Aside0.mk (ho); clear HO197; clear HB; clear HO201; have HO197 := n0_; have HB := n1_; have HO204 := n2_; clear n0_ n1_ n2_; clear ho hb hg hat) | ((with_reducible refine gate_builtin (b := .append) (xs := #[.tmp 101, .tmp 102]) rfl ?_); (try (refine gate_guard (by rfl) ?_; dsimp only)); at_builtin; refine Kd.R_append_rows (Kd.int .i32) (w0 := w) w.heap.size rfl (.tmp 101) (.tmp 102) 22 21 (.int .i32 0) 4 rfl Try.underlying22 info21 rfl (by decide) (by omega) v203 y202 l6 _ _ _ (fun k_ => some k_ ≠ (.slice Ao85 y195.length co85 : Value).ownBlock) (fun _ => False) rfl rfl ?aO ?aR (fun _ _ h => h) (fun _ h => h.elim) ?aF ?aB ?aS ?aL ?_; (case aR => repeat (first | exact (Kd.C_below HR6.out HB.out) | (with_reducible refine Kd.C_alloc ?_ _) | (with_reducible refine Kd.C_drewN ?_ _) | (with_reducible refine Kd.C_drew ?_))); (case aB => exact (by repeat (first | (with_reducible first | exact HB.out | apply below_alloc | apply pw_below_drewN | apply below_drew1) | exact HB.out))); (case aF => exact (fun k_ hk => Kd.fresh' (Kd.R_lt (by (with_reducible repeat (first | apply Kd.R_alloc | apply Kd.R_drewN | apply Kd.R_drew)); exact HO197.out)) k_ hk)); (case aO => exact (by (with_reducible repeat (first | apply Kd.R_alloc | apply Kd.R_drewN | apply Kd.R_drew)); exact HO204.out)); (case aS => exact (below_size (by repeat (first | (with_reducible first | exact HB.out | apply below_alloc | apply pw_below_drewN | apply below_drew1) | exact HB.out)))); (case aL => have := LMc71.out; omega); intro v206 w89 ho hb hg hat; rw [← Ny205.out] at ho; have n0_ := Aside0.mk (Kd.R_after (ok := (fun _ => True)) (by (with_reducible repeat (first | apply Kd.R_alloc | apply Kd.R_drewN | apply Kd.R_drew)); exact HO197.out) hg hat); have n1_ := Aside0.mk (hb); have n2_ := Aside0.mk (ho); clear HO197; clear HB; clear HO204; have HO197 := n0_; have HB := n1_; have HO207 := n2_; clear n0_ n1_ n2_; clear ho hb hg hat) | ((with_reducible refine gate_builtin (b := .append) (xs := #[.const (.slice none 0 0), .tmp 104]) rfl ?_); (try (refine gate_guard (by rfl) ?_; dsimp only)); at_builtin; refine Kd.R_append_rows (Kd.int .i32) (w0 := w) w.heap.size rfl (.const (.slice none 0 0)) (.tmp 104) 22 21 (.int .i32 0) 4 rfl Try.underlying22 info21 rfl (by decide) (by omega) (.slice none 0 0) ([] : List Int) l5 _ _ _ (fun k_ => some k_ ≠ (.slice Ao85 y195.length co85 : Value).ownBlock ∧ some k_ ≠ (v206 : Value).ownBlock) (fun _ => False) rfl rfl ?aO ?aR (fun _ _ h => h) (fun _ h => h.elim) ?aF ?aB ?aS ?aL ?_; (case aR => repeat (first | exact (Kd.C_below HR5.out HB.out) | (with_reducible refine Kd.C_alloc ?_ _) | (with_reducible refine Kd.C_drewN ?_ _) | (with_reducible refine Kd.C_drew ?_))); (case aB => exact (by repeat (first | (with_reducible first | exact HB.out | apply below_alloc | apply pw_below_drewN | apply below_drew1) | exact HB.out))); (case aF => exact (fun k_ hk => ⟨Kd.fresh' (Kd.R_lt (by (with_reducible repeat (first | apply Kd.R_alloc | apply Kd.R_drewN | apply Kd.R_drew)); exact HO197.out)) k_ hk, Kd.fresh' (Kd.R_lt (by (with_reducible repeat (first | apply Kd.R_alloc | apply Kd.R_drewN | apply Kd.R_drew)); exact HO207.out)) k_ hk⟩)); (case aO => exact ((Kd.R_nil _ _ _ _ (fun k_ => some k_ ≠ (.slice Ao85 y195.length co85 : Value).ownBlock ∧ some k_ ≠ (v206 : Value).ownBlock)))); (case aS => exact (below_size (by repeat (first | (with_reducible first | exact HB.out | apply below_alloc | apply pw_below_drewN | apply below_drew1) | exact HB.out)))); (case aL => have := LMc69.out; omega); intro v209 w90 ho hb hg hat; rw [← Ny208.out] at ho; have n0_ := Aside0.mk (Kd.R_after (Kd.R_apart_nil (by (with_reducible repeat (first | apply Kd.R_alloc | apply Kd.R_drewN | apply Kd.R_drew)); exact HO197.out)) hg hat); have n1_ := Aside0.mk (Kd.R_after (Kd.R_apart_nil (by (with_reducible repeat (first | apply Kd.R_alloc | apply Kd.R_drewN | apply Kd.R_drew)); exact HO207.out)) hg hat); have n2_ := Aside0.mk (hb); have n3_ := Aside0.mk (ho); clear HO197; clear HO207; clear HB; have HO197 := n0_; have HO207 := n1_; have HB := n2_; have HO210 := n3_; clear n0_ n1_ n2_ n3_; clear ho hb hg hat) | ((with_reducible refine gate_builtin (b := .append) (xs := #[.tmp 105, .tmp 106]) rfl ?_); (try (refine gate_guard (by rfl) ?_; dsimp only)); at_builtin; refine Kd.R_append_rows (Kd.int .i32) (w0 := w) w.heap.size rfl (.tmp 105) (.tmp 106) 22 21 (.int .i32 0) 4 rfl Try.underlying22 info21 rfl (by decide) (by omega) v209 y208 l1 _ _ _ (fun k_ => some k_ ≠ (.slice Ao85 y195.length co85 : Value).ownBlock ∧ some k_ ≠ (v206 : Value).ownBlock) (fun _ => False) rfl rfl ?aO ?aR (fun _ _ h => h) (fun _ h => h.elim) ?aF ?aB ?aS ?aL ?_; (case aR => repeat (first | exact (Kd.C_below HR1.out HB.out) | (with_reducible refine Kd.C_alloc ?_ _) | (with_reducible refine Kd.C_drewN ?_ _) | (with_reducible refine Kd.C_drew ?_))); (case aB => exact (by repeat (first | (with_reducible first | exact HB.out | apply below_alloc | apply pw_below_drewN | apply below_drew1) | exact HB.out))); (case aF => exact (fun k_ hk => ⟨Kd.fresh' (Kd.R_lt (by (with_reducible repeat (first | apply Kd.R_alloc | apply Kd.R_drewN | apply Kd.R_drew)); exact HO197.out)) k_ hk, Kd.fresh' (Kd.R_lt (by (with_reducible repeat (first | apply Kd.R_alloc | apply Kd.R_drewN | apply Kd.R_drew)); exact HO207.out)) k_ hk⟩)); (case aO => exact (by (with_reducible repeat (first | apply Kd.R_alloc | apply Kd.R_drewN | apply Kd.R_drew)); exact HO210.out)); (case aS => exact (below_size (by repeat (first | (with_reducible first | exact HB.out | apply below_alloc | apply pw_below_drewN | apply below_drew1) | exact HB.out)))); (case aL => have := LMc72.out; omega); intro v212 w91 ho hb hg hat; rw [← Ny211.out] at ho; have n0_ := Aside0.mk (Kd.R_after (ok := (fun k_ => some k_ ≠ (v206 : Value).ownBlock)) (by (with_reducible repeat (first | apply Kd.R_alloc | apply Kd.R_drewN | apply Kd.R_drew)); exact Kd.R_mono HO197.out (fun _ hk => ⟨hk.1.2, hk.2⟩)) hg hat); have n1_ := Aside0.mk (Kd.R_after (ok := (fun k_ => some k_ ≠ (.slice Ao85 y195.length co85 : Value).ownBlock)) (by (with_reducible repeat (first | apply Kd.R_alloc | apply Kd.R_drewN | apply Kd.R_drew)); exact HO207.out) hg hat); have n2_ := Aside0.mk (hb); have n3_ := Aside0.mk (ho); clear HO197; clear HO207; clear HB; clear HO210; have HO197 := n0_; have HO207 := n1_; have HB := n2_; have HO213 := n3_; clear n0_ n1_ n2_ n3_; clear ho hb hg hat) | ((with_reducible refine gate_builtin (b := .append) (xs := #[.tmp 107, .tmp 108]) rfl ?_); (try (refine gate_guard (by rfl) ?_; dsimp only)); at_builtin; refine Kd.R_append_rows (Kd.int .i32) (w0 := w) w.heap.size rfl (.tmp 107) (.tmp 108) 22 21 (.int .i32 0) 4 rfl Try.underlying22 info21 rfl (by decide) (by omega) v212 y211 l6 _ _ _ (fun k_ => some k_ ≠ (.slice Ao85 y195.length co85 : Value).ownBlock ∧ some k_ ≠ (v206 : Value).ownBlock) (fun _ => False) rfl rfl ?aO ?aR (fun _ _ h => h) (fun _ h => h.elim) ?aF ?aB ?aS ?aL ?_; (case aR => repeat (first | exact (Kd.C_below HR6.out HB.out) | (with_reducible refine Kd.C_alloc ?_ _) | (with_reducible refine Kd.C_drewN ?_ _) | (with_reducible refine Kd.C_drew ?_))); (case aB => exact (by repeat (first | (with_reducible first | exact HB.out | apply below_alloc | apply pw_below_drewN | apply below_drew1) | exact HB.out))); (case aF => exact (fun k_ hk => ⟨Kd.fresh' (Kd.R_lt (by (with_reducible repeat (first | apply Kd.R_alloc | apply Kd.R_drewN | apply Kd.R_drew)); exact HO197.out)) k_ hk, Kd.fresh' (Kd.R_lt (by (with_reducible repeat (first | apply Kd.R_alloc | apply Kd.R_drewN | apply Kd.R_drew)); exact HO207.out)) k_ hk⟩)); (case aO => exact (by (with_reducible repeat (first | apply Kd.R_alloc | apply Kd.R_drewN | apply Kd.R_drew)); exact HO213.out)); (case aS => exact (below_size (by repeat (first | (with_reducible first | exact HB.out | apply below_alloc | apply pw_below_drewN | apply below_drew1) | exact HB.out)))); (case aL => have := LMc73.out; omega); intro v215 w92 ho hb hg hat; rw [← Ny214.out] at ho; have n0_ := Aside0.mk (Kd.R_after (ok := (fun k_ => some k_ ≠ (v206 : Value).ownBlock)) (by (with_reducible repeat (first | apply Kd.R_alloc | apply Kd.R_drewN | apply Kd.R_drew)); exact HO197.out) hg hat); have n1_ := Aside0.mk (Kd.R_after (ok := (fun k_ => some k_ ≠ (.slice Ao85 y195.length co85 : Value).ownBlock)) (by (with_reducible repeat (first | apply Kd.R_alloc | apply Kd.R_drewN | apply Kd.R_drew)); exact HO207.out) hg hat); have n2_ := Aside0.mk (hb); have n3_ := Aside0.mk (ho); clear HO197; clear HO207; clear HB; clear HO213; have HO197 := n0_; have HO207 := n1_; have HB := n2_; have HO216 := n3_; clear n0_ n1_ n2_ n3_; clear ho hb hg hat; obtain ⟨Ao93, co93, eo93⟩ := Kd.R_slice HO207.out; subst eo93; obtain ⟨Ao94, co94, eo94⟩ := Kd.R_slice HO216.out; subst eo94) | (go_at_call 19; (with_reducible refine (edit_Runes.calls kj7 _ _ y205 _ _ y214 t217 _ ?side1 ?side2 ?side3 ?side4 A76.out).mono ?_); (case side1 => repeat (first | exact (Kd.R_reads' HO207.out).2.2 | (with_reducible refine Kd.C_alloc ?_ _) | (with_reducible refine Kd.C_drewN ?_ _) | (with_reducible refine Kd.C_drew ?_))); (case side2 => exact (Kd.R_reads' HO207.out).2.1); (case side3 => repeat (first | exact (Kd.R_reads' HO216.out).2.2 | (with_reducible refine Kd.C_alloc ?_ _) | (with_reducible refine Kd.C_drewN ?_ _) | (with_reducible refine Kd.C_drew ?_))); (case side4 => exact (Kd.R_reads' HO216.out).2.1); rintro e w95 ⟨rfl, hb⟩; have n0_ := Aside0.mk (Kd.R_below (by (with_reducible repeat (first | apply Kd.R_alloc | apply Kd.R_drewN | apply Kd.R_drew)); exact HO197.out) hb); have n1_ := Aside0.mk (Kd.R_below (by (with_reducible repeat (first | apply Kd.R_alloc | apply Kd.R_drewN | apply Kd.R_drew)); exact HO207.out) hb); have n2_ := Aside0.mk (Kd.R_below (by (with_reducible repeat (first | apply Kd.R_alloc | apply Kd.R_drewN | apply Kd.R_drew)); exact HO216.out) hb); have n3_ := Aside0.mk (below_step (by repeat (first | (with_reducible first | exact HB.out | apply below_alloc | apply pw_below_drewN | apply below_drew1) | exact HB.out)) hb); clear HO197; clear HO207; clear HO216; clear HB; have HO197 := n0_; have HO207 := n1_; have HO216 := n2_; have HB := n3_; clear n0_ n1_ n2_ n3_; (try clear hb); (try clear hb2); (try clear hk); (try clear hi)) | (go_at_call 16; (with_reducible refine (inkhornlaw5_awake.calls kj7  t218 _ A78.out).mono ?_); rintro e w96 ⟨rfl, hb⟩; have n0_ := Aside0.mk (Kd.R_below (by (with_reducible repeat (first | apply Kd.R_alloc | apply Kd.R_drewN | apply Kd.R_drew)); exact HO197.out) hb); have n1_ := Aside0.mk (Kd.R_below (by (with_reducible repeat (first | apply Kd.R_alloc | apply Kd.R_drewN | apply Kd.R_drew)); exact HO207.out) hb); have n2_ := Aside0.mk (Kd.R_below (by (with_reducible repeat (first | apply Kd.R_alloc | apply Kd.R_drewN | apply Kd.R_drew)); exact HO216.out) hb); have n3_ := Aside0.mk (below_step (by repeat (first | (with_reducible first | exact HB.out | apply below_alloc | apply pw_below_drewN | apply below_drew1) | exact HB.out)) hb); clear HO197; clear HO207; clear HO216; clear HB; have HO197 := n0_; have HO207 := n1_; have HO216 := n2_; have HB := n3_; clear n0_ n1_ n2_ n3_; (try clear hb); (try clear hb2); (try clear hk); (try clear hi)))
                                        go_ret
                                        exact ⟨by first | rfl | (simp [errW_none, errW_some] <;> rfl) | (simp only [← hji64]; first | rfl | (simp [errW_none, errW_some] <;> rfl)) | (simp [*, errW_none, errW_some] <;> rfl), by repeat (first | (with_reducible first | exact HB.out | apply below_alloc | apply pw_below_drewN | apply below_drew1) | exact HB.out)⟩
                                      · rw [if_neg c77] at H
                                        have c77b0 : (t217 == t152) = false := beq_eq_false_iff_ne.mpr c77
                                        have c77b1 : (t217 != t152) = true := bne_iff_ne.mpr c77
                                        exact absurd (H.trans (congrArg some HRT.out)) (by simp)
                                    · rw [if_neg c75] at H
                                      have c75b0 : decide (t152 ≤ (wrap64 (t198 + 1))) = false := decide_eq_false c75
                                      clear c75
                                      exact absurd (H.trans (congrArg some HRT.out)) (by simp)
                                  · rw [if_neg c74] at H
                                    have c74b0 : decide (t198 ≤ (wrap64 (t152 + 1))) = false := decide_eq_false c74
                                    clear c74
                                    exact absurd (H.trans (congrArg some HRT.out)) (by simp)
                                · rw [if_neg c73] at H
                                  exact absurd H (by simp)
                              · rw [if_neg c72] at H
                                exact absurd H (by simp)
                            · rw [if_neg c71] at H
                              exact absurd H (by simp)
                          · rw [if_neg c70] at H
                            exact absurd H (by simp)
                        · rw [if_neg c69] at H
                          exact absurd H (by simp)
                      · rw [if_neg c67] at H
                        exact absurd H (by simp)
                    · rw [if_neg c66] at H
                      exact absurd H (by simp)
                  · rw [if_neg c65] at H
                    exact absurd H (by simp)
                · rw [if_neg c63] at H
                  exact absurd H (by simp)
              · rw [if_neg c62] at H
                exact absurd H (by simp)
            · rw [if_neg c61] at H
              exact absurd H (by simp)
          · rw [if_neg c60] at H
            have c60b0 : (t154 == 1) = false := beq_eq_false_iff_ne.mpr c60
            have c60b1 : (t154 != 1) = true := bne_iff_ne.mpr c60
            by_cases c97 : 0 ≤ t153
            · rw [if_pos c97] at H
              have c97b0 := eq_true c97
              have c97b1 : decide (0 ≤ t153) = true := decide_eq_true c97
              clear c97
              by_cases c98 : t153 ≤ (l0.length : Int)
              · rw [if_pos c98] at H
                have c98b0 := eq_true c98
                have c98b1 : decide (t153 ≤ (l0.length : Int)) = true := decide_eq_true c98
                clear c98
                by_cases c99 : ([] : List Int).length + (l0.take (t153 : Int).toNat).length < 35184372088832
                · rw [if_pos c99] at H
                  have LMc99 := Aside0.mk c99
                  clear c99
                  obtain ⟨y220, hy220⟩ : ∃ y_ : List Int, y_ = (([] : List Int) ++ (l0.take (t153 : Int).toNat)) := ⟨_, rfl⟩
                  replace H : ((some (([a3] : List Int) : List Int)).bind fun y223 => (if y220.length + y223.length < 35184372088832 then ((some (y220 ++ y223 : List Int)).bind fun y226 => (if 0 ≤ (mn (wrap64 (t153 + 1)) (l0.length : Int)) then (if (mn (wrap64 (t153 + 1)) (l0.length : Int)) ≤ (l0.length : Int) then (if y226.length + (l0.drop ((mn (wrap64 (t153 + 1)) (l0.length : Int)) : Int).toNat).length < 35184372088832 then ((edit_Runes.f kj7 (y226 ++ (l0.drop ((mn (wrap64 (t153 + 1)) (l0.length : Int)) : Int).toNat)) l1).bind fun t233 => (if ([] : List Int).length + l5.length < 35184372088832 then ((some (([] : List Int) ++ l5 : List Int)).bind fun y234 => (if y234.length + l0.length < 35184372088832 then ((some (y234 ++ l0 : List Int)).bind fun y237 => (if y237.length + l6.length < 35184372088832 then ((some (([] : List Int) ++ l5 : List Int)).bind fun y243 => (if y243.length + l1.length < 35184372088832 then ((some (y243 ++ l1 : List Int)).bind fun y246 => (if y246.length + l6.length < 35184372088832 then (if t233 ≤ (wrap64 (t152 + 1)) then (if t152 ≤ (wrap64 (t233 + 1)) then ((edit_Runes.f kj7 (y237 ++ l6) (y246 ++ l6)).bind fun t252 => (if t252 = t152 then ((inkhornlaw5_awake.f kj7).bind fun t253 => (some t253)) else (some false))) else (some false)) else (some false)) else (none))) else (none))) else (none))) else (none))) else (none))) else (none)) else (none)) else (none))) else (none))) = some r := by first | (rw [hy220]; with_reducible exact H) | (have H2_ := (Option.bind_some _ _).symm.trans H; rw [hy220]; with_reducible exact H2_) | (have H2_ := (Option.bind_some _ _).symm.trans H; with_reducible exact H2_) | with_reducible exact H | (rw [hy220]; exact H) | exact H
                  have Ny220 := Aside0.mk hy220
                  clear hy220
                  obtain ⟨y223, hy223⟩ : ∃ y_ : List Int, y_ = (([a3] : List Int)) := ⟨_, rfl⟩
                  replace H : (if y220.length + y223.length < 35184372088832 then ((some (y220 ++ y223 : List Int)).bind fun y226 => (if 0 ≤ (mn (wrap64 (t153 + 1)) (l0.length : Int)) then (if (mn (wrap64 (t153 + 1)) (l0.length : Int)) ≤ (l0.length : Int) then (if y226.length + (l0.drop ((mn (wrap64 (t153 + 1)) (l0.length : Int)) : Int).toNat).length < 35184372088832 then ((edit_Runes.f kj7 (y226 ++ (l0.drop ((mn (wrap64 (t153 + 1)) (l0.length : Int)) : Int).toNat)) l1).bind fun t233 => (if ([] : List Int).length + l5.length < 35184372088832 then ((some (([] : List Int) ++ l5 : List Int)).bind fun y234 => (if y234.length + l0.length < 35184372088832 then ((some (y234 ++ l0 : List Int)).bind fun y237 => (if y237.length + l6.length < 35184372088832 then ((some (([] : List Int) ++ l5 : List Int)).bind fun y243 => (if y243.length + l1.length < 35184372088832 then ((some (y243 ++ l1 : List Int)).bind fun y246 => (if y246.length + l6.length < 35184372088832 then (if t233 ≤ (wrap64 (t152 + 1)) then (if t152 ≤ (wrap64 (t233 + 1)) then ((edit_Runes.f kj7 (y237 ++ l6) (y246 ++ l6)).bind fun t252 => (if t252 = t152 then ((inkhornlaw5_awake.f kj7).bind fun t253 => (some t253)) else (some false))) else (some false)) else (some false)) else (none))) else (none))) else (none))) else (none))) else (none))) else (none)) else (none)) else (none))) else (none)) = some r := by first | (rw [hy223]; with_reducible exact H) | (have H2_ := (Option.bind_some _ _).symm.trans H; rw [hy223]; with_reducible exact H2_) | (have H2_ := (Option.bind_some _ _).symm.trans H; with_reducible exact H2_) | with_reducible exact H | (rw [hy223]; exact H) | exact H
                  have Ny223 := Aside0.mk hy223
                  clear hy223
                  by_cases c100 : y220.length + y223.length < 35184372088832
                  · rw [if_pos c100] at H
                    have LMc100 := Aside0.mk c100
                    clear c100
                    obtain ⟨y226, hy226⟩ : ∃ y_ : List Int, y_ = (y220 ++ y223) := ⟨_, rfl⟩
                    replace H : (if 0 ≤ (mn (wrap64 (t153 + 1)) (l0.length : Int)) then (if (mn (wrap64 (t153 + 1)) (l0.length : Int)) ≤ (l0.length : Int) then (if y226.length + (l0.drop ((mn (wrap64 (t153 + 1)) (l0.length : Int)) : Int).toNat).length < 35184372088832 then ((edit_Runes.f kj7 (y226 ++ (l0.drop ((mn (wrap64 (t153 + 1)) (l0.length : Int)) : Int).toNat)) l1).bind fun t233 => (if ([] : List Int).length + l5.length < 35184372088832 then ((some (([] : List Int) ++ l5 : List Int)).bind fun y234 => (if y234.length + l0.length < 35184372088832 then ((some (y234 ++ l0 : List Int)).bind fun y237 => (if y237.length + l6.length < 35184372088832 then ((some (([] : List Int) ++ l5 : List Int)).bind fun y243 => (if y243.length + l1.length < 35184372088832 then ((some (y243 ++ l1 : List Int)).bind fun y246 => (if y246.length + l6.length < 35184372088832 then (if t233 ≤ (wrap64 (t152 + 1)) then (if t152 ≤ (wrap64 (t233 + 1)) then ((edit_Runes.f kj7 (y237 ++ l6) (y246 ++ l6)).bind fun t252 => (if t252 = t152 then ((inkhornlaw5_awake.f kj7).bind fun t253 => (some t253)) else (some false))) else (some false)) else (some false)) else (none))) else (none))) else (none))) else (none))) else (none))) else (none)) else (none)) else (none)) = some r := by first | (rw [hy226]; with_reducible exact H) | (have H2_ := (Option.bind_some _ _).symm.trans H; rw [hy226]; with_reducible exact H2_) | (have H2_ := (Option.bind_some _ _).symm.trans H; with_reducible exact H2_) | with_reducible exact H | (rw [hy226]; exact H) | exact H
                    have Ny226 := Aside0.mk hy226
                    clear hy226
                    obtain ⟨ji101, hji101⟩ : ∃ j_ : Int, (mn (wrap64 (t153 + 1)) (l0.length : Int)) = j_ := ⟨_, rfl⟩
                    replace H : (if 0 ≤ (ji101) then (if (ji101) ≤ (l0.length : Int) then (if y226.length + (l0.drop ((ji101) : Int).toNat).length < 35184372088832 then ((edit_Runes.f kj7 (y226 ++ (l0.drop ((ji101) : Int).toNat)) l1).bind fun t233 => (if ([] : List Int).length + l5.length < 35184372088832 then ((some (([] : List Int) ++ l5 : List Int)).bind fun y234 => (if y234.length + l0.length < 35184372088832 then ((some (y234 ++ l0 : List Int)).bind fun y237 => (if y237.length + l6.length < 35184372088832 then ((some (([] : List Int) ++ l5 : List Int)).bind fun y243 => (if y243.length + l1.length < 35184372088832 then ((some (y243 ++ l1 : List Int)).bind fun y246 => (if y246.length + l6.length < 35184372088832 then (if t233 ≤ (wrap64 (t152 + 1)) then (if t152 ≤ (wrap64 (t233 + 1)) then ((edit_Runes.f kj7 (y237 ++ l6) (y246 ++ l6)).bind fun t252 => (if t252 = t152 then ((inkhornlaw5_awake.f kj7).bind fun t253 => (some t253)) else (some false))) else (some false)) else (some false)) else (none))) else (none))) else (none))) else (none))) else (none))) else (none)) else (none)) else (none)) = some r := by first | (rw [hji101] at H; exact H) | (simp only [hji101] at H ⊢; exact H)
                    (try rw [hji101] at A15)
                    (try rw [hji101] at A16)
                    (try rw [hji101] at A17)
                    have hji101_ : (if (l0.length : Int) < (wrap64 (t153 + 1)) then (l0.length : Int) else (wrap64 (t153 + 1))) = ji101 := hji101
                    by_cases c102 : 0 ≤ (ji101)
                    · rw [if_pos c102] at H
                      have c102b0 := eq_true c102
                      have c102b1 : decide (0 ≤ (ji101)) = true := decide_eq_true c102
                      clear c102
                      by_cases c103 : (ji101) ≤ (l0.length : Int)
                      · rw [if_pos c103] at H
                        have c103b0 := eq_true c103
                        have c103b1 : decide ((ji101) ≤ (l0.length : Int)) = true := decide_eq_true c103
                        clear c103
                        by_cases c104 : y226.length + (l0.drop ((ji101) : Int).toNat).length < 35184372088832
                        · rw [if_pos c104] at H
                          have LMc104 := Aside0.mk c104
                          clear c104
                          obtain ⟨y230, hy230⟩ : ∃ y_ : List Int, y_ = (y226 ++ (l0.drop ((ji101) : Int).toNat)) := ⟨_, rfl⟩
                          replace H : ((edit_Runes.f kj7 y230 l1).bind fun t233 => (if ([] : List Int).length + l5.length < 35184372088832 then ((some (([] : List Int) ++ l5 : List Int)).bind fun y234 => (if y234.length + l0.length < 35184372088832 then ((some (y234 ++ l0 : List Int)).bind fun y237 => (if y237.length + l6.length < 35184372088832 then ((some (([] : List Int) ++ l5 : List Int)).bind fun y243 => (if y243.length + l1.length < 35184372088832 then ((some (y243 ++ l1 : List Int)).bind fun y246 => (if y246.length + l6.length < 35184372088832 then (if t233 ≤ (wrap64 (t152 + 1)) then (if t152 ≤ (wrap64 (t233 + 1)) then ((edit_Runes.f kj7 (y237 ++ l6) (y246 ++ l6)).bind fun t252 => (if t252 = t152 then ((inkhornlaw5_awake.f kj7).bind fun t253 => (some t253)) else (some false))) else (some false)) else (some false)) else (none))) else (none))) else (none))) else (none))) else (none))) = some r := by first | (rw [hy230]; with_reducible exact H) | (have H2_ := (Option.bind_some _ _).symm.trans H; rw [hy230]; with_reducible exact H2_) | (have H2_ := (Option.bind_some _ _).symm.trans H; with_reducible exact H2_) | with_reducible exact H | (rw [hy230]; exact H) | exact H
                          have Ny230 := Aside0.mk hy230
                          clear hy230
                          replace H := Option.bind_eq_some_iff.mp H
                          obtain ⟨t233, A1050, H⟩ := H
                          replace H : (if ([] : List Int).length + l5.length < 35184372088832 then ((some (([] : List Int) ++ l5 : List Int)).bind fun y234 => (if y234.length + l0.length < 35184372088832 then ((some (y234 ++ l0 : List Int)).bind fun y237 => (if y237.length + l6.length < 35184372088832 then ((some (([] : List Int) ++ l5 : List Int)).bind fun y243 => (if y243.length + l1.length < 35184372088832 then ((some (y243 ++ l1 : List Int)).bind fun y246 => (if y246.length + l6.length < 35184372088832 then (if t233 ≤ (wrap64 (t152 + 1)) then (if t152 ≤ (wrap64 (t233 + 1)) then ((edit_Runes.f kj7 (y237 ++ l6) (y246 ++ l6)).bind fun t252 => (if t252 = t152 then ((inkhornlaw5_awake.f kj7).bind fun t253 => (some t253)) else (some false))) else (some false)) else (some false)) else (none))) else (none))) else (none))) else (none))) else (none)) = some r := H
                          have A105 := Aside0.mk A1050
                          clear A1050
                          by_cases c106 : ([] : List Int).length + l5.length < 35184372088832
                          · rw [if_pos c106] at H
                            have LMc106 := Aside0.mk c106
                            clear c106
                            obtain ⟨y234, hy234⟩ : ∃ y_ : List Int, y_ = (([] : List Int) ++ l5) := ⟨_, rfl⟩
                            replace H : (if y234.length + l0.length < 35184372088832 then ((some (y234 ++ l0 : List Int)).bind fun y237 => (if y237.length + l6.length < 35184372088832 then ((some (([] : List Int) ++ l5 : List Int)).bind fun y243 => (if y243.length + l1.length < 35184372088832 then ((some (y243 ++ l1 : List Int)).bind fun y246 => (if y246.length + l6.length < 35184372088832 then (if t233 ≤ (wrap64 (t152 + 1)) then (if t152 ≤ (wrap64 (t233 + 1)) then ((edit_Runes.f kj7 (y237 ++ l6) (y246 ++ l6)).bind fun t252 => (if t252 = t152 then ((inkhornlaw5_awake.f kj7).bind fun t253 => (some t253)) else (some false))) else (some false)) else (some false)) else (none))) else (none))) else (none))) else (none)) = some r := by first | (rw [hy234]; with_reducible exact H) | (have H2_ := (Option.bind_some _ _).symm.trans H; rw [hy234]; with_reducible exact H2_) | (have H2_ := (Option.bind_some _ _).symm.trans H; with_reducible exact H2_) | with_reducible exact H | (rw [hy234]; exact H) | exact H
                            have Ny234 := Aside0.mk hy234
                            clear hy234
                            by_cases c107 : y234.length + l0.length < 35184372088832
                            · rw [if_pos c107] at H
                              have LMc107 := Aside0.mk c107
                              clear c107
                              obtain ⟨y237, hy237⟩ : ∃ y_ : List Int, y_ = (y234 ++ l0) := ⟨_, rfl⟩
                              replace H : (if y237.length + l6.length < 35184372088832 then ((some (([] : List Int) ++ l5 : List Int)).bind fun y243 => (if y243.length + l1.length < 35184372088832 then ((some (y243 ++ l1 : List Int)).bind fun y246 => (if y246.length + l6.length < 35184372088832 then (if t233 ≤ (wrap64 (t152 + 1)) then (if t152 ≤ (wrap64 (t233 + 1)) then ((edit_Runes.f kj7 (y237 ++ l6) (y246 ++ l6)).bind fun t252 => (if t252 = t152 then ((inkhornlaw5_awake.f kj7).bind fun t253 => (some t253)) else (some false))) else (some false)) else (some false)) else (none))) else (none))) else (none)) = some r := by first | (rw [hy237]; with_reducible exact H) | (have H2_ := (Option.bind_some _ _).symm.trans H; rw [hy237]; with_reducible exact H2_) | (have H2_ := (Option.bind_some _ _).symm.trans H; with_reducible exact H2_) | with_reducible exact H | (rw [hy237]; exact H) | exact H
                              have Ny237 := Aside0.mk hy237
                              clear hy237
                              by_cases c108 : y237.length + l6.length < 35184372088832
                              · rw [if_pos c108] at H
                                have LMc108 := Aside0.mk c108
                                clear c108
                                obtain ⟨y240, hy240⟩ : ∃ y_ : List Int, y_ = (y237 ++ l6) := ⟨_, rfl⟩
                                replace H : ((some (([] : List Int) ++ l5 : List Int)).bind fun y243 => (if y243.length + l1.length < 35184372088832 then ((some (y243 ++ l1 : List Int)).bind fun y246 => (if y246.length + l6.length < 35184372088832 then (if t233 ≤ (wrap64 (t152 + 1)) then (if t152 ≤ (wrap64 (t233 + 1)) then ((edit_Runes.f kj7 y240 (y246 ++ l6)).bind fun t252 => (if t252 = t152 then ((inkhornlaw5_awake.f kj7).bind fun t253 => (some t253)) else (some false))) else (some false)) else (some false)) else (none))) else (none))) = some r := by first | (rw [hy240]; with_reducible exact H) | (have H2_ := (Option.bind_some _ _).symm.trans H; rw [hy240]; with_reducible exact H2_) | (have H2_ := (Option.bind_some _ _).symm.trans H; with_reducible exact H2_) | with_reducible exact H | (rw [hy240]; exact H) | exact H
                                have Ny240 := Aside0.mk hy240
                                clear hy240
                                obtain ⟨y243, hy243⟩ : ∃ y_ : List Int, y_ = (([] : List Int) ++ l5) := ⟨_, rfl⟩
                                replace H : (if y243.length + l1.length < 35184372088832 then ((some (y243 ++ l1 : List Int)).bind fun y246 => (if y246.length + l6.length < 35184372088832 then (if t233 ≤ (wrap64 (t152 + 1)) then (if t152 ≤ (wrap64 (t233 + 1)) then ((edit_Runes.f kj7 y240 (y246 ++ l6)).bind fun t252 => (if t252 = t152 then ((inkhornlaw5_awake.f kj7).bind fun t253 => (some t253)) else (some false))) else (some false)) else (some false)) else (none))) else (none)) = some r := by first | (rw [hy243]; with_reducible exact H) | (have H2_ := (Option.bind_some _ _).symm.trans H; rw [hy243]; with_reducible exact H2_) | (have H2_ := (Option.bind_some _ _).symm.trans H; with_reducible exact H2_) | with_reducible exact H | (rw [hy243]; exact H) | exact H
                                have Ny243 := Aside0.mk hy243
                                clear hy243
                                by_cases c109 : y243.length + l1.length < 35184372088832
                                · rw [if_pos c109] at H
                                  have LMc109 := Aside0.mk c109
                                  clear c109
                                  obtain ⟨y246, hy246⟩ : ∃ y_ : List Int, y_ = (y243 ++ l1) := ⟨_, rfl⟩
                                  replace H : (if y246.length + l6.length < 35184372088832 then (if t233 ≤ (wrap64 (t152 + 1)) then (if t152 ≤ (wrap64 (t233 + 1)) then ((edit_Runes.f kj7 y240 (y246 ++ l6)).bind fun t252 => (if t252 = t152 then ((inkhornlaw5_awake.f kj7).bind fun t253 => (some t253)) else (some false))) else (some false)) else (some false)) else (none)) = some r := by first | (rw [hy246]; with_reducible exact H) | (have H2_ := (Option.bind_some _ _).symm.trans H; rw [hy246]; with_reducible exact H2_) | (have H2_ := (Option.bind_some _ _).symm.trans H; with_reducible exact H2_) | with_reducible exact H | (rw [hy246]; exact H) | exact H
                                  have Ny246 := Aside0.mk hy246
                                  clear hy246
                                  by_cases c110 : y246.length + l6.length < 35184372088832
                                  · rw [if_pos c110] at H
                                    have LMc110 := Aside0.mk c110
                                    clear c110
                                    obtain ⟨y249, hy249⟩ : ∃ y_ : List Int, y_ = (y246 ++ l6) := ⟨_, rfl⟩
                                    replace H : (if t233 ≤ (wrap64 (t152 + 1)) then (if t152 ≤ (wrap64 (t233 + 1)) then ((edit_Runes.f kj7 y240 y249).bind fun t252 => (if t252 = t152 then ((inkhornlaw5_awake.f kj7).bind fun t253 => (some t253)) else (some false))) else (some false)) else (some false)) = some r := by first | (rw [hy249]; with_reducible exact H) | (have H2_ := (Option.bind_some _ _).symm.trans H; rw [hy249]; with_reducible exact H2_) | (have H2_ := (Option.bind_some _ _).symm.trans H; with_reducible exact H2_) | with_reducible exact H | (rw [hy249]; exact H) | exact H
                                    have Ny249 := Aside0.mk hy249
                                    clear hy249
                                    by_cases c111 : t233 ≤ (wrap64 (t152 + 1))
                                    · rw [if_pos c111] at H
                                      have c111b0 : decide (t233 ≤ (wrap64 (t152 + 1))) = true := decide_eq_true c111
                                      clear c111
                                      by_cases c112 : t152 ≤ (wrap64 (t233 + 1))
                                      · rw [if_pos c112] at H
                                        have c112b0 : decide (t152 ≤ (wrap64 (t233 + 1))) = true := decide_eq_true c112
                                        clear c112
                                        replace H := Option.bind_eq_some_iff.mp H
                                        obtain ⟨t252, A1130, H⟩ := H
                                        replace H : (if t252 = t152 then ((inkhornlaw5_awake.f kj7).bind fun t253 => (some t253)) else (some false)) = some r := H
                                        have A113 := Aside0.mk A1130
                                        clear A1130
                                        by_cases c114 : t252 = t152
                                        · rw [if_pos c114] at H
                                          have c114b0 : (t252 == t152) = true := beq_iff_eq.mpr c114
                                          have c114b1 : (t252 != t152) = false := bne_eq_false_iff_eq.mpr c114
                                          clear c114
                                          replace H := Option.bind_eq_some_iff.mp H
                                          obtain ⟨t253, A1150, H⟩ := H
                                          replace H : (some t253) = some r := H
                                          have A115 := Aside0.mk A1150
                                          clear A1150
                                          obtain rfl := Option.some.inj H
                                          try go_wp2_with (first | ((with_reducible refine gate_callee (f := 19) rfl ?_); refine goesL_ (some 42) rfl rfl Try.func19 (by kernel_rfl) rfl #[.slice A0 l0.length c0, .slice A1 l1.length c1] rfl (by (try simp only [List.map_toArray, List.map_cons, List.map_nil]); first | done | rfl | (simp only [List.length_drop, List.length_take]; rfl)) ?_; (with_reducible refine (edit_Runes.calls kj7 _ _ l0 _ _ l1 t152 _ ?side1 ?side2 ?side3 ?side4 A15.out).mono ?_); (case side1 => repeat (first | exact (Kd.C_below HR0.out HB.out) | (with_reducible refine Kd.C_alloc ?_ _) | (with_reducible refine Kd.C_drewN ?_ _) | (with_reducible refine Kd.C_drew ?_))); (case side2 => exact HC0.out); (case side3 => repeat (first | exact (Kd.C_below HR1.out HB.out) | (with_reducible refine Kd.C_alloc ?_ _) | (with_reducible refine Kd.C_drewN ?_ _) | (with_reducible refine Kd.C_drew ?_))); (case side4 => exact HC1.out); rintro e w116 ⟨rfl, hb⟩; refine ⟨_, rfl, ?_⟩; have n0_ := Aside0.mk (below_step (by repeat (first | (with_reducible first | exact HB.out | apply below_alloc | apply pw_below_drewN | apply below_drew1) | exact HB.out)) hb); clear HB; have HB := n0_; clear n0_; (try clear hb); (try clear hb2); (try clear hk); (try clear hi)) | ((with_reducible refine gate_callee (f := 28) rfl ?_); refine goesL_ (some 47) rfl rfl Try.func28 (by kernel_rfl) rfl #[.int .i64 a2, .int .i64 (wrap64 ((l0.length : Int) + 1))] rfl (by (try simp only [List.map_toArray, List.map_cons, List.map_nil]); first | done | rfl | (simp only [List.length_drop, List.length_take]; rfl)) ?_; (with_reducible refine (inkhornlaw0_Low.calls a2 (wrap64 ((l0.length : Int) + 1)) t153 _ A16.out).mono ?_); rintro e w' ⟨rfl, ⟨nd, rfl⟩⟩; refine ⟨_, rfl, ?_⟩) | ((with_reducible refine gate_callee (f := 28) rfl ?_); refine goesL_ (some 49) rfl rfl Try.func28 (by kernel_rfl) rfl #[.int .i64 a4, .int .i64 3] rfl (by (try simp only [List.map_toArray, List.map_cons, List.map_nil]); first | done | rfl | (simp only [List.length_drop, List.length_take]; rfl)) ?_; (with_reducible refine (inkhornlaw0_Low.calls a4 3 t154 _ A17.out).mono ?_); rintro e w' ⟨rfl, ⟨nd, rfl⟩⟩; refine ⟨_, rfl, ?_⟩))
                                          (try (rw [drewN_self w116]; generalize hq_ : World.drewN w116 _ = w116; have n0_ : Aside0 (Below w.heap.size w w116) := ⟨by rw [← hq_]; exact (by repeat (first | (with_reducible first | exact HB.out | apply below_alloc | apply pw_below_drewN | apply below_drew1) | exact HB.out))⟩; clear HB hq_; have HB := n0_; clear n0_))
                                          have n0_ := Aside0.mk (below_drew1 HB.out)
                                          clear HB
                                          have HB := n0_
                                          clear n0_
                                          obtain ⟨i0118, hi0118, _, hsz118, _⟩ := info_parts info21
                                          obtain ⟨hcut118, hA118, hC118⟩ := print_take_of (P := Try.prog) (Value.int .i32) 0 22 21 .i64 Try.underlying22 hi0118 hsz118 A0 c0 l0 t153 (of_decide_eq_true (by first | (with_reducible assumption) | assumption)) (of_decide_eq_true (by first | (with_reducible assumption) | assumption)) HC0.out
                                          have HR219 := Aside0.mk (Kd.C_of_reads (h1 := fun _ => rfl) (hA118 _ (Kd.reads_of_C HR0.out)))
                                          have HC219 := Aside0.mk hC118
                                          clear hA118 hC118 hi0118 hsz118
                                          obtain ⟨i0119, hi0119, _, hsz119, _⟩ := info_parts info21
                                          obtain ⟨A119, hcut119, hA119, hC119⟩ := print_drop_of (P := Try.prog) (Value.int .i32) 0 22 21 .i64 Try.underlying22 hi0119 hsz119 A0 c0 l0 (ji101) (of_decide_eq_true (by first | (with_reducible assumption) | assumption)) (of_decide_eq_true (by first | (with_reducible assumption) | assumption)) HC0.out
                                          have HR229 := Aside0.mk (Kd.C_of_reads (h1 := fun _ => rfl) (hA119 _ (Kd.reads_of_C HR0.out)))
                                          have HC229 := Aside0.mk hC119
                                          clear hA119 hC119 hi0119 hsz119
                                          refine start_ (n := 17) (S := fun w' => True) (ds := []) #[false, false, false, false, false, false, false, false, false, false, false, false, false, false, false, false, false] (by kernel_rfl) rfl rfl trivial (fun hHeld => ?_); refine with_tabW inkhornlaw5_EditSteps.tab7 inkhornlaw5_EditSteps.bits7 (fun HT_ HW_ => ?_)
                                          generalize w116.drew = w117 at HB HR219 HR229 hHeld ⊢
                                          refine pure_ (i := 0) (N := some 50) (v := ?_) (a' := ?_) #[true, false, false, false, false, false, false, false, false, false, false, false, false, false, false, false, false] rfl rfl (any_of HT_.out (by kernel_rfl)) (fun _ _ _ h => h) (Or.inl ⟨by rfl, ?_⟩) ?_ ?_
                                          rotate_left
                                          · intro w'
                                            go_simp
                                            with_reducible rfl
                                          rotate_left
                                          · simp only [Act.put, List.setIfInBounds_toArray, List.set_cons_zero, List.set_cons_succ, i64_w, i32_w]
                                            rfl
                                          refine pure_ (i := 1) (N := some 51) (v := ?_) (a' := ?_) #[true, true, false, false, false, false, false, false, false, false, false, false, false, false, false, false, false] rfl rfl (any_of HT_.out (by kernel_rfl)) (fun _ _ _ h => h) (Or.inl ⟨by rfl, ?_⟩) ?_ ?_
                                          rotate_left
                                          · intro w'
                                            go_simp
                                            with_reducible rfl
                                          rotate_left
                                          · simp only [Act.put, List.setIfInBounds_toArray, List.set_cons_zero, List.set_cons_succ, i64_w, i32_w]
                                            rfl
                                          refine pure_ (i := 2) (N := some 52) (v := ?_) (a' := ?_) #[true, true, true, false, false, false, false, false, false, false, false, false, false, false, false, false, false] rfl rfl (any_of HT_.out (by kernel_rfl)) (fun _ _ _ h => h) (Or.inl ⟨by rfl, ?_⟩) ?_ ?_
                                          rotate_left
                                          · intro w'
                                            go_simp
                                            with_reducible rfl
                                          rotate_left
                                          · simp only [Act.put, List.setIfInBounds_toArray, List.set_cons_zero, List.set_cons_succ, i64_w, i32_w]
                                            rfl
                                          refine pure_ (i := 3) (N := some 53) (v := ?_) (a' := ?_) #[true, true, true, true, false, false, false, false, false, false, false, false, false, false, false, false, false] rfl rfl (any_of HT_.out (by kernel_rfl)) (fun _ _ _ h => h) (Or.inl ⟨by rfl, ?_⟩) ?_ ?_
                                          rotate_left
                                          · intro w'
                                            go_simp
                                            with_reducible rfl
                                          rotate_left
                                          · simp only [Act.put, List.setIfInBounds_toArray, List.set_cons_zero, List.set_cons_succ, i64_w, i32_w]
                                            rfl
                                          refine pure_ (i := 5) (N := some 55) (v := ?_) (a' := ?_) #[true, true, true, true, false, true, false, false, false, false, false, false, false, false, false, false, false] rfl rfl (any_of HT_.out (by kernel_rfl)) (fun _ _ _ h => h) (Or.inl ⟨by rfl, ?_⟩) ?_ ?_
                                          rotate_left
                                          · intro w'
                                            go_simp
                                            with_reducible rfl
                                          rotate_left
                                          · simp only [Act.put, List.setIfInBounds_toArray, List.set_cons_zero, List.set_cons_succ, i64_w, i32_w]
                                            rfl
                                          refine pure_ (i := 8) (N := some 58) (v := ?_) (a' := ?_) #[true, true, true, true, false, true, false, false, true, false, false, false, false, false, false, false, false] rfl rfl (any_of HT_.out (by kernel_rfl)) (fun _ _ _ h => h) (Or.inl ⟨by rfl, ?_⟩) ?_ ?_
                                          rotate_left
                                          · intro w'
                                            go_simp
                                            with_reducible rfl
                                          rotate_left
                                          · simp only [Act.put, List.setIfInBounds_toArray, List.set_cons_zero, List.set_cons_succ, i64_w, i32_w]
                                            rfl
                                          refine pure_ (i := 9) (N := some 59) (v := ?_) (a' := ?_) #[true, true, true, true, false, true, false, false, true, true, false, false, false, false, false, false, false] rfl rfl (any_of HT_.out (by kernel_rfl)) (fun _ _ _ h => h) (Or.inl ⟨by rfl, ?_⟩) ?_ ?_
                                          rotate_left
                                          · intro w'
                                            go_simp
                                            with_reducible rfl
                                          rotate_left
                                          · simp only [Act.put, List.setIfInBounds_toArray, List.set_cons_zero, List.set_cons_succ, i64_w, i32_w]
                                            rfl
                                          refine pure_ (i := 10) (N := some 60) (v := ?_) (a' := ?_) #[true, true, true, true, false, true, false, false, true, true, true, false, false, false, false, false, false] rfl rfl (any_of HT_.out (by kernel_rfl)) (fun _ _ _ h => h) (Or.inl ⟨by rfl, ?_⟩) ?_ ?_
                                          rotate_left
                                          · intro w'
                                            go_simp
                                            with_reducible rfl
                                          rotate_left
                                          · simp only [Act.put, List.setIfInBounds_toArray, List.set_cons_zero, List.set_cons_succ, i64_w, i32_w]
                                            rfl
                                          refine pure_ (i := 11) (N := some 61) (v := ?_) (a' := ?_) #[true, true, true, true, false, true, false, false, true, true, true, true, false, false, false, false, false] rfl rfl (any_of HT_.out (by kernel_rfl)) (fun _ _ _ h => h) (Or.inl ⟨by rfl, ?_⟩) ?_ ?_
                                          rotate_left
                                          · intro w'
                                            go_simp
                                            with_reducible rfl
                                          rotate_left
                                          · simp only [Act.put, List.setIfInBounds_toArray, List.set_cons_zero, List.set_cons_succ, i64_w, i32_w]
                                            rfl
                                          refine pure_ (i := 12) (N := some 62) (v := ?_) (a' := ?_) #[true, true, true, true, false, true, false, false, true, true, true, true, true, false, false, false, false] rfl rfl (any_of HT_.out (by kernel_rfl)) (fun _ _ _ h => h) (Or.inl ⟨by rfl, ?_⟩) ?_ ?_
                                          rotate_left
                                          · intro w'
                                            go_simp
                                            with_reducible rfl
                                          rotate_left
                                          · simp only [Act.put, List.setIfInBounds_toArray, List.set_cons_zero, List.set_cons_succ, i64_w, i32_w]
                                            rfl
                                          refine pure_ (i := 13) (N := some 63) (v := ?_) (a' := ?_) #[true, true, true, true, false, true, false, false, true, true, true, true, true, true, false, false, false] rfl rfl (any_of HT_.out (by kernel_rfl)) (fun _ _ _ h => h) (Or.inl ⟨by rfl, ?_⟩) ?_ ?_
                                          rotate_left
                                          · intro w'
                                            go_simp
                                            with_reducible rfl
                                          rotate_left
                                          · simp only [Act.put, List.setIfInBounds_toArray, List.set_cons_zero, List.set_cons_succ, i64_w, i32_w]
                                            rfl
                                          refine pure_ (i := 14) (N := some 64) (v := ?_) (a' := ?_) #[true, true, true, true, false, true, false, false, true, true, true, true, true, true, true, false, false] rfl rfl (any_of HT_.out (by kernel_rfl)) (fun _ _ _ h => h) (Or.inl ⟨by rfl, ?_⟩) ?_ ?_
                                          rotate_left
                                          · intro w'
                                            go_simp
                                            with_reducible rfl
                                          rotate_left
                                          · simp only [Act.put, List.setIfInBounds_toArray, List.set_cons_zero, List.set_cons_succ, i64_w, i32_w]
                                            rfl
                                          refine join_ (σ := Value × Value) 3 #[true, true, true, true, true, true, true, false, true, true, true, true, true, true, true, false, false] (fun s_ => [(54, s_.1), (56, s_.2)]) (fun s_ w' => (Kd.R (Kd.int .i32) 21 w' w.heap.size (fun k_ => some k_ ≠ (s_.2 : Value).ownBlock) s_.1 y220) ∧ (Kd.R (Kd.int .i32) 21 w' w.heap.size (fun k_ => some k_ ≠ (s_.1 : Value).ownBlock) s_.2 y223) ∧ (Below w.heap.size w w')) ?_ ?_
                                          rotate_left
                                          · intro hCont
                                            refine two_ (i := 4) (j := 6) (Ni := some 54) (Nj := some 56) #[true, true, true, true, true, true, false, false, true, true, true, true, true, true, true, false, false] #[true, true, true, true, false, true, true, false, true, true, true, true, true, true, true, false, false] rfl rfl rfl rfl (two_of HT_.out (by kernel_rfl)) (by decide) (by decide) (fun K hK => ?_) (fun K hK => ?_)
                                            · skip
                                              refine Kd.R_append_rows_step (Kd.int .i32) (w0 := w) w.heap.size (by rfl) (.tmp 50) (.tmp 53) 22 21 (.int .i32 0) 4 rfl Try.underlying22 info21 rfl (by decide) (by omega) (.slice none 0 0) ([] : List Int) (l0.take (t153 : Int).toNat) _ _ _ (fun _ => True) (fun _ => False) rfl rfl ?aO ?aR (fun _ _ h => h) (fun _ h => h.elim) ?aF ?aB ?aS ?aL ?_
                                              (case aR => first | (have X_ := (Kd.C_below HR219.out HB.out); rw [show (l0.take (t153 : Int).toNat).length = t153.toNat from (by rw [List.length_take]; have h_ : (t153 : Int) ≤ (l0.length : Int) := of_decide_eq_true (by first | (with_reducible assumption) | assumption); omega)] at X_; exact X_) | (have X_ := (Kd.C_below HR219.out HB.out); rw [show (l0.take (t153 : Int).toNat).length = t153.toNat from (by rw [List.length_take]; have h_ : (t153 : Int) ≤ (l0.length : Int) := of_decide_eq_true (by first | (with_reducible assumption) | assumption); omega)] at X_; exact Kd.C_alloc X_ _) | (rw [← show (l0.take (t153 : Int).toNat).length = t153.toNat from (by rw [List.length_take]; have h_ : (t153 : Int) ≤ (l0.length : Int) := of_decide_eq_true (by first | (with_reducible assumption) | assumption); omega)]; repeat (first | exact (Kd.C_below HR219.out HB.out) | (with_reducible refine Kd.C_alloc ?_ _) | (with_reducible refine Kd.C_drewN ?_ _) | (with_reducible refine Kd.C_drew ?_)); done) | (repeat (first | exact (Kd.C_below HR219.out HB.out) | (with_reducible refine Kd.C_alloc ?_ _) | (with_reducible refine Kd.C_drewN ?_ _) | (with_reducible refine Kd.C_drew ?_))))
                                              (case aB => exact (by repeat (first | (with_reducible first | exact HB.out | apply below_alloc | apply pw_below_drewN | apply below_drew1) | exact HB.out)))
                                              (case aF => exact (fun _ _ => trivial))
                                              (case aO => exact ((Kd.R_nil _ _ _ _ (fun _ => True))))
                                              (case aS => exact (below_size (by repeat (first | (with_reducible first | exact HB.out | apply below_alloc | apply pw_below_drewN | apply below_drew1) | exact HB.out))))
                                              (case aL => have := LMc99.out; have hlx_ := (show (l0.take (t153 : Int).toNat).length = t153.toNat from (by rw [List.length_take]; have h_ : (t153 : Int) ≤ (l0.length : Int) := of_decide_eq_true (by first | (with_reducible assumption) | assumption); omega)); omega)
                                              intro v221 w120 ho hb hg hat
                                              rw [← Ny220.out] at ho
                                              have n0_ := Aside0.mk (hb)
                                              have n1_ := Aside0.mk (ho)
                                              clear HB
                                              have HB := n0_
                                              have HO222 := n1_
                                              clear n0_ n1_
                                              clear ho hb hg hat
                                              refine hK.out _ _ trivial (fun hHeld => ?_)
                                              clear hK K
                                              refine norm_ (a' := ?_) ?_ ?_
                                              rotate_left
                                              · show Act.put _ (some 54) _ = _
                                                simp only [Act.put, List.setIfInBounds_toArray, List.set_cons_zero, List.set_cons_succ, i64_w, i32_w]
                                                rfl
                                              refine one_ (i := 6) (N := some 56) #[true, true, true, true, true, true, true, false, true, true, true, true, true, true, true, false, false] rfl rfl (one_of HT_.out (by kernel_rfl)) (by decide) (fun K hK => ?_)
                                              refine Kd.R_lit_step (Kd.int .i32) _ 21 ?hg (N := 56) ?hd (xs := ([a3] : List Int)) (inner := [.int .i32 a3]) (ok := fun _ => True) (okp := fun _ => True) ?hr ?hp (fun _ hk => hk) trivial (Below.refl _ _) (Nat.le_refl _) (by simp) ?_; (case hd => rfl); (case hg => rfl); (case hr => first | (go_simp; done) | (go_simp; rfl)); (case hp => exact (Reps.one (show Kd.M (Kd.int .i32) _ _ _ a3 [.int .i32 a3] from rfl) (Reps.none _ _)))
                                              intro v224 w121 ho122 hb hg_ hnew_
                                              clear hg_ hnew_
                                              (first | rw [← Ny223.out] at ho122 | (simp only [Int.reduceToNat] at ho122; rw [← Ny223.out] at ho122))
                                              have n0_ := Aside0.mk (Kd.R_elder' (by (with_reducible repeat (first | apply Kd.R_alloc | apply Kd.R_drewN | apply Kd.R_drew)); exact HO222.out) (Kd.R_base ho122) hb)
                                              have n1_ := Aside0.mk (Kd.R_lower (Kd.R_new' ho122 (Kd.R_lt (by (with_reducible repeat (first | apply Kd.R_alloc | apply Kd.R_drewN | apply Kd.R_drew)); exact HO222.out))) (below_size (by repeat (first | (with_reducible first | exact HB.out | apply below_alloc | apply pw_below_drewN | apply below_drew1) | exact HB.out))))
                                              have n2_ := Aside0.mk (below_step (by repeat (first | (with_reducible first | exact HB.out | apply below_alloc | apply pw_below_drewN | apply below_drew1) | exact HB.out)) hb)
                                              clear HO222
                                              clear HB
                                              have HO222 := n0_
                                              have HO225 := n1_
                                              have HB := n2_
                                              clear n0_ n1_ n2_
                                              clear hb ho122
                                              refine hK.out _ _ trivial (fun hHeld => ?_)
                                              clear hK K
                                              refine norm_ (a' := ?_) ?_ ?_
                                              rotate_left
                                              · show Act.put _ (some 56) _ = _
                                                simp only [Act.put, List.setIfInBounds_toArray, List.set_cons_zero, List.set_cons_succ, i64_w, i32_w]
                                                rfl
                                              exact norm_ (by simp only [putAll, Act.put, List.setIfInBounds_toArray, List.set_cons_zero, List.set_cons_succ]) (hCont (v221, v224) _ ⟨(by (with_reducible repeat (first | apply Kd.R_alloc | apply Kd.R_drewN | apply Kd.R_drew)); exact Kd.R_mono HO222.out (fun _ hk => hk.2)), (by (with_reducible repeat (first | apply Kd.R_alloc | apply Kd.R_drewN | apply Kd.R_drew)); exact Kd.R_mono HO225.out (fun _ hk => hk.2)), (by repeat (first | (with_reducible first | exact HB.out | apply below_alloc | apply pw_below_drewN | apply below_drew1) | exact HB.out))⟩)
                                            · skip
                                              refine Kd.R_lit_step (Kd.int .i32) _ 21 ?hg (N := 56) ?hd (xs := ([a3] : List Int)) (inner := [.int .i32 a3]) (ok := fun _ => True) (okp := fun _ => True) ?hr ?hp (fun _ hk => hk) trivial (Below.refl _ _) (Nat.le_refl _) (by simp) ?_; (case hd => rfl); (case hg => rfl); (case hr => first | (go_simp; done) | (go_simp; rfl)); (case hp => exact (Reps.one (show Kd.M (Kd.int .i32) _ _ _ a3 [.int .i32 a3] from rfl) (Reps.none _ _)))
                                              intro v224 w120 ho121 hb hg_ hnew_
                                              clear hg_ hnew_
                                              (first | rw [← Ny223.out] at ho121 | (simp only [Int.reduceToNat] at ho121; rw [← Ny223.out] at ho121))
                                              have n0_ := Aside0.mk (Kd.R_lower ho121 (below_size (by repeat (first | (with_reducible first | exact HB.out | apply below_alloc | apply pw_below_drewN | apply below_drew1) | exact HB.out))))
                                              have n1_ := Aside0.mk (below_step (by repeat (first | (with_reducible first | exact HB.out | apply below_alloc | apply pw_below_drewN | apply below_drew1) | exact HB.out)) hb)
                                              clear HB
                                              have HO225 := n0_
                                              have HB := n1_
                                              clear n0_ n1_
                                              clear hb ho121
                                              refine hK.out _ _ trivial (fun hHeld => ?_)
                                              clear hK K
                                              refine norm_ (a' := ?_) ?_ ?_
                                              rotate_left
                                              · show Act.put _ (some 56) _ = _
                                                simp only [Act.put, List.setIfInBounds_toArray, List.set_cons_zero, List.set_cons_succ, i64_w, i32_w]
                                                rfl
                                              refine one_ (i := 4) (N := some 54) #[true, true, true, true, true, true, true, false, true, true, true, true, true, true, true, false, false] rfl rfl (one_of HT_.out (by kernel_rfl)) (by decide) (fun K hK => ?_)
                                              refine Kd.R_append_rows_step (Kd.int .i32) (w0 := w) w.heap.size (by rfl) (.tmp 50) (.tmp 53) 22 21 (.int .i32 0) 4 rfl Try.underlying22 info21 rfl (by decide) (by omega) (.slice none 0 0) ([] : List Int) (l0.take (t153 : Int).toNat) _ _ _ (fun k_ => some k_ ≠ (v224 : Value).ownBlock) (fun _ => False) rfl rfl ?aO ?aR (fun _ _ h => h) (fun _ h => h.elim) ?aF ?aB ?aS ?aL ?_
                                              (case aR => first | (have X_ := (Kd.C_below HR219.out HB.out); rw [show (l0.take (t153 : Int).toNat).length = t153.toNat from (by rw [List.length_take]; have h_ : (t153 : Int) ≤ (l0.length : Int) := of_decide_eq_true (by first | (with_reducible assumption) | assumption); omega)] at X_; exact X_) | (have X_ := (Kd.C_below HR219.out HB.out); rw [show (l0.take (t153 : Int).toNat).length = t153.toNat from (by rw [List.length_take]; have h_ : (t153 : Int) ≤ (l0.length : Int) := of_decide_eq_true (by first | (with_reducible assumption) | assumption); omega)] at X_; exact Kd.C_alloc X_ _) | (rw [← show (l0.take (t153 : Int).toNat).length = t153.toNat from (by rw [List.length_take]; have h_ : (t153 : Int) ≤ (l0.length : Int) := of_decide_eq_true (by first | (with_reducible assumption) | assumption); omega)]; repeat (first | exact (Kd.C_below HR219.out HB.out) | (with_reducible refine Kd.C_alloc ?_ _) | (with_reducible refine Kd.C_drewN ?_ _) | (with_reducible refine Kd.C_drew ?_)); done) | (repeat (first | exact (Kd.C_below HR219.out HB.out) | (with_reducible refine Kd.C_alloc ?_ _) | (with_reducible refine Kd.C_drewN ?_ _) | (with_reducible refine Kd.C_drew ?_))))
                                              (case aB => exact (by repeat (first | (with_reducible first | exact HB.out | apply below_alloc | apply pw_below_drewN | apply below_drew1) | exact HB.out)))
                                              (case aF => exact (fun k_ hk => Kd.fresh' (Kd.R_lt (by (with_reducible repeat (first | apply Kd.R_alloc | apply Kd.R_drewN | apply Kd.R_drew)); exact HO225.out)) k_ hk))
                                              (case aO => exact ((Kd.R_nil _ _ _ _ (fun k_ => some k_ ≠ (v224 : Value).ownBlock))))
                                              (case aS => exact (below_size (by repeat (first | (with_reducible first | exact HB.out | apply below_alloc | apply pw_below_drewN | apply below_drew1) | exact HB.out))))
                                              (case aL => have := LMc99.out; have hlx_ := (show (l0.take (t153 : Int).toNat).length = t153.toNat from (by rw [List.length_take]; have h_ : (t153 : Int) ≤ (l0.length : Int) := of_decide_eq_true (by first | (with_reducible assumption) | assumption); omega)); omega)
                                              intro v221 w122 ho hb hg hat
                                              rw [← Ny220.out] at ho
                                              have n0_ := Aside0.mk (Kd.R_after (Kd.R_apart_nil (by (with_reducible repeat (first | apply Kd.R_alloc | apply Kd.R_drewN | apply Kd.R_drew)); exact HO225.out)) hg hat)
                                              have n1_ := Aside0.mk (hb)
                                              have n2_ := Aside0.mk (ho)
                                              clear HO225
                                              clear HB
                                              have HO225 := n0_
                                              have HB := n1_
                                              have HO222 := n2_
                                              clear n0_ n1_ n2_
                                              clear ho hb hg hat
                                              refine hK.out _ _ trivial (fun hHeld => ?_)
                                              clear hK K
                                              refine norm_ (a' := ?_) ?_ ?_
                                              rotate_left
                                              · show Act.put _ (some 54) _ = _
                                                simp only [Act.put, List.setIfInBounds_toArray, List.set_cons_zero, List.set_cons_succ, i64_w, i32_w]
                                                rfl
                                              exact norm_ (by simp only [putAll, Act.put, List.setIfInBounds_toArray, List.set_cons_zero, List.set_cons_succ]) (hCont (v221, v224) _ ⟨(by (with_reducible repeat (first | apply Kd.R_alloc | apply Kd.R_drewN | apply Kd.R_drew)); exact HO222.out), (by (with_reducible repeat (first | apply Kd.R_alloc | apply Kd.R_drewN | apply Kd.R_drew)); exact Kd.R_mono HO225.out (fun _ hk => hk.2)), (by repeat (first | (with_reducible first | exact HB.out | apply below_alloc | apply pw_below_drewN | apply below_drew1) | exact HB.out))⟩)
                                          rintro ⟨v221, v224⟩ w123 ⟨h0_, h1_, h2_⟩
                                          have n0_ : Aside0 (Kd.R (Kd.int .i32) 21 w123 w.heap.size (fun k_ => some k_ ≠ (v224 : Value).ownBlock) v221 y220) := ⟨h0_⟩
                                          have n1_ : Aside0 (Kd.R (Kd.int .i32) 21 w123 w.heap.size (fun k_ => some k_ ≠ (v221 : Value).ownBlock) v224 y223) := ⟨h1_⟩
                                          have n2_ : Aside0 (Below w.heap.size w w123) := ⟨h2_⟩
                                          clear HB
                                          clear h0_ h1_ h2_
                                          have HO222 := n0_
                                          have HO225 := n1_
                                          have HB := n2_
                                          clear n0_ n1_ n2_
                                          have hHeld := trivial
                                          obtain ⟨Ao125, co125, eo125⟩ := Kd.R_slice HO225.out
                                          (first | subst eo125 | (injection eo125 with f1_ f2_ f3_; have f4_ := f1_.symm; have f5_ := f3_.symm; clear f1_ f2_ f3_; subst f4_; subst f5_))
                                          refine norm_ (a' := ?_) ?_ ?_
                                          rotate_left
                                          · simp only [putAll, Act.put, List.setIfInBounds_toArray, List.set_cons_zero, List.set_cons_succ]
                                            rfl
                                          refine one_ (i := 7) (N := some 57) #[true, true, true, true, true, true, true, true, true, true, true, true, true, true, true, false, false] rfl rfl (one_of HT_.out (by kernel_rfl)) (by decide) (fun K hK => ?_)
                                          refine Kd.R_append_rows_step (Kd.int .i32) (w0 := w) w.heap.size (by rfl) (.tmp 54) (.tmp 56) 22 21 (.int .i32 0) 4 rfl Try.underlying22 info21 rfl (by decide) (by omega) v221 y220 y223 _ _ _ (fun k_ => some k_ ≠ (.slice Ao125 y223.length co125 : Value).ownBlock) (fun _ => False) rfl rfl ?aO ?aR (fun _ _ h => h) (fun _ h => h.elim) ?aF ?aB ?aS ?aL ?_
                                          (case aR => repeat (first | exact (Kd.R_reads' HO225.out).2.2 | (with_reducible refine Kd.C_alloc ?_ _) | (with_reducible refine Kd.C_drewN ?_ _) | (with_reducible refine Kd.C_drew ?_)))
                                          (case aB => exact (by repeat (first | (with_reducible first | exact HB.out | apply below_alloc | apply pw_below_drewN | apply below_drew1) | exact HB.out)))
                                          (case aF => exact (fun k_ hk => Kd.fresh' (Kd.R_lt (by (with_reducible repeat (first | apply Kd.R_alloc | apply Kd.R_drewN | apply Kd.R_drew)); exact HO225.out)) k_ hk))
                                          (case aO => exact (by (with_reducible repeat (first | apply Kd.R_alloc | apply Kd.R_drewN | apply Kd.R_drew)); exact HO222.out))
                                          (case aS => exact (below_size (by repeat (first | (with_reducible first | exact HB.out | apply below_alloc | apply pw_below_drewN | apply below_drew1) | exact HB.out))))
                                          (case aL => have := LMc100.out; omega)
                                          intro v227 w124 ho hb hg hat
                                          rw [← Ny226.out] at ho
                                          have n0_ := Aside0.mk (Kd.R_after (ok := (fun _ => True)) (by (with_reducible repeat (first | apply Kd.R_alloc | apply Kd.R_drewN | apply Kd.R_drew)); exact Kd.R_mono HO225.out (fun _ hk => ⟨trivial, hk⟩)) hg hat)
                                          have n1_ := Aside0.mk (hb)
                                          have n2_ := Aside0.mk (ho)
                                          clear HO225
                                          clear HB
                                          clear HO222
                                          have HO225 := n0_
                                          have HB := n1_
                                          have HO228 := n2_
                                          clear n0_ n1_ n2_
                                          clear ho hb hg hat
                                          refine hK.out _ _ trivial (fun hHeld => ?_)
                                          clear hK K
                                          refine norm_ (a' := ?_) ?_ ?_
                                          rotate_left
                                          · show Act.put _ (some 57) _ = _
                                            simp only [Act.put, List.setIfInBounds_toArray, List.set_cons_zero, List.set_cons_succ, i64_w, i32_w]
                                            rfl
                                          refine one_ (i := 15) (N := some 65) #[true, true, true, true, true, true, true, true, true, true, true, true, true, true, true, true, false] rfl rfl (one_of HT_.out (by kernel_rfl)) (by decide) (fun K hK => ?_)
                                          refine Kd.R_append_rows_step (Kd.int .i32) (w0 := w) w.heap.size (by rfl) (.tmp 57) (.tmp 64) 22 21 (.int .i32 0) 4 rfl Try.underlying22 info21 rfl (by decide) (by omega) v227 y226 (l0.drop ((ji101) : Int).toNat) _ _ _ (fun k_ => some k_ ≠ (.slice Ao125 y223.length co125 : Value).ownBlock) (fun _ => False) rfl rfl ?aO ?aR (fun _ _ h => h) (fun _ h => h.elim) ?aF ?aB ?aS ?aL ?_
                                          (case aR => first | (have X_ := (Kd.C_below HR229.out HB.out); rw [show (l0.drop ((ji101) : Int).toNat).length = (l0.length - (ji101).toNat) from List.length_drop] at X_; exact X_) | (have X_ := (Kd.C_below HR229.out HB.out); rw [show (l0.drop ((ji101) : Int).toNat).length = (l0.length - (ji101).toNat) from List.length_drop] at X_; exact Kd.C_alloc X_ _) | (rw [← show (l0.drop ((ji101) : Int).toNat).length = (l0.length - (ji101).toNat) from List.length_drop]; repeat (first | exact (Kd.C_below HR229.out HB.out) | (with_reducible refine Kd.C_alloc ?_ _) | (with_reducible refine Kd.C_drewN ?_ _) | (with_reducible refine Kd.C_drew ?_)); done) | (repeat (first | exact (Kd.C_below HR229.out HB.out) | (with_reducible refine Kd.C_alloc ?_ _) | (with_reducible refine Kd.C_drewN ?_ _) | (with_reducible refine Kd.C_drew ?_))))
                                          (case aB => exact (by repeat (first | (with_reducible first | exact HB.out | apply below_alloc | apply pw_below_drewN | apply below_drew1) | exact HB.out)))
                                          (case aF => exact (fun k_ hk => Kd.fresh' (Kd.R_lt (by (with_reducible repeat (first | apply Kd.R_alloc | apply Kd.R_drewN | apply Kd.R_drew)); exact HO225.out)) k_ hk))
                                          (case aO => exact (by (with_reducible repeat (first | apply Kd.R_alloc | apply Kd.R_drewN | apply Kd.R_drew)); exact HO228.out))
                                          (case aS => exact (below_size (by repeat (first | (with_reducible first | exact HB.out | apply below_alloc | apply pw_below_drewN | apply below_drew1) | exact HB.out))))
                                          (case aL => have := LMc104.out; have hlx_ := (show (l0.drop ((ji101) : Int).toNat).length = (l0.length - (ji101).toNat) from List.length_drop); omega)
                                          intro v231 w126 ho hb hg hat
                                          rw [← Ny230.out] at ho
                                          have n0_ := Aside0.mk (Kd.R_after (ok := (fun _ => True)) (by (with_reducible repeat (first | apply Kd.R_alloc | apply Kd.R_drewN | apply Kd.R_drew)); exact HO225.out) hg hat)
                                          have n1_ := Aside0.mk (hb)
                                          have n2_ := Aside0.mk (ho)
                                          clear HO225
                                          clear HB
                                          clear HO228
                                          have HO225 := n0_
                                          have HB := n1_
                                          have HO232 := n2_
                                          clear n0_ n1_ n2_
                                          clear ho hb hg hat
                                          refine hK.out _ _ trivial (fun hHeld => ?_)
                                          clear hK K
                                          refine norm_ (a' := ?_) ?_ ?_
                                          rotate_left
                                          · show Act.put _ (some 65) _ = _
                                            simp only [Act.put, List.setIfInBounds_toArray, List.set_cons_zero, List.set_cons_succ, i64_w, i32_w]
                                            rfl
                                          refine pure_ (i := 16) (N := some 17) (v := ?_) (a' := ?_) #[true, true, true, true, true, true, true, true, true, true, true, true, true, true, true, true, true] rfl rfl (any_of HT_.out (by kernel_rfl)) (fun _ _ _ h => h) (Or.inl ⟨by rfl, ?_⟩) ?_ ?_
                                          rotate_left
                                          · intro w'
                                            go_simp
                                            with_reducible rfl
                                          rotate_left
                                          · simp only [Act.put, List.setIfInBounds_toArray, List.set_cons_zero, List.set_cons_succ, i64_w, i32_w]
                                            rfl
                                          refine done_ (done_of HT_.out (by kernel_rfl)) ?_
                                          obtain ⟨Ao127, co127, eo127⟩ := Kd.R_slice HO232.out
                                          subst eo127
                                          try go_wp2_with (first | ((with_reducible refine gate_callee (f := 19) rfl ?_); refine goesL_ (some 97) rfl rfl Try.func19 (by kernel_rfl) rfl #[.slice Ao127 y230.length co127, .slice A1 l1.length c1] rfl (by (try simp only [List.map_toArray, List.map_cons, List.map_nil]); first | done | rfl | (simp only [List.length_drop, List.length_take]; rfl)) ?_; (with_reducible refine (edit_Runes.calls kj7 _ _ y230 _ _ l1 t233 _ ?side1 ?side2 ?side3 ?side4 A105.out).mono ?_); (case side1 => repeat (first | exact (Kd.R_reads' HO232.out).2.2 | (with_reducible refine Kd.C_alloc ?_ _) | (with_reducible refine Kd.C_drewN ?_ _) | (with_reducible refine Kd.C_drew ?_))); (case side2 => exact (Kd.R_reads' HO232.out).2.1); (case side3 => repeat (first | exact (Kd.C_below HR1.out HB.out) | (with_reducible refine Kd.C_alloc ?_ _) | (with_reducible refine Kd.C_drewN ?_ _) | (with_reducible refine Kd.C_drew ?_))); (case side4 => exact HC1.out); rintro e w128 ⟨rfl, hb⟩; refine ⟨_, rfl, ?_⟩; have n0_ := Aside0.mk (Kd.R_below (by (with_reducible repeat (first | apply Kd.R_alloc | apply Kd.R_drewN | apply Kd.R_drew)); exact HO225.out) hb); have n1_ := Aside0.mk (Kd.R_below (by (with_reducible repeat (first | apply Kd.R_alloc | apply Kd.R_drewN | apply Kd.R_drew)); exact HO232.out) hb); have n2_ := Aside0.mk (below_step (by repeat (first | (with_reducible first | exact HB.out | apply below_alloc | apply pw_below_drewN | apply below_drew1) | exact HB.out)) hb); clear HO225; clear HO232; clear HB; have HO225 := n0_; have HO232 := n1_; have HB := n2_; clear n0_ n1_ n2_; (try clear hb); (try clear hb2); (try clear hk); (try clear hi)) | ((with_reducible refine gate_builtin (b := .append) (xs := #[.const (.slice none 0 0), .tmp 98]) rfl ?_); (try (refine gate_guard (by rfl) ?_; dsimp only)); at_builtin; refine Kd.R_append_rows (Kd.int .i32) (w0 := w) w.heap.size rfl (.const (.slice none 0 0)) (.tmp 98) 22 21 (.int .i32 0) 4 rfl Try.underlying22 info21 rfl (by decide) (by omega) (.slice none 0 0) ([] : List Int) l5 _ _ _ (fun k_ => some k_ ≠ (.slice Ao125 y223.length co125 : Value).ownBlock ∧ some k_ ≠ (.slice Ao127 y230.length co127 : Value).ownBlock) (fun _ => False) rfl rfl ?aO ?aR (fun _ _ h => h) (fun _ h => h.elim) ?aF ?aB ?aS ?aL ?_; (case aR => repeat (first | exact (Kd.C_below HR5.out HB.out) | (with_reducible refine Kd.C_alloc ?_ _) | (with_reducible refine Kd.C_drewN ?_ _) | (with_reducible refine Kd.C_drew ?_))); (case aB => exact (by repeat (first | (with_reducible first | exact HB.out | apply below_alloc | apply pw_below_drewN | apply below_drew1) | exact HB.out))); (case aF => exact (fun k_ hk => ⟨Kd.fresh' (Kd.R_lt (by (with_reducible repeat (first | apply Kd.R_alloc | apply Kd.R_drewN | apply Kd.R_drew)); exact HO225.out)) k_ hk, Kd.fresh' (Kd.R_lt (by (with_reducible repeat (first | apply Kd.R_alloc | apply Kd.R_drewN | apply Kd.R_drew)); exact HO232.out)) k_ hk⟩)); (case aO => exact ((Kd.R_nil _ _ _ _ (fun k_ => some k_ ≠ (.slice Ao125 y223.length co125 : Value).ownBlock ∧ some k_ ≠ (.slice Ao127 y230.length co127 : Value).ownBlock)))); (case aS => exact (below_size (by repeat (first | (with_reducible first | exact HB.out | apply below_alloc | apply pw_below_drewN | apply below_drew1) | exact HB.out)))); (case aL => have := LMc106.out; omega); intro v235 w129 ho hb hg hat; rw [← Ny234.out] at ho; have n0_ := Aside0.mk (Kd.R_after (Kd.R_apart_nil (by (with_reducible repeat (first | apply Kd.R_alloc | apply Kd.R_drewN | apply Kd.R_drew)); exact HO225.out)) hg hat); have n1_ := Aside0.mk (Kd.R_after (Kd.R_apart_nil (by (with_reducible repeat (first | apply Kd.R_alloc | apply Kd.R_drewN | apply Kd.R_drew)); exact HO232.out)) hg hat); have n2_ := Aside0.mk (hb); have n3_ := Aside0.mk (ho); clear HO225; clear HO232; clear HB; have HO225 := n0_; have HO232 := n1_; have HB := n2_; have HO236 := n3_; clear n0_ n1_ n2_ n3_; clear ho hb hg hat) | ((with_reducible refine gate_builtin (b := .append) (xs := #[.tmp 99, .tmp 100]) rfl ?_); (try (refine gate_guard (by rfl) ?_; dsimp only)); at_builtin; refine Kd.R_append_rows (Kd.int .i32) (w0 := w) w.heap.size rfl (.tmp 99) (.tmp 100) 22 21 (.int .i32 0) 4 rfl Try.underlying22 info21 rfl (by decide) (by omega) v235 y234 l0 _ _ _ (fun k_ => some k_ ≠ (.slice Ao125 y223.length co125 : Value).ownBlock ∧ some k_ ≠ (.slice Ao127 y230.length co127 : Value).ownBlock) (fun _ => False) rfl rfl ?aO ?aR (fun _ _ h => h) (fun _ h => h.elim) ?aF ?aB ?aS ?aL ?_; (case aR => repeat (first | exact (Kd.C_below HR0.out HB.out) | (with_reducible refine Kd.C_alloc ?_ _) | (with_reducible refine Kd.C_drewN ?_ _) | (with_reducible refine Kd.C_drew ?_))); (case aB => exact (by repeat (first | (with_reducible first | exact HB.out | apply below_alloc | apply pw_below_drewN | apply below_drew1) | exact HB.out))); (case aF => exact (fun k_ hk => ⟨Kd.fresh' (Kd.R_lt (by (with_reducible repeat (first | apply Kd.R_alloc | apply Kd.R_drewN | apply Kd.R_drew)); exact HO225.out)) k_ hk, Kd.fresh' (Kd.R_lt (by (with_reducible repeat (first | apply Kd.R_alloc | apply Kd.R_drewN | apply Kd.R_drew)); exact HO232.out)) k_ hk⟩)); (case aO => exact (by (with_reducible repeat (first | apply Kd.R_alloc | apply Kd.R_drewN | apply Kd.R_drew)); exact HO236.out)); (case aS => exact (below_size (by repeat (first | (with_reducible first | exact HB.out | apply below_alloc | apply pw_below_drewN | apply below_drew1) | exact HB.out)))); (case aL => have := LMc107.out; omega); intro v238 w130 ho hb hg hat; rw [← Ny237.out] at ho; have n0_ := Aside0.mk (Kd.R_after (ok := (fun k_ => some k_ ≠ (.slice Ao127 y230.length co127 : Value).ownBlock)) (by (with_reducible repeat (first | apply Kd.R_alloc | apply Kd.R_drewN | apply Kd.R_drew)); exact Kd.R_mono HO225.out (fun _ hk => ⟨hk.1.2, hk.2⟩)) hg hat); have n1_ := Aside0.mk (Kd.R_after (ok := (fun k_ => some k_ ≠ (.slice Ao125 y223.length co125 : Value).ownBlock)) (by (with_reducible repeat (first | apply Kd.R_alloc | apply Kd.R_drewN | apply Kd.R_drew)); exact HO232.out) hg hat); have n2_ := Aside0.mk (hb); have n3_ := Aside0.mk (ho); clear HO225; clear HO232; clear HB; clear HO236; have HO225 := n0_; have HO232 := n1_; have HB := n2_; have HO239 := n3_; clear n0_ n1_ n2_ n3_; clear ho hb hg hat) | ((with_reducible refine gate_builtin (b := .append) (xs := #[.tmp 101, .tmp 102]) rfl ?_); (try (refine gate_guard (by rfl) ?_; dsimp only)); at_builtin; refine Kd.R_append_rows (Kd.int .i32) (w0 := w) w.heap.size rfl (.tmp 101) (.tmp 102) 22 21 (.int .i32 0) 4 rfl Try.underlying22 info21 rfl (by decide) (by omega) v238 y237 l6 _ _ _ (fun k_ => some k_ ≠ (.slice Ao125 y223.length co125 : Value).ownBlock ∧ some k_ ≠ (.slice Ao127 y230.length co127 : Value).ownBlock) (fun _ => False) rfl rfl ?aO ?aR (fun _ _ h => h) (fun _ h => h.elim) ?aF ?aB ?aS ?aL ?_; (case aR => repeat (first | exact (Kd.C_below HR6.out HB.out) | (with_reducible refine Kd.C_alloc ?_ _) | (with_reducible refine Kd.C_drewN ?_ _) | (with_reducible refine Kd.C_drew ?_))); (case aB => exact (by repeat (first | (with_reducible first | exact HB.out | apply below_alloc | apply pw_below_drewN | apply below_drew1) | exact HB.out))); (case aF => exact (fun k_ hk => ⟨Kd.fresh' (Kd.R_lt (by (with_reducible repeat (first | apply Kd.R_alloc | apply Kd.R_drewN | apply Kd.R_drew)); exact HO225.out)) k_ hk, Kd.fresh' (Kd.R_lt (by (with_reducible repeat (first | apply Kd.R_alloc | apply Kd.R_drewN | apply Kd.R_drew)); exact HO232.out)) k_ hk⟩)); (case aO => exact (by (with_reducible repeat (first | apply Kd.R_alloc | apply Kd.R_drewN | apply Kd.R_drew)); exact HO239.out)); (case aS => exact (below_size (by repeat (first | (with_reducible first | exact HB.out | apply below_alloc | apply pw_below_drewN | apply below_drew1) | exact HB.out)))); (case aL => have := LMc108.out; omega); intro v241 w131 ho hb hg hat; rw [← Ny240.out] at ho; have n0_ := Aside0.mk (Kd.R_after (ok := (fun k_ => some k_ ≠ (.slice Ao127 y230.length co127 : Value).ownBlock)) (by (with_reducible repeat (first | apply Kd.R_alloc | apply Kd.R_drewN | apply Kd.R_drew)); exact HO225.out) hg hat); have n1_ := Aside0.mk (Kd.R_after (ok := (fun k_ => some k_ ≠ (.slice Ao125 y223.length co125 : Value).ownBlock)) (by (with_reducible repeat (first | apply Kd.R_alloc | apply Kd.R_drewN | apply Kd.R_drew)); exact HO232.out) hg hat); have n2_ := Aside0.mk (hb); have n3_ := Aside0.mk (ho); clear HO225; clear HO232; clear HB; clear HO239; have HO225 := n0_; have HO232 := n1_; have HB := n2_; have HO242 := n3_; clear n0_ n1_ n2_ n3_; clear ho hb hg hat) | ((with_reducible refine gate_builtin (b := .append) (xs := #[.const (.slice none 0 0), .tmp 104]) rfl ?_); (try (refine gate_guard (by rfl) ?_; dsimp only)); at_builtin; refine Kd.R_append_rows (Kd.int .i32) (w0 := w) w.heap.size rfl (.const (.slice none 0 0)) (.tmp 104) 22 21 (.int .i32 0) 4 rfl Try.underlying22 info21 rfl (by decide) (by omega) (.slice none 0 0) ([] : List Int) l5 _ _ _ (fun k_ => some k_ ≠ (.slice Ao125 y223.length co125 : Value).ownBlock ∧ some k_ ≠ (.slice Ao127 y230.length co127 : Value).ownBlock ∧ some k_ ≠ (v241 : Value).ownBlock) (fun _ => False) rfl rfl ?aO ?aR (fun _ _ h => h) (fun _ h => h.elim) ?aF ?aB ?aS ?aL ?_; (case aR => repeat (first | exact (Kd.C_below HR5.out HB.out) | (with_reducible refine Kd.C_alloc ?_ _) | (with_reducible refine Kd.C_drewN ?_ _) | (with_reducible refine Kd.C_drew ?_))); (case aB => exact (by repeat (first | (with_reducible first | exact HB.out | apply below_alloc | apply pw_below_drewN | apply below_drew1) | exact HB.out))); (case aF => exact (fun k_ hk => ⟨Kd.fresh' (Kd.R_lt (by (with_reducible repeat (first | apply Kd.R_alloc | apply Kd.R_drewN | apply Kd.R_drew)); exact HO225.out)) k_ hk, Kd.fresh' (Kd.R_lt (by (with_reducible repeat (first | apply Kd.R_alloc | apply Kd.R_drewN | apply Kd.R_drew)); exact HO232.out)) k_ hk, Kd.fresh' (Kd.R_lt (by (with_reducible repeat (first | apply Kd.R_alloc | apply Kd.R_drewN | apply Kd.R_drew)); exact HO242.out)) k_ hk⟩)); (case aO => exact ((Kd.R_nil _ _ _ _ (fun k_ => some k_ ≠ (.slice Ao125 y223.length co125 : Value).ownBlock ∧ some k_ ≠ (.slice Ao127 y230.length co127 : Value).ownBlock ∧ some k_ ≠ (v241 : Value).ownBlock)))); (case aS => exact (below_size (by repeat (first | (with_reducible first | exact HB.out | apply below_alloc | apply pw_below_drewN | apply below_drew1) | exact HB.out)))); (case aL => have := LMc106.out; omega); intro v244 w132 ho hb hg hat; rw [← Ny243.out] at ho; have n0_ := Aside0.mk (Kd.R_after (Kd.R_apart_nil (by (with_reducible repeat (first | apply Kd.R_alloc | apply Kd.R_drewN | apply Kd.R_drew)); exact HO225.out)) hg hat); have n1_ := Aside0.mk (Kd.R_after (Kd.R_apart_nil (by (with_reducible repeat (first | apply Kd.R_alloc | apply Kd.R_drewN | apply Kd.R_drew)); exact HO232.out)) hg hat); have n2_ := Aside0.mk (Kd.R_after (Kd.R_apart_nil (by (with_reducible repeat (first | apply Kd.R_alloc | apply Kd.R_drewN | apply Kd.R_drew)); exact HO242.out)) hg hat); have n3_ := Aside0.mk (hb); have n4_ := Aside0.mk (ho); clear HO225; clear HO232; clear HO242; clear HB; have HO225 := n0_; have HO232 := n1_; have HO242 := n2_; have HB := n3_; have HO245 := n4_; clear n0_ n1_ n2_ n3_ n4_; clear ho hb hg hat) | ((with_reducible refine gate_builtin (b := .append) (xs := #[.tmp 105, .tmp 106]) rfl ?_); (try (refine gate_guard (by rfl) ?_; dsimp only)); at_builtin; refine Kd.R_append_rows (Kd.int .i32) (w0 := w) w.heap.size rfl (.tmp 105) (.tmp 106) 22 21 (.int .i32 0) 4 rfl Try.underlying22 info21 rfl (by decide) (by omega) v244 y243 l1 _ _ _ (fun k_ => some k_ ≠ (.slice Ao125 y223.length co125 : Value).ownBlock ∧ some k_ ≠ (.slice Ao127 y230.length co127 : Value).ownBlock ∧ some k_ ≠ (v241 : Value).ownBlock) (fun _ => False) rfl rfl ?aO ?aR (fun _ _ h => h) (fun _ h => h.elim) ?aF ?aB ?aS ?aL ?_; (case aR => repeat (first | exact (Kd.C_below HR1.out HB.out) | (with_reducible refine Kd.C_alloc ?_ _) | (with_reducible refine Kd.C_drewN ?_ _) | (with_reducible refine Kd.C_drew ?_))); (case aB => exact (by repeat (first | (with_reducible first | exact HB.out | apply below_alloc | apply pw_below_drewN | apply below_drew1) | exact HB.out))); (case aF => exact (fun k_ hk => ⟨Kd.fresh' (Kd.R_lt (by (with_reducible repeat (first | apply Kd.R_alloc | apply Kd.R_drewN | apply Kd.R_drew)); exact HO225.out)) k_ hk, Kd.fresh' (Kd.R_lt (by (with_reducible repeat (first | apply Kd.R_alloc | apply Kd.R_drewN | apply Kd.R_drew)); exact HO232.out)) k_ hk, Kd.fresh' (Kd.R_lt (by (with_reducible repeat (first | apply Kd.R_alloc | apply Kd.R_drewN | apply Kd.R_drew)); exact HO242.out)) k_ hk⟩)); (case aO => exact (by (with_reducible repeat (first | apply Kd.R_alloc | apply Kd.R_drewN | apply Kd.R_drew)); exact HO245.out)); (case aS => exact (below_size (by repeat (first | (with_reducible first | exact HB.out | apply below_alloc | apply pw_below_drewN | apply below_drew1) | exact HB.out)))); (case aL => have := LMc109.out; omega); intro v247 w133 ho hb hg hat; rw [← Ny246.out] at ho; have n0_ := Aside0.mk (Kd.R_after (ok := (fun k_ => some k_ ≠ (.slice Ao127 y230.length co127 : Value).ownBlock ∧ some k_ ≠ (v241 : Value).ownBlock)) (by (with_reducible repeat (first | apply Kd.R_alloc | apply Kd.R_drewN | apply Kd.R_drew)); exact HO225.out) hg hat); have n1_ := Aside0.mk (Kd.R_after (ok := (fun k_ => some k_ ≠ (.slice Ao125 y223.length co125 : Value).ownBlock ∧ some k_ ≠ (v241 : Value).ownBlock)) (by (with_reducible repeat (first | apply Kd.R_alloc | apply Kd.R_drewN | apply Kd.R_drew)); exact HO232.out) hg hat); have n2_ := Aside0.mk (Kd.R_after (ok := (fun k_ => some k_ ≠ (.slice Ao125 y223.length co125 : Value).ownBlock ∧ some k_ ≠ (.slice Ao127 y230.length co127 : Value).ownBlock)) (by (with_reducible repeat (first | apply Kd.R_alloc | apply Kd.R_drewN | apply Kd.R_drew)); exact HO242.out) hg hat); have n3_ := Aside0.mk (hb); have n4_ := Aside0.mk (ho); clear HO225; clear HO232; clear HO242; clear HB; clear HO245; have HO225 := n0_; have HO232 := n1_; have HO242 := n2_; have HB := n3_; have HO248 := n4_; clear n0_ n1_ n2_ n3_ n4_; clear ho hb hg hat) | ((with_reducible refine gate_builtin (b := .append) (xs := #[.tmp 107, .tmp 108]) rfl ?_); (try (refine gate_guard (by rfl) ?_; dsimp only)); at_builtin; refine Kd.R_append_rows (Kd.int .i32) (w0 := w) w.heap.size rfl (.tmp 107) (.tmp 108) 22 21 (.int .i32 0) 4 rfl Try.underlying22 info21 rfl (by decide) (by omega) v247 y246 l6 _ _ _ (fun k_ => some k_ ≠ (.slice Ao125 y223.length co125 : Value).ownBlock ∧ some k_ ≠ (.slice Ao127 y230.length co127 : Value).ownBlock ∧ some k_ ≠ (v241 : Value).ownBlock) (fun _ => False) rfl rfl ?aO ?aR (fun _ _ h => h) (fun _ h => h.elim) ?aF ?aB ?aS ?aL ?_; (case aR => repeat (first | exact (Kd.C_below HR6.out HB.out) | (with_reducible refine Kd.C_alloc ?_ _) | (with_reducible refine Kd.C_drewN ?_ _) | (with_reducible refine Kd.C_drew ?_))); (case aB => exact (by repeat (first | (with_reducible first | exact HB.out | apply below_alloc | apply pw_below_drewN | apply below_drew1) | exact HB.out))); (case aF => exact (fun k_ hk => ⟨Kd.fresh' (Kd.R_lt (by (with_reducible repeat (first | apply Kd.R_alloc | apply Kd.R_drewN | apply Kd.R_drew)); exact HO225.out)) k_ hk, Kd.fresh' (Kd.R_lt (by (with_reducible repeat (first | apply Kd.R_alloc | apply Kd.R_drewN | apply Kd.R_drew)); exact HO232.out)) k_ hk, Kd.fresh' (Kd.R_lt (by (with_reducible repeat (first | apply Kd.R_alloc | apply Kd.R_drewN | apply Kd.R_drew)); exact HO242.out)) k_ hk⟩)); (case aO => exact (by (with_reducible repeat (first | apply Kd.R_alloc | apply Kd.R_drewN | apply Kd.R_drew)); exact HO248.out)); (case aS => exact (below_size (by repeat (first | (with_reducible first | exact HB.out | apply below_alloc | apply pw_below_drewN | apply below_drew1) | exact HB.out)))); (case aL => have := LMc110.out; omega); intro v250 w134 ho hb hg hat; rw [← Ny249.out] at ho; have n0_ := Aside0.mk (Kd.R_after (ok := (fun k_ => some k_ ≠ (.slice Ao127 y230.length co127 : Value).ownBlock ∧ some k_ ≠ (v241 : Value).ownBlock)) (by (with_reducible repeat (first | apply Kd.R_alloc | apply Kd.R_drewN | apply Kd.R_drew)); exact HO225.out) hg hat); have n1_ := Aside0.mk (Kd.R_after (ok := (fun k_ => some k_ ≠ (.slice Ao125 y223.length co125 : Value).ownBlock ∧ some k_ ≠ (v241 : Value).ownBlock)) (by (with_reducible repeat (first | apply Kd.R_alloc | apply Kd.R_drewN | apply Kd.R_drew)); exact HO232.out) hg hat); have n2_ := Aside0.mk (Kd.R_after (ok := (fun k_ => some k_ ≠ (.slice Ao125 y223.length co125 : Value).ownBlock ∧ some k_ ≠ (.slice Ao127 y230.length co127 : Value).ownBlock)) (by (with_reducible repeat (first | apply Kd.R_alloc | apply Kd.R_drewN | apply Kd.R_drew)); exact HO242.out) hg hat); have n3_ := Aside0.mk (hb); have n4_ := Aside0.mk (ho); clear HO225; clear HO232; clear HO242; clear HB; clear HO248; have HO225 := n0_; have HO232 := n1_; have HO242 := n2_; have HB := n3_; have HO251 := n4_; clear n0_ n1_ n2_ n3_ n4_; clear ho hb hg hat; obtain ⟨Ao135, co135, eo135⟩ := Kd.R_slice HO242.out; subst eo135; obtain ⟨Ao136, co136, eo136⟩ := Kd.R_slice HO251.out; subst eo136) | (go_at_call 19; (with_reducible refine (edit_Runes.calls kj7 _ _ y240 _ _ y249 t252 _ ?side1 ?side2 ?side3 ?side4 A113.out).mono ?_); (case side1 => repeat (first | exact (Kd.R_reads' HO242.out).2.2 | (with_reducible refine Kd.C_alloc ?_ _) | (with_reducible refine Kd.C_drewN ?_ _) | (with_reducible refine Kd.C_drew ?_))); (case side2 => exact (Kd.R_reads' HO242.out).2.1); (case side3 => repeat (first | exact (Kd.R_reads' HO251.out).2.2 | (with_reducible refine Kd.C_alloc ?_ _) | (with_reducible refine Kd.C_drewN ?_ _) | (with_reducible refine Kd.C_drew ?_))); (case side4 => exact (Kd.R_reads' HO251.out).2.1); rintro e w137 ⟨rfl, hb⟩; have n0_ := Aside0.mk (Kd.R_below (by (with_reducible repeat (first | apply Kd.R_alloc | apply Kd.R_drewN | apply Kd.R_drew)); exact HO225.out) hb); have n1_ := Aside0.mk (Kd.R_below (by (with_reducible repeat (first | apply Kd.R_alloc | apply Kd.R_drewN | apply Kd.R_drew)); exact HO232.out) hb); have n2_ := Aside0.mk (Kd.R_below (by (with_reducible repeat (first | apply Kd.R_alloc | apply Kd.R_drewN | apply Kd.R_drew)); exact HO242.out) hb); have n3_ := Aside0.mk (Kd.R_below (by (with_reducible repeat (first | apply Kd.R_alloc | apply Kd.R_drewN | apply Kd.R_drew)); exact HO251.out) hb); have n4_ := Aside0.mk (below_step (by repeat (first | (with_reducible first | exact HB.out | apply below_alloc | apply pw_below_drewN | apply below_drew1) | exact HB.out)) hb); clear HO225; clear HO232; clear HO242; clear HO251; clear HB; have HO225 := n0_; have HO232 := n1_; have HO242 := n2_; have HO251 := n3_; have HB := n4_; clear n0_ n1_ n2_ n3_ n4_; (try clear hb); (try clear hb2); (try clear hk); (try clear hi)) | (go_at_call 16; (with_reducible refine (inkhornlaw5_awake.calls kj7  t253 _ A115.out).mono ?_); rintro e w138 ⟨rfl, hb⟩; have n0_ := Aside0.mk (Kd.R_below (by (with_reducible repeat (first | apply Kd.R_alloc | apply Kd.R_drewN | apply Kd.R_drew)); exact HO225.out) hb); have n1_ := Aside0.mk (Kd.R_below (by (with_reducible repeat (first | apply Kd.R_alloc | apply Kd.R_drewN | apply Kd.R_drew)); exact HO232.out) hb); have n2_ := Aside0.mk (Kd.R_below (by (with_reducible repeat (first | apply Kd.R_alloc | apply Kd.R_drewN | apply Kd.R_drew)); exact HO242.out) hb); have n3_ := Aside0.mk (Kd.R_below (by (with_reducible repeat (first | apply Kd.R_alloc | apply Kd.R_drewN | apply Kd.R_drew)); exact HO251.out) hb); have n4_ := Aside0.mk (below_step (by repeat (first | (with_reducible first | exact HB.out | apply below_alloc | apply pw_below_drewN | apply below_drew1) | exact HB.out)) hb); clear HO225; clear HO232; clear HO242; clear HO251; clear HB; have HO225 := n0_; have HO232 := n1_; have HO242 := n2_; have HO251 := n3_; have HB := n4_; clear n0_ n1_ n2_ n3_ n4_; (try clear hb); (try clear hb2); (try clear hk); (try clear hi)))
                                          go_ret
                                          exact ⟨by first | rfl | (simp [errW_none, errW_some] <;> rfl) | (simp only [← hji101]; first | rfl | (simp [errW_none, errW_some] <;> rfl)) | (simp [*, errW_none, errW_some] <;> rfl), by repeat (first | (with_reducible first | exact HB.out | apply below_alloc | apply pw_below_drewN | apply below_drew1) | exact HB.out)⟩
                                        · rw [if_neg c114] at H
                                          have c114b0 : (t252 == t152) = false := beq_eq_false_iff_ne.mpr c114
                                          have c114b1 : (t252 != t152) = true := bne_iff_ne.mpr c114
                                          exact absurd (H.trans (congrArg some HRT.out)) (by simp)
                                      · rw [if_neg c112] at H
                                        have c112b0 : decide (t152 ≤ (wrap64 (t233 + 1))) = false := decide_eq_false c112
                                        clear c112
                                        exact absurd (H.trans (congrArg some HRT.out)) (by simp)
                                    · rw [if_neg c111] at H
                                      have c111b0 : decide (t233 ≤ (wrap64 (t152 + 1))) = false := decide_eq_false c111
                                      clear c111
                                      exact absurd (H.trans (congrArg some HRT.out)) (by simp)
                                  · rw [if_neg c110] at H
                                    exact absurd H (by simp)
                                · rw [if_neg c109] at H
                                  exact absurd H (by simp)
                              · rw [if_neg c108] at H
                                exact absurd H (by simp)
                            · rw [if_neg c107] at H
                              exact absurd H (by simp)
                          · rw [if_neg c106] at H
                            exact absurd H (by simp)
                        · rw [if_neg c104] at H
                          exact absurd H (by simp)
                      · rw [if_neg c103] at H
                        exact absurd H (by simp)
                    · rw [if_neg c102] at H
                      exact absurd H (by simp)
                  · rw [if_neg c100] at H
                    exact absurd H (by simp)
                · rw [if_neg c99] at H
                  exact absurd H (by simp)
              · rw [if_neg c98] at H
                exact absurd H (by simp)
            · rw [if_neg c97] at H
              exact absurd H (by simp)

/-- THE ONE PURE STATEMENT of inkhornlaw5_EditSteps: yours. -/
def inkhornlaw5_EditSteps.Pure : Prop := ∀ (l0 : List Int) (l1 : List Int) (a2 : Int) (a3 : Int) (a4 : Int) (l5 : List Int) (l6 : List Int), l0.length ≤ maxLen → l0.length * 4 ≤ 140737488351232 → (∀ x ∈ l0, (Lit.int .i32 x).wf = true) → l1.length ≤ maxLen → l1.length * 4 ≤ 140737488351232 → (∀ x ∈ l1, (Lit.int .i32 x).wf = true) → (Lit.int .i64 a2).wf = true → (Lit.int .i32 a3).wf = true → (Lit.int .i64 a4).wf = true → l5.length ≤ maxLen → l5.length * 4 ≤ 140737488351232 → (∀ x ∈ l5, (Lit.int .i32 x).wf = true) → l6.length ≤ maxLen → l6.length * 4 ≤ 140737488351232 → (∀ x ∈ l6, (Lit.int .i32 x).wf = true) → ∃ k, inkhornlaw5_EditSteps.f k l0 l1 a2 a3 a4 l5 l6 = some true
theorem inkhornlaw5_EditSteps.walk (P : inkhornlaw5_EditSteps.Pure) (a0 : Option Addr) (len0 cap0 : Nat) (z0 : List Int) (a1 : Option Addr) (len1 cap1 : Nat) (z1 : List Int) (a2 : Int) (a3 : Int) (a4 : Int) (a5 : Option Addr) (len5 cap5 : Nat) (z5 : List Int) (a6 : Option Addr) (len6 cap6 : Nat) (z6 : List Int) (w : World) (w0 : (a0 = none ∧ len0 = 0 ∧ cap0 = 0 ∧ z0 = []) ∨ ∃ x, a0 = some x ∧ len0 ≤ cap0 ∧ cap0 ≤ maxLen ∧ z0.length = cap0 ∧ (∀ i, i < z0.length → w.cell? (x.add i) = some (.int .i32 (z0.getD i 0))) ∧ ∀ n ∈ z0, (Lit.int .i32 n).wf = true) (y0 : len0 * 4 ≤ 140737488351232) (w1 : (a1 = none ∧ len1 = 0 ∧ cap1 = 0 ∧ z1 = []) ∨ ∃ x, a1 = some x ∧ len1 ≤ cap1 ∧ cap1 ≤ maxLen ∧ z1.length = cap1 ∧ (∀ i, i < z1.length → w.cell? (x.add i) = some (.int .i32 (z1.getD i 0))) ∧ ∀ n ∈ z1, (Lit.int .i32 n).wf = true) (y1 : len1 * 4 ≤ 140737488351232) (w2 : (Lit.int .i64 a2).wf = true) (w3 : (Lit.int .i32 a3).wf = true) (w4 : (Lit.int .i64 a4).wf = true) (w5 : (a5 = none ∧ len5 = 0 ∧ cap5 = 0 ∧ z5 = []) ∨ ∃ x, a5 = some x ∧ len5 ≤ cap5 ∧ cap5 ≤ maxLen ∧ z5.length = cap5 ∧ (∀ i, i < z5.length → w.cell? (x.add i) = some (.int .i32 (z5.getD i 0))) ∧ ∀ n ∈ z5, (Lit.int .i32 n).wf = true) (y5 : len5 * 4 ≤ 140737488351232) (w6 : (a6 = none ∧ len6 = 0 ∧ cap6 = 0 ∧ z6 = []) ∨ ∃ x, a6 = some x ∧ len6 ≤ cap6 ∧ cap6 ≤ maxLen ∧ z6.length = cap6 ∧ (∀ i, i < z6.length → w.cell? (x.add i) = some (.int .i32 (z6.getD i 0))) ∧ ∀ n ∈ z6, (Lit.int .i32 n).wf = true) (y6 : len6 * 4 ≤ 140737488351232) :
    Calls Try.prog 6 #[.slice a0 len0 cap0, .slice a1 len1 cap1, .int .i64 a2, .int .i32 a3, .int .i64 a4, .slice a5 len5 cap5, .slice a6 len6 cap6] w fun e w' => e = .returned (.bool true) ∧ Below w.heap.size w w' := by
  obtain ⟨l0, rfl, hr0, hm0, hw0, hc0⟩ := ReadsInt.ofRowC w0
  obtain ⟨l1, rfl, hr1, hm1, hw1, hc1⟩ := ReadsInt.ofRowC w1
  obtain ⟨l5, rfl, hr5, hm5, hw5, hc5⟩ := ReadsInt.ofRowC w5
  obtain ⟨l6, rfl, hr6, hm6, hw6, hc6⟩ := ReadsInt.ofRowC w6
  obtain ⟨k, h⟩ := P l0 l1 a2 a3 a4 l5 l6 hm0 y0 hw0 hm1 y1 hw1 w2 w3 w4 hm5 y5 hw5 hm6 y6 hw6
  refine (inkhornlaw5_EditSteps.calls k _ _ l0 _ _ l1 a2 a3 a4 _ _ l5 _ _ l6 true w (Kd.C_of_reads (d := (0 : Int)) (h1 := fun _ => rfl) hr0) hc0 (Kd.C_of_reads (d := (0 : Int)) (h1 := fun _ => rfl) hr1) hc1 (Kd.C_of_reads (d := (0 : Int)) (h1 := fun _ => rfl) hr5) hc5 (Kd.C_of_reads (d := (0 : Int)) (h1 := fun _ => rfl) hr6) hc6 h rfl).mono ?_
  rintro e w' ⟨rfl, hd⟩
  exact ⟨rfl, hd⟩

end Go.Proofs.Ytlbddbbmomjljaa.PS
