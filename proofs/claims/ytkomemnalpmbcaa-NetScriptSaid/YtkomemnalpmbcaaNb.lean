/- slices.Clone of bytes; Send. -/
import Derived.Test.YtkomemnalpmbcaaNa
import Derived.Deep.RegionHeld3
import Derived.Deep.AppendLies
import Derived.Lib.Hide
set_option linter.unusedVariables false
set_option linter.unusedSimpArgs false
namespace Go.Proofs.Ytkomemnalpmbcaa.Nt
open Go.RowKit Go.Proofs.YtkomemnalpmbcaaW.PrintWords Go.Proofs.YtkomemnalpmbcaaW.PrintLast Go.Proofs.YtkomemnalpmbcaaW.PrintMore
attribute [local go_sem] max2_int min2_int max_two min_two max_three min_three max_four min_four

theorem info5' : (Try.prog.info? 5).map (fun i => (i.zero, i.size, i.bytes)) = some (some (.int .u8 0), 1, 1) := by kernel_rfl
theorem info31' : (Try.prog.info? 31).map (fun i => (i.zero, i.size, i.bytes)) = some (some (.agg #[.int .i64 0, .int .i64 0, .int .i64 0, .slice none 0 0, .bool false]), 5, 56) := by kernel_rfl

theorem reps_u8 {w : World} {b : Nat} {ok : Nat → Prop} {l : List Int} {cs : List Value} (h : Reps ((Kd.int .u8).M w b ok) (Kd.int .u8).sz l cs) : cs = nums .u8 l := by
  have hl : cs.length = l.length := by rw [h.1]; exact Nat.mul_one _
  apply List.ext_getElem
  · rw [hl, nums_length]
  · intro i h1 h2
    have h3 : i < l.length := by omega
    have e := h.2 i l[i] (List.getElem?_eq_getElem h3)
    have e2 : ((cs.drop (i * 1)).take 1) = [Value.int .u8 l[i]] := e
    rw [Nat.mul_one, List.drop_eq_getElem_cons h1] at e2
    simp only [List.take_succ_cons, List.take_zero, List.cons.injEq, and_true] at e2
    rw [e2]
    simp [nums]
theorem own_of_R {w : World} {b : Nat} {ok : Nat → Prop} {v : Value} {l : List Int} (h : Kd.R (Kd.int .u8) 5 w b ok v l) : w.ownsRow b 5 1 v l.length (nums .u8 l) := by
  obtain ⟨_, inner, ho, hr⟩ := h
  rw [← reps_u8 hr]
  exact ho

set_option maxHeartbeats 8000000 in
set_option maxRecDepth 100000 in
theorem Clone.bytes (A0 : Option Addr) (c0 : Nat) (l0 : List Int) (w : World) (hr0 : Kd.C (Kd.int .u8) w A0 l0.length l0) (hc0 : l0.length ≤ c0) (hl : l0.length ≤ 100000) :
    Calls Try.prog 30 #[.slice A0 l0.length c0] w fun e w' => ∃ v, e = .returned v ∧ w'.ownsRow w.heap.size 5 1 v l0.length (nums .u8 l0) ∧ Below w.heap.size w w' := by
  have HR0 := Aside0.mk hr0
  have HC0 := Aside0.mk hc0
  have HL := Aside0.mk hl
  clear hr0 hc0 hl
  have HB := Aside0.mk (Below.refl w.heap.size w)
  have heq := fun (w : World) => Lib.run_eql_slice_nil (P := Try.prog) w 29 5 A0 l0.length c0 0 0 Try.underlying29
  rcases A0 with _ | ad
  · have e0 : l0 = [] := by
      rcases Nat.eq_zero_or_pos l0.length with h0 | h0
      · exact List.eq_nil_of_length_eq_zero h0
      · obtain ⟨ad, h, _⟩ := HR0.out.2.2 h0
        cases h
    have E0 := Aside0.mk e0
    clear e0
    simp only [Option.isNone_none] at heq
    go_enter Try.func30, Try.ntmps30
    go_wp2_with fail
    go_ret
    refine ⟨_, rfl, ?_, HB.out⟩
    rw [E0.out]
    exact own_nil _ _ _ _
  · simp only [Option.isNone_some] at heq
    go_enter Try.func30, Try.ntmps30
    go_wp2_with (first | ((with_reducible refine gate_builtin (b := .append) (xs := #[.tmp 5, .tmp 6]) rfl ?_); at_builtin; refine Kd.R_append_rows (Kd.int .u8) (w0 := w) w.heap.size rfl (.tmp 5) (.tmp 6) 29 5 (.int .u8 0) 1 rfl Try.underlying29 info5' rfl (by decide) (by omega) (.slice (some ⟨w.heap.size, 0, none⟩) 0 0) [] l0 _ _ _ (fun _ => True) (fun _ => False) rfl rfl ?aO ?aR (fun _ _ h => h) (fun _ h => h.elim) ?aF ?aB ?aS ?aL ?_; (case aO => exact ⟨fun _ _ => trivial, OwnRow.lit (ps := ([] : List Int)) (inner := []) w w.heap.size (Reps.none _ _) (Nat.le_refl _) (by simp)⟩); (case aR => exact Kd.C_alloc HR0.out _); (case aF => exact fun _ _ => trivial); (case aB => exact below_alloc HB.out _); (case aS => simp); (case aL => have := HL.out; simp only [List.length_nil]; omega); intro v1 w1 ho hb hg hat; have HO := Aside0.mk ho; have HB1 := Aside0.mk hb; clear ho hb hg hat))
    go_ret
    exact ⟨_, rfl, own_of_R HO.out, HB1.out⟩

/-! ### Send -/
set_option maxHeartbeats 4000000 in
theorem Send.nil (i j : Int) (A : Option Addr) (n c : Nat) (w : World) : Calls Try.prog 9 #[.pointer none, .int .i64 i, .int .i64 j, .slice A n c] w fun e w' => e = .returned (.tuple #[.int .i64 0, .bool false]) ∧ w = w' := by
  go_enter Try.func9, Try.ntmps9
  go_wp2
  go_ret2
  exact ⟨rfl, rfl⟩

theorem NetAt.drewN {w : World} {B p : Nat} {most next : Int} {l : List (Gr × Value)} {v : Value} (h : NetAt w B p most next l v) (n : Nat) : NetAt (w.drewN n) B p most next l v := h.move fun _ _ => rfl
/-- Behind the count: the next number has risen. -/
theorem NetAt.rise {w : World} {B p : Nat} {most next : Int} {l : List (Gr × Value)} {v : Value} (h : NetAt w B p most next l v) (n' : Int) : NetAt (w.setCell ⟨p, 1, none⟩ (.int .i64 n')) B p most n' l v := by
  have hv : ∀ k, v.ownBlock = some k → k ≠ p := by
    intro k hk he
    obtain ⟨cells, hc⟩ := own_typed h.row k hk
    rw [he, h.cell] at hc
    cases hc
  have hf : ∀ x ∈ l, ∀ k, x.2.ownBlock = some k → k ≠ p := by
    intro x hx k hk he
    obtain ⟨cells, hc⟩ := own_typed (h.frames x hx) k hk
    rw [he, h.cell] at hc
    cases hc
  refine ⟨?_, h.low, own_move h.row (fun k hk => Below.heap_setCell w _ _ k (hv k hk)), fun x hx => own_move (h.frames x hx) (fun k hk => Below.heap_setCell w _ _ k (hf x hx k hk)), h.apart⟩
  rw [heap_setCell_same w p 1 _ 63 _ h.cell]
  rfl

set_option maxHeartbeats 4000000 in
set_option maxRecDepth 100000 in
theorem Send.full {w : World} {B p : Nat} {most next : Int} {l : List (Gr × Value)} {v : Value} (w0 : World) (hB : Below B w0 w) (h : NetAt w B p most next l v) (i j : Int) (A : Option Addr) (n c : Nat) (hm : (l.length : Int) = most) (hn0 : 0 ≤ next) (hn1 : next ≤ 1000000) :
    Calls Try.prog 9 #[.pointer (some ⟨p, 0, none⟩), .int .i64 i, .int .i64 j, .slice A n c] w fun e w' => e = .returned (.tuple #[.int .i64 next, .bool false]) ∧ NetAt w' B p most (next + 1) l v ∧ Kept w w' (foot p v l) ∧ Below B w0 w' := by
  have HB := Aside0.mk (Below.setCell hB h.low (p := ⟨p, 1, none⟩) (.int .i64 (next + 1)))
  have HN := Aside0.mk (h.rise (next + 1))
  obtain ⟨A1, c1, rfl, hc⟩ := h.slice
  have f0 := h.f0
  have f1 := h.f1
  have f2 := h.f2
  have r1 := h.fr 1
  have hb : ((l.length : Int) == most) = true := by rw [hm]; exact beq_self_eq_true _
  have HM := Aside0.mk hm
  clear h hc hm
  go_enter Try.func9, Try.ntmps9
  go_wp2
  go_quiet (fail)
  go_wp2
  go_ret2
  exact ⟨rfl, HN.out.drewN _, ((Kept.refl w _).setCell (p := ⟨p, 1, none⟩) (.inl (.inl rfl)) _).drewN _, pw_below_drewN HB.out _⟩

theorem NetAt.p_ne_row {w : World} {B p : Nat} {most next : Int} {l : List (Gr × Value)} {v : Value} (h : NetAt w B p most next l v) : some p ≠ v.ownBlock := own_ne h.row h.cell (by decide)
/-- Behind a send: the row has grown by one, in place or in a new block. -/
theorem NetAt.sent {w2 w3 w4 : World} {B p : Nat} {most next : Int} {l : List (Gr × Value)} {v v4 fv : Value} {x : Gr} (h2 : NetAt w2 B p most next l v) (hb3 : Below w2.heap.size w2 w3) (hfv : w3.ownsRow w2.heap.size 5 1 fv x.frame.length (nums .u8 x.frame))
    (ho4 : w4.ownsRow B 31 5 v4 (l.length + 1) (rowG l ++ cellsG (x, fv))) (hg4 : w3.grownBy w4 v.ownBlock) :
    NetAt (w4.setCell ⟨p, 2, none⟩ v4) B p most next (l ++ [(x, fv)]) v4 ∧ w4.cell? ⟨p, 2, none⟩ = some v ∧ w4.frozen? ⟨p, 2, none⟩ = false := by
  have h3 := h2.below hb3
  have c4 := blk_grown h3.cell hg4 h3.p_ne_row
  have hB2 : B ≤ w2.heap.size := Nat.le_trans h2.low (Nat.le_of_lt (h2.foot_lt p (.inl rfl)))
  have tofr : ∀ {B'} {u : Value} {n : Nat} {xs : List Value}, w3.ownsRow B' 5 1 u n xs → B ≤ B' → (w4.setCell ⟨p, 2, none⟩ v4).ownsRow B 5 1 u n xs := by
    intro B' u n xs hu hle
    have h1 := own_other (own_weaken hu hle) hg4 (own_type_ne hu h3.row (by decide))
    exact own_setCell h1 (own_ne h1 c4 (by decide)) _
  refine ⟨⟨?_, h2.low, ?_, ?_, ?_⟩, ?_, ?_⟩
  · rw [heap_setCell_same w4 p 2 _ 63 _ c4]
    rfl
  · rw [rowG_append, rowG_one, List.length_append]
    exact own_setCell ho4 (own_ne ho4 c4 (by decide)) _
  · intro y hy
    rcases List.mem_append.1 hy with hy | hy
    · exact tofr (h3.frames y hy) (Nat.le_refl _)
    · rw [List.mem_singleton.1 hy]
      exact tofr hfv hB2
  · refine List.pairwise_append.2 ⟨h2.apart, List.pairwise_singleton _ _, ?_⟩
    intro a ha b hb k hk hk'
    rw [List.mem_singleton.1 hb] at hk'
    have h1 := own_lt (h2.frames a ha) k hk
    have h5 := own_base hfv k hk'
    omega
  · rw [cell_of_row w4 p 2 _ _ _ c4]
    rfl
  · simp [World.frozen?, c4]

set_option maxHeartbeats 4000000 in
set_option maxRecDepth 100000 in
/-- Ahead of the append: the next number has risen, the room is there. -/
theorem Send.room {w : World} {B p : Nat} {most next : Int} {l : List (Gr × Value)} {v : Value} (w0 : World) (hB : Below B w0 w) (h : NetAt w B p most next l v) (i j : Int) (A : Option Addr) (xs : List Int) (c : Nat) (hr : ∀ w', Kept w w' (foot p v l) → Kd.C (Kd.int .u8) w' A xs.length xs) (hc0 : xs.length ≤ c) (hx : xs.length ≤ 100000) (hm : ¬ (l.length : Int) = most) (hl : l.length ≤ 100000) (hn0 : 0 ≤ next) (hn1 : next ≤ 1000000) :
    Calls Try.prog 9 #[.pointer (some ⟨p, 0, none⟩), .int .i64 i, .int .i64 j, .slice A xs.length c] w fun e w' => ∃ v' fv, e = .returned (.tuple #[.int .i64 next, .bool true]) ∧ NetAt w' B p most (next + 1) (l ++ [(⟨next, i, j, xs, false⟩, fv)]) v' ∧ Kept w w' (foot p v l) ∧ Below B w0 w' ∧ (∀ k, foot p v' (l ++ [(⟨next, i, j, xs, false⟩, fv)]) k → foot p v l k ∨ w.heap.size ≤ k) := by
  have HN := Aside0.mk (h.rise (next + 1))
  obtain ⟨A1, c1, rfl, hc⟩ := h.slice
  have f0 := h.f0
  have f1 := h.f1
  have f2 := h.f2
  have r1 := h.fr 1
  have hb : ((l.length : Int) == most) = false := beq_eq_false_iff_ne.2 hm
  have HM := Aside0.mk hm
  have HR := Aside0.mk hr
  have HC := Aside0.mk hc0
  have HX := Aside0.mk hx
  have HL := Aside0.mk hl
  have HB := Aside0.mk hB
  have HH := Aside0.mk h
  clear h hc hm hr hc0 hx hl hB
  go_enter Try.func9, Try.ntmps9
  go_wp2
  go_quiet (fail)
  go_wp2_with fail
  have HN1 := Aside0.mk (HN.out.drewN nq)
  have HK1 : Aside0 (Kept w ((w.setCell ⟨p, 1, none⟩ (.int .i64 (next + 1))).drewN nq) (foot p (.slice A1 l.length c1) l)) := ⟨((Kept.refl w _).setCell (p := ⟨p, 1, none⟩) (.inl (.inl rfl)) _).drewN _⟩
  have HB1 : Aside0 (Below B w0 ((w.setCell ⟨p, 1, none⟩ (.int .i64 (next + 1))).drewN nq)) := ⟨pw_below_drewN (Below.setCell HB.out HH.out.low _) _⟩
  generalize hW : (w.setCell ⟨p, 1, none⟩ (.int .i64 (next + 1))).drewN nq = W at *
  have g2 := HN1.out.f2
  have gz := HN1.out.fr 2
  have glt := World.block_lt_of_cell? W ⟨p, 2, none⟩ g2
  clear hW f0 f1 f2 r1 HN
  refine start_ (n := 16) (S := fun w' => w'.cell? ⟨p, 2, none⟩ = some (.slice A1 l.length c1)) (ds := [15]) #[false, false, false, false, false, false, false, false, false, false, false, false, false, false, false, false] (by kernel_rfl) rfl rfl g2 (fun hHeld => ?_)
  have HN2 := Aside0.mk (HN1.out.drewN 1)
  have HK2 : Aside0 (Kept w W.drew (foot p (.slice A1 l.length c1) l)) := ⟨HK1.out.drewN 1⟩
  have HB2 : Aside0 (Below B w0 W.drew) := ⟨pw_below_drewN HB1.out 1⟩
  have glt2 : p < W.drew.heap.size := glt
  have hBs : B ≤ W.drew.heap.size := Nat.le_trans HH.out.low (Nat.le_of_lt glt2)
  generalize hW2 : W.drew = W2 at *
  have HN2 : Aside0 (NetAt W2 B p most (next + 1) l (.slice A1 l.length c1)) := ⟨by rw [← hW2]; exact HN1.out.drewN 1⟩
  clear hW2
  refine pure_ (i := 0) (N := (some 35)) (v := ?_) (a' := ?_) #[true, false, false, false, false, false, false, false, false, false, false, false, false, false, false, false] rfl rfl (by kernel_rfl) (fun _ _ _ h => h) (Or.inl ⟨by rfl, ?_⟩) ?_ ?_
  rotate_left
  · intro w'
    go_simp
    with_reducible rfl
  rotate_left
  · simp only [Act.put, List.setIfInBounds_toArray, List.set_cons_zero, List.set_cons_succ, i64_w, i32_w]
    rfl
  refine pure_ (i := 1) (N := (some 36)) (v := ?_) (a' := ?_) #[true, true, false, false, false, false, false, false, false, false, false, false, false, false, false, false] rfl rfl (by kernel_rfl) (fun _ _ _ h => h) (Or.inl ⟨by rfl, ?_⟩) ?_ ?_
  rotate_left
  · intro w'
    go_simp
    with_reducible rfl
  rotate_left
  · simp only [Act.put, List.setIfInBounds_toArray, List.set_cons_zero, List.set_cons_succ, i64_w, i32_w]
    rfl
  refine pure_ (i := 2) (N := (some 37)) (v := ?_) (a' := ?_) #[true, true, true, false, false, false, false, false, false, false, false, false, false, false, false, false] rfl rfl (by kernel_rfl) (fun _ _ _ h => h) (Or.inl ⟨by rfl, ?_⟩) ?_ ?_
  rotate_left
  · intro w'
    go_simp
    with_reducible rfl
  rotate_left
  · simp only [Act.put, List.setIfInBounds_toArray, List.set_cons_zero, List.set_cons_succ, i64_w, i32_w]
    rfl
  refine pure_ (i := 3) (N := (some 38)) (v := ?_) (a' := ?_) #[true, true, true, true, false, false, false, false, false, false, false, false, false, false, false, false] rfl rfl (by kernel_rfl) (fun _ _ _ h => h) (Or.inl ⟨by rfl, ?_⟩) ?_ ?_
  rotate_left
  · intro w'
    go_simp
    with_reducible rfl
  rotate_left
  · simp only [Act.put, List.setIfInBounds_toArray, List.set_cons_zero, List.set_cons_succ, i64_w, i32_w]
    rfl
  refine pure_ (i := 5) (N := (some 40)) (v := ?_) (a' := ?_) #[true, true, true, true, false, true, false, false, false, false, false, false, false, false, false, false] rfl rfl (by kernel_rfl) (fun _ _ _ h => h) (Or.inl ⟨by rfl, ?_⟩) ?_ ?_
  rotate_left
  · intro w'
    go_simp
    with_reducible rfl
  rotate_left
  · simp only [Act.put, List.setIfInBounds_toArray, List.set_cons_zero, List.set_cons_succ, i64_w, i32_w]
    rfl
  refine pure_ (i := 6) (N := (some 41)) (v := ?_) (a' := ?_) #[true, true, true, true, false, true, true, false, false, false, false, false, false, false, false, false] rfl rfl (by kernel_rfl) (fun _ _ _ h => h) (Or.inl ⟨by rfl, ?_⟩) ?_ ?_
  rotate_left
  · intro w'
    go_simp
    with_reducible rfl
  rotate_left
  · simp only [Act.put, List.setIfInBounds_toArray, List.set_cons_zero, List.set_cons_succ, i64_w, i32_w]
    rfl
  refine pure_ (i := 7) (N := (some 42)) (v := ?_) (a' := ?_) #[true, true, true, true, false, true, true, true, false, false, false, false, false, false, false, false] rfl rfl (by kernel_rfl) (fun _ _ _ h => h) (Or.inl ⟨by rfl, ?_⟩) ?_ ?_
  rotate_left
  · intro w'
    go_simp
    with_reducible rfl
  rotate_left
  · simp only [Act.put, List.setIfInBounds_toArray, List.set_cons_zero, List.set_cons_succ, i64_w, i32_w]
    rfl
  refine pure_ (i := 8) (N := (some 43)) (v := ?_) (a' := ?_) #[true, true, true, true, false, true, true, true, true, false, false, false, false, false, false, false] rfl rfl (by kernel_rfl) (fun _ _ _ h => h) (Or.inl ⟨by rfl, ?_⟩) ?_ ?_
  rotate_left
  · intro w'
    go_simp
    with_reducible rfl
  rotate_left
  · simp only [Act.put, List.setIfInBounds_toArray, List.set_cons_zero, List.set_cons_succ, i64_w, i32_w]
    rfl
  refine take_ (i := 4) (N := (some 39)) (v := ?_) (a' := ?_) #[true, true, true, true, true, true, true, true, true, false, false, false, false, false, false, false] rfl rfl (by kernel_rfl) (fun _ _ _ h => h) (Or.inl ⟨by rfl, ?_⟩) hHeld ?_ ?_
  rotate_left
  · rintro w' s0
    go_simp
    with_reducible rfl
  rotate_left
  · simp only [Act.put, List.setIfInBounds_toArray, List.set_cons_zero, List.set_cons_succ, i64_w, i32_w]
    rfl
  refine one_ (i := 9) (N := (some 44)) #[true, true, true, true, true, true, true, true, true, true, false, false, false, false, false, false] rfl rfl (by kernel_rfl) (by decide) (fun K hK => ?_)
  refine goes_ Try.func30 (by kernel_rfl) rfl #[.slice A xs.length c] (by rfl) rfl rfl (by (try simp only [List.map_toArray, List.map_cons, List.map_nil]); first | done | rfl) ?_
  refine (Clone.bytes A c xs _ ?c1 HC.out HX.out).mono ?_
  (case c1 => exact HR.out _ HK2.out)
  rintro e w3 ⟨fv, rfl, hfv, hb3⟩
  obtain ⟨Af, cf, rfl⟩ := own_slice hfv
  have k3 : w3.cell? ⟨p, 2, none⟩ = some (.slice A1 l.length c1) := (hb3.cell (p := ⟨p, 2, none⟩) glt2).trans hHeld
  refine ⟨_, rfl, ?_⟩
  refine hK.out _ _ k3 (fun hHeld => ?_)
  clear hK K
  refine norm_ (a' := ?_) ?_ ?_
  rotate_left
  · show Act.put _ (some 44) _ = _
    simp only [Act.put, List.setIfInBounds_toArray, List.set_cons_zero, List.set_cons_succ, i64_w, i32_w]
    rfl
  refine pure_ (i := 10) (N := (some 45)) (v := ?_) (a' := ?_) #[true, true, true, true, true, true, true, true, true, true, true, false, false, false, false, false] rfl rfl (by kernel_rfl) (fun _ _ _ h => h) (Or.inl ⟨by rfl, ?_⟩) ?_ ?_
  rotate_left
  · intro w'
    go_simp
    with_reducible rfl
  rotate_left
  · simp only [Act.put, List.setIfInBounds_toArray, List.set_cons_zero, List.set_cons_succ, i64_w, i32_w]
    rfl
  refine one_ (i := 11) (N := (some 46)) #[true, true, true, true, true, true, true, true, true, true, true, true, false, false, false, false] rfl rfl (by kernel_rfl) (by decide) (fun K hK => ?_)
  refine value_ rfl rfl (by go_simp; exact ⟨rfl, rfl⟩) ?_
  have n3 := World.new_ne w3 ⟨p, 2, none⟩ k3
  refine hK.out _ _ (by go_keep) (fun hHeld => ?_)
  clear hK K
  refine norm_ (a' := ?_) ?_ ?_
  rotate_left
  · show Act.put _ (some 46) _ = _
    simp only [Act.put, List.setIfInBounds_toArray, List.set_cons_zero, List.set_cons_succ, i64_w, i32_w]
    rfl
  refine one_ (i := 12) (N := (some 47)) #[true, true, true, true, true, true, true, true, true, true, true, true, true, false, false, false] rfl rfl (by kernel_rfl) (by decide) (fun K hK => ?_)
  refine step_append_cells (w0 := w0) B (by rfl) (.tmp 39) (.tmp 46) 54 31 _ 5 56 (by rfl) Try.underlying54 info31' rfl (by decide) (by decide) (.slice A1 l.length c1) l.length (rowG l) [.int .i64 next, .int .i64 i, .int .i64 j, .slice Af xs.length cf, .bool false] (by rfl) (by rfl) rfl ?h1 (HN2.out.below hb3).row (below_then HB2.out hBs hb3) (Nat.le_trans hBs hb3.size) ?hl ?_
  (case h1 => intro u hu; simp only [List.mem_cons, List.not_mem_nil, or_false] at hu; rcases hu with rfl | rfl | rfl | rfl | rfl <;> rfl)
  (case hl => have := HL.out; omega)
  intro v4 w4 ho4 hb4 hg4 hat4
  obtain ⟨A4, c4, rfl⟩ := own_slice ho4
  obtain ⟨hs1, hs2, hs3⟩ := HN2.out.sent (x := ⟨next, i, j, xs, false⟩) hb3 hfv ho4 hg4
  have HS := Aside0.mk hs1
  clear hs1 n3 k3 hHeld
  refine hK.out _ _ hs2 (fun hHeld => ?_)
  clear hK K
  refine norm_ (a' := ?_) ?_ ?_
  rotate_left
  · show Act.put _ (some 47) _ = _
    simp only [Act.put, List.setIfInBounds_toArray, List.set_cons_zero, List.set_cons_succ, i64_w, i32_w]
    rfl
  refine pure_ (i := 13) (N := (some 48)) (v := ?_) (a' := ?_) #[true, true, true, true, true, true, true, true, true, true, true, true, true, true, false, false] rfl rfl (by kernel_rfl) (fun _ _ _ h => h) (Or.inl ⟨by rfl, ?_⟩) ?_ ?_
  rotate_left
  · intro w'
    go_simp
    with_reducible rfl
  rotate_left
  · simp only [Act.put, List.setIfInBounds_toArray, List.set_cons_zero, List.set_cons_succ, i64_w, i32_w]
    rfl
  refine pure_ (i := 14) (N := (some 49)) (v := ?_) (a' := ?_) #[true, true, true, true, true, true, true, true, true, true, true, true, true, true, true, false] rfl rfl (by kernel_rfl) (fun _ _ _ h => h) (Or.inl ⟨by rfl, ?_⟩) ?_ ?_
  rotate_left
  · intro w'
    go_simp
    with_reducible rfl
  rotate_left
  · simp only [Act.put, List.setIfInBounds_toArray, List.set_cons_zero, List.set_cons_succ, i64_w, i32_w]
    rfl
  refine last_ (i := 15) (N := none) #[true, true, true, true, true, true, true, true, true, true, true, true, true, true, true, true] rfl rfl (by kernel_rfl) (by decide) (fun K hK => ?_)
  refine skip_ rfl rfl (by go_simp; rfl) ?_
  refine hK.out _ _ ?_
  clear hK K
  refine done_ (by kernel_rfl) ?_
  go_wp2
  go_ret2
  refine ⟨rfl, _, _, HS.out, ?_, Below.setCell hb4 HH.out.low _, ?_⟩
  · refine Kept.setCell (Kept.of_grown hg4 (HK2.out.below hb3) ?_) (.inl (.inl rfl)) _
    exact fun k hk => .inl (.inr (.inl hk))
  · intro k hk
    have z1 := HK2.out.1
    have z2 := hb3.size
    rcases hk with rfl | hk | ⟨x, hx, hk⟩
    · exact .inl (.inl rfl)
    · rcases hat4 with hat4 | ⟨b, hat4, hle⟩
      · exact .inl (.inr (.inl (hat4 ▸ hk)))
      · rw [hk] at hat4
        injection hat4 with hat4
        exact .inr (by omega)
    · rcases List.mem_append.1 hx with hx | hx
      · exact .inl (.inr (.inr ⟨x, hx, hk⟩))
      · rw [List.mem_singleton.1 hx] at hk
        have := own_base hfv k hk
        exact .inr (by omega)
end Go.Proofs.Ytkomemnalpmbcaa.Nt
