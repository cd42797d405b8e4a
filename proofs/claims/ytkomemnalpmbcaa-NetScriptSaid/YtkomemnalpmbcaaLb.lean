/- LendBytes and KeptBytes: a copy with three marked runes of spare room; whether it is as it was. -/
import Derived.Test.YtkomemnalpmbcaaRw
import Derived.Test.YtkomemnalpmbcaaNl
import Derived.Deep.DeepAppendRoom
import Derived.WalkSpells
import Derived.Outline
set_option linter.unusedVariables false
set_option linter.unusedSimpArgs false
namespace Go.Proofs.Ytkomemnalpmbcaa.Nt
open Go.RowKit Go.Proofs.YtkomemnalpmbcaaW.PrintWords Go.Proofs.YtkomemnalpmbcaaW.PrintLast Go.Proofs.YtkomemnalpmbcaaW.PrintMore
attribute [local go_sem] max2_int min2_int max_two min_two max_three min_three max_four min_four

/-- A row that was lent: block g holds the runes and three marks behind them. -/
def Lent (w : World) (g : Nat) (l : List Int) : Prop := ∃ cur : Array Value, w.heap[g]? = some (.cells cur 5 (0, 0)) ∧ cur.toList = nums .u8 (l ++ [119, 119, 119])
theorem Lent.below {w w' : World} {g : Nat} {l : List Int} (h : Lent w g l) (hb : Below w.heap.size w w') : Lent w' g l := by
  obtain ⟨cur, hc, hl⟩ := h
  exact ⟨cur, (hb.block g (Array.getElem?_eq_some_iff.1 hc).1).trans hc, hl⟩
theorem Lent.at_ {w : World} {g : Nat} {l : List Int} (h : Lent w g l) (j : Nat) (hj : j < l.length + 3) : w.cell? ⟨g, j, none⟩ = some (.int .u8 ((l ++ [119, 119, 119]).getD j 0)) := by
  obtain ⟨cur, hc, hl⟩ := h
  have hj' : j < (l ++ [119, 119, 119]).length := by rw [List.length_append]; exact hj
  rw [cell_of_row w g j cur 5 (0, 0) hc, ← Array.getElem?_toList, hl, nums, List.getElem?_map, List.getD_eq_getElem?_getD, List.getElem?_eq_getElem hj']
  rfl
theorem Lent.mark {w : World} {g : Nat} {l : List Int} (h : Lent w g l) {j : Nat} (hj : j < 3) : w.cell? ⟨g, l.length + j, none⟩ = some (.int .u8 (119)) := by
  rw [h.at_ (l.length + j) (by omega)]
  rcases (show j = 0 ∨ j = 1 ∨ j = 2 by omega) with rfl | rfl | rfl <;> simp [List.getD_eq_getElem?_getD, List.getElem?_append_right]
theorem Lent.reads {w : World} {g : Nat} {l : List Int} (h : Lent w g l) (hl : l.length ≤ 1000) : Kd.C (Kd.int .u8) w (some ⟨g, 0, none⟩) l.length l := by
  refine Kd.C_of_reads (d := (0 : Int)) (h1 := fun _ => rfl) ⟨rfl, by omega, fun _ => ⟨_, rfl, fun j hj => ?_⟩⟩
  have e := h.at_ j (by omega)
  rw [add_plain, e]
  simp [List.getD_eq_getElem?_getD, List.getElem?_append_left hj]

theorem info5l : (Try.prog.info? 5).map (fun i => (i.zero, i.size, i.bytes)) = some (some (.int .u8 0), 1, 1) := by kernel_rfl

/-- Midway: k of the three marks are laid. -/
def Marked (w : World) (g : Nat) (l : List Int) (k : Nat) : Prop := w.heap[g]? = some (.cells (nums .u8 (l ++ (List.replicate k (119) ++ List.replicate (3 - k) 0))).toArray 5 (0, 0))
theorem Marked.cell {w : World} {g : Nat} {l : List Int} {k : Nat} (h : Marked w g l k) (hk : k < 3) : w.cell? ⟨g, l.length + k, none⟩ = some (.int .u8 0) ∧ w.frozen? ⟨g, l.length + k, none⟩ = false := by
  constructor
  · rw [cell_of_row w g _ _ 5 (0, 0) h]
    obtain ⟨m, hm⟩ : ∃ m, 3 - k = m + 1 := ⟨2 - k, by omega⟩
    simp [nums, List.getElem?_append_right, hm, List.replicate_succ]
  · unfold Marked at h
    simp [World.frozen?, h]
theorem Marked.store {w : World} {g : Nat} {l : List Int} {k : Nat} (h : Marked w g l k) (hk : k < 3) : Marked (w.setCell ⟨g, l.length + k, none⟩ (.int .u8 (119))) g l (k + 1) := by
  unfold Marked at *
  rw [heap_setCell_same w g _ _ 5 _ h]
  congr 2
  apply Array.ext'
  obtain ⟨m, hm⟩ : ∃ m, 3 - k = m + 1 := ⟨2 - k, by omega⟩
  have hm' : 3 - (k + 1) = m := by omega
  rw [hm, hm']
  have e1 : (nums .u8 (l ++ (List.replicate k (119) ++ List.replicate (m + 1) 0))).set (l.length + k) (.int .u8 (119)) = nums .u8 ((l ++ (List.replicate k (119) ++ List.replicate (m + 1) 0)).set (l.length + k) (119)) := by simp only [nums, List.map_set]
  have e2 : (l ++ (List.replicate k (119) ++ List.replicate (m + 1) 0)).set (l.length + k) (119 : Int) = l ++ (List.replicate (k + 1) (119) ++ List.replicate m 0) := by
    rw [List.set_append_right _ _ (by omega), Nat.add_sub_cancel_left, List.set_append_right _ _ (by simp), List.length_replicate, Nat.sub_self, List.replicate_succ (n := m), List.set_cons_zero, List.replicate_succ' (n := k), List.append_assoc]
    rfl
  simp only [Array.toList_setIfInBounds]
  rw [e1, e2]
theorem Marked.lent {w : World} {g : Nat} {l : List Int} (h : Marked w g l 3) : Lent w g l := ⟨_, h, rfl⟩
/-- append, its run being known. -/
theorem wpList_append_run {P : Program} {ops : Array Oper} {rest : List Oper} {o : Oper} {a : Act} {Q : Exit → Act → World → Prop} {W w1 : World} (hgd : o.guard = none) (s x : Operand) (t : TypeId)
    (ho : o.op = .call { callee := .builtin .append, args := #[s, x], argTypes := #[t, t] }) (v vx v1 : Value) (hs : a.eval s = v) (hx : a.eval x = vx) (hrun : (Builtin.append_ #[t, t] o.type #[v, vx]).run P W = .ok v1 w1)
    (h : wpList P ops Q rest (a.put o.dst v1) w1) : wpList P ops Q (o :: rest) a W :=
  wpList_plain hgd fun _ hK => by
    unfold Oper.wp execOp
    simp only [ho, resolve, invoke, builtin, Sem.run_bind, Sem.run_pure, Result.andThen_ok, List.map_toArray, List.map_cons, List.map_nil, hs, hx, hrun]
    exact hK _ _ h

theorem reps_nums {w : World} {l : List Int} {cs : List Value} (h : Reps ((Kd.int .u8).K w) (Kd.int .u8).sz l cs) : cs = nums .u8 l := by
  have hl : cs.length = l.length := by rw [h.1]; exact Nat.mul_one _
  apply List.ext_getElem
  · rw [hl, nums_length]
  · intro i h1 h2
    have h3 : i < l.length := by omega
    have e := h.2 i l[i] (List.getElem?_eq_getElem h3)
    have e2 : ((cs.drop (i * 1)).take 1) = [Value.int .u8 l[i]] := e
    rw [Nat.mul_one, List.drop_eq_getElem_cons h1] at e2
    simp only [List.take_succ_cons, List.take_zero, List.cons.injEq, and_true] at e2
    rw [e2]
    simp [nums]

/-- What the copy leaves: the runes, and three zeros. -/
theorem lend_copy (A0 : Option Addr) (c0 : Nat) (l0 : List Int) (w W : World) (hW : W = w.alloc (.cells (madeCells #[.int .u8 0] (l0.length + 3)) 5)) (hr0 : Kd.C (Kd.int .u8) w A0 l0.length l0) :
    ∃ w1, (Builtin.append_ #[29, 29] 29 #[.slice (some ⟨w.heap.size, 0, none⟩) 0 (l0.length + 3), .slice A0 l0.length c0]).run Try.prog W = .ok (.slice (some ⟨w.heap.size, 0, none⟩) l0.length (l0.length + 3)) w1 ∧
      w1.heap[w.heap.size]? = some (.cells (nums .u8 (l0 ++ [0, 0, 0])).toArray 5 (0, 0)) ∧ Below w.heap.size w w1 := by
  obtain ⟨i0, hi, hzz⟩ := Option.map_eq_some_iff.1 info5l
  simp only [Prod.mk.injEq] at hzz
  obtain ⟨hz0, hz1, hz2⟩ := hzz
  have hg : W.heap[w.heap.size]? = some (.cells (madeCells #[.int .u8 0] (l0.length + 3)) 5 (0, 0)) := by rw [hW]; exact heap_alloc_new w _
  have hB : Below w.heap.size w W := by rw [hW]; exact below_alloc (Below.refl _ _) _
  have hmade : (madeCells #[Value.int .u8 0] (l0.length + 3)).toList = List.replicate (l0.length + 3) (Value.int .u8 0) := by
    apply List.ext_getElem
    · simp [madeCells]
    · intro i h1 h2
      simp [madeCells, Nat.mod_one]
  rcases A0 with _ | ad
  · have e0 : l0 = [] := by
      rcases Nat.eq_zero_or_pos l0.length with h0 | h0
      · exact List.eq_nil_of_length_eq_zero h0
      · obtain ⟨ad, h, _⟩ := hr0.2.2 h0
        cases h
    subst e0
    refine ⟨W, ?_, ?_, hB⟩
    · simp [Builtin.append_, run_underlying Try.underlying29, sizeOf, typeInfo, hi, Builtin.lenOf, Builtin.firstCells, storeCells]
    · rw [hg]
      congr 2
      apply Array.ext'
      rw [hmade]
      simp [nums]
  · obtain ⟨news, hnr, hnc⟩ := ReadsRow.inner_ hr0
    have hnews : news = nums .u8 l0 := reps_nums hnr
    subst hnews
    have hr := run_append_room (P := Try.prog) W 29 29 5 i0 Try.underlying29 hi w.heap.size 0 (l0.length + 3) _ hg ad l0.length c0 (nums .u8 l0) (by rw [nums_length, hz1, Nat.mul_one]) (fun j u hu => by
      have := hnc j u hu
      rw [hW]
      exact (pw_cell_below (below_alloc (Below.refl _ _) _) this)) (by
      intro u hu
      simp only [nums, List.mem_map] at hu
      obtain ⟨x, _, rfl⟩ := hu
      rfl) (by omega) (by rw [nums_length, size_madeCells]; omega)
    rw [Nat.zero_add] at hr
    refine ⟨_, hr, ?_, ?_⟩
    · rw [setRow_heap W w.heap.size _ _ 5 _ hg]
      congr 2
      rw [hmade]
      simp [nums]
    · refine hB.trans ⟨rfl, rfl, rfl, by simp, fun k hk => setRow_other W w.heap.size k _ (by omega)⟩

set_option maxHeartbeats 8000000 in
set_option maxRecDepth 100000 in
theorem LendBytes.calls (A0 : Option Addr) (c0 : Nat) (l0 : List Int) (w : World) (hr0 : Kd.C (Kd.int .u8) w A0 l0.length l0) (hc0 : l0.length ≤ c0) (hl : l0.length ≤ 1000) :
    Calls Try.prog 20 #[.slice A0 l0.length c0] w fun e w' => ∃ g, e = .returned (.slice (some ⟨g, 0, none⟩) l0.length (l0.length + 3)) ∧ Lent w' g l0 ∧ w.heap.size ≤ g ∧ Below w.heap.size w w' := by
  have HR0 := Aside0.mk hr0
  have HC0 := Aside0.mk hc0
  clear hr0 hc0
  have HB := Aside0.mk (Below.refl w.heap.size w)
  have hmk : ∀ W : World, (Instr.makeSlice 29 (.int .i64 0) (.int .i64 ((l0.length : Int) + 3))).run Try.prog W = .ok (.slice (some ⟨W.heap.size, 0, none⟩) 0 (l0.length + 3)) (W.alloc (.cells (madeCells #[.int .u8 0] (l0.length + 3)) 5)) := by
    intro W
    obtain ⟨i0, hi, hzz⟩ := Option.map_eq_some_iff.1 info5l
    simp only [Prod.mk.injEq] at hzz
    obtain ⟨hz0, hz1, hz2⟩ := hzz
    have hr := run_make (P := Try.prog) W 29 5 i0 (.int .u8 0) Try.underlying29 hi hz0 .i64 .i64 0 ((l0.length : Int) + 3) (by omega) (by omega) (by rw [hz2]; omega) (by omega)
    have e : ((l0.length : Int) + 3).toNat = l0.length + 3 := by omega
    rw [e] at hr
    rw [hz1, Nat.mul_one] at hr
    exact hr
  obtain ⟨w1, happ, hblk, hB1⟩ := lend_copy A0 c0 l0 w _ rfl HR0.out
  have HA := Aside0.mk happ
  have HB1 := Aside0.mk hB1
  have HG := Aside0.mk hblk
  clear hB1 hblk HB happ
  go_enter Try.func20, Try.ntmps20
  go_wp2_with (at_builtin; refine wpList_append_run rfl (.tmp 10) (.tmp 11) 29 rfl _ _ _ rfl rfl HA.out ?_)
  go_loopw [5] (fun i wr => ∃ k : Nat, k ≤ 3 ∧ i = .int .i64 (k : Int) ∧ Aside0 (Marked wr w.heap.size l0 k) ∧ Aside0 (Below w.heap.size w wr)) (fun i _ => 3 - (intOf i).toNat)
  case atStart => exact ⟨0, by omega, rfl, ⟨HG.out⟩, HB1⟩
  case round =>
    obtain ⟨k, hk, rfl, HM, HB⟩ := hrel
    clear HA HG HB1 hmk HR0 HC0
    by_cases hlt : k < 3
    · obtain ⟨hc, hf⟩ := HM.out.cell hlt
      have HN := Aside0.mk (HM.out.store hlt)
      have HB2 : Aside0 (Below w.heap.size w (wr.setCell ⟨w.heap.size, l0.length + k, none⟩ (.int .u8 (119)))) := ⟨Below.setCell HB.out (Nat.le_refl _) _⟩
      go_wp2
      go_roundw
      case rel => exact ⟨k + 1, by omega, by go_num, HN, HB2⟩
      case measure => simp [intOf]; omega
    · have e : k = 3 := by omega
      subst e
      go_wp2
      go_ret
      exact ⟨_, rfl, HM.out.lent, Nat.le_refl _, HB.out⟩

set_option maxHeartbeats 8000000 in
set_option maxRecDepth 100000 in
theorem KeptBytes.calls (g : Nat) (l0 : List Int) (A1 : Option Addr) (c1 : Nat) (w : World) (hL : Lent w g l0) (hr1 : Kd.C (Kd.int .u8) w A1 l0.length l0) (hc1 : l0.length ≤ c1) (hl : l0.length ≤ 1000) :
    Calls Try.prog 22 #[.slice (some ⟨g, 0, none⟩) l0.length (l0.length + 3), .slice A1 l0.length c1] w fun e w' => e = .returned (.bool true) ∧ Below w.heap.size w w' := by
  have HL := Aside0.mk hL
  have HR1 := Aside0.mk hr1
  have HC1 := Aside0.mk hc1
  clear hL hr1 hc1
  go_enter Try.func22, Try.ntmps22
  go_wp2_with fail
  go_loopw [6] (fun i wr => ∃ j : Nat, j ≤ 3 ∧ i = .int .i64 (j : Int) ∧ Aside0 (Lent wr g l0) ∧ Aside0 (Below w.heap.size w wr)) (fun i _ => 3 - (intOf i).toNat)
  case atStart => exact ⟨0, by omega, rfl, HL, ⟨Below.refl _ _⟩⟩
  case round =>
    obtain ⟨j, hj, rfl, HM, HB⟩ := hrel
    by_cases hlt : j < 3
    · have hc := HM.out.mark hlt
      have hm : ((119 : Int) != 119) = false := rfl
      go_wp2
      go_roundw
      case rel => exact ⟨j + 1, by omega, by go_num, HM, HB⟩
      case measure => simp [intOf]; omega
    · have e : j = 3 := by omega
      subst e
      go_wp2_with (first | (go_at_call 11; refine (SameBytes.eq _ _ l0 _ _ l0 _ ?side1 ?side2 ?side3 ?side4 ?side5).mono ?_; (case side1 => exact HM.out.reads hl); (case side2 => omega); (case side3 => exact Kd.C_below HR1.out HB.out); (case side4 => exact HC1.out); (case side5 => omega); rintro e w9 ⟨rfl, hd⟩; have HB2 := Aside0.mk (below_step HB.out hd.below); clear HB hd))
      go_ret
      exact ⟨by simp, HB2.out⟩
end Go.Proofs.Ytkomemnalpmbcaa.Nt
