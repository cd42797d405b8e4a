/- NetNone. -/
import Derived.Test.YtkomemnalpmbcaaNg
import Derived.Test.YtkomemnalpmbcaaNf
set_option linter.unusedVariables false
set_option linter.unusedSimpArgs false
namespace Go.Proofs.Ytkomemnalpmbcaa.Nt
open Go.RowKit Go.Proofs.YtkomemnalpmbcaaW.PrintWords Go.Proofs.YtkomemnalpmbcaaW.PrintLast Go.Proofs.YtkomemnalpmbcaaW.PrintMore
attribute [local go_sem] max2_int min2_int max_two min_two max_three min_three max_four min_four
theorem bcell {W w1 : World} (hb : Below W.heap.size W w1) : (∀ b o, b < W.heap.size → w1.cell? ⟨b, o, none⟩ = W.cell? ⟨b, o, none⟩) ∧ (∀ b o, b < W.heap.size → w1.frozen? ⟨b, o, none⟩ = W.frozen? ⟨b, o, none⟩) :=
  ⟨fun b o h => hb.cell (p := ⟨b, o, none⟩) h, fun b o h => hb.frozen (p := ⟨b, o, none⟩) h⟩
/-- A block at its place reads as it read: its cells. -/
theorem blk_keep {w w' : World} {g : Nat} {o : Obj} (hb : Below w.heap.size w w') (h : w.heap[g]? = some o) : w'.heap[g]? = some o :=
  (hb.block g (Array.getElem?_eq_some_iff.1 h).1).trans h
theorem blk_alloc {w : World} {g : Nat} {o p : Obj} (h : w.heap[g]? = some o) : (w.alloc p).heap[g]? = some o := by
  have hl := (Array.getElem?_eq_some_iff.1 h).1
  simp only [World.alloc]
  rw [Array.getElem?_push_lt hl]
  exact h ▸ (Array.getElem?_eq_getElem hl).symm
theorem blk_new2 (w : World) (o p : Obj) : ((w.alloc o).alloc p).heap[w.heap.size + 1]? = some p := by
  have := heap_alloc_new (w.alloc o) p
  rwa [show (w.alloc o).heap.size = w.heap.size + 1 by simp] at this
def zg : Gr × Value := (⟨0, 0, 0, [], false⟩, .slice none 0 0)
theorem gramsZero {w : World} {g : Nat} {t : TypeId} (h : w.heap[g]? = some (.cells #[.int .i64 0, .int .i64 0, .int .i64 0, .slice none 0 0, .bool false] t (0, 0))) : GramsAt w (some ⟨g, 0, none⟩) [zg] := by
  refine ⟨fun _ => ⟨g, rfl, ?_⟩, ?_, ?_⟩
  · intro j x hx i u hu
    cases j with
    | succ j => simp at hx
    | zero =>
      simp only [List.getElem?_cons_zero, Option.some.injEq] at hx
      subst hx
      have := cell_of_row w g (0 * 5 + i) _ _ _ h
      rw [this]
      simp only [Nat.zero_mul, Nat.zero_add]
      simpa [zg] using hu
  · intro x hx
    rw [List.mem_singleton.1 hx]
    exact ⟨none, 0, rfl, Nat.le_refl _, Kd.C_nil _ _⟩
  · intro x hx
    rw [List.mem_singleton.1 hx]
    exact Nat.zero_le _
set_option maxHeartbeats 8000000 in
set_option maxRecDepth 100000 in
theorem NetNone.calls (a0 a1 a2 a3 : Int) (A : Option Addr) (n c : Nat) (w : World) : Calls Try.prog 6 #[.agg #[.int .i64 a0, .int .i64 a1, .int .i64 a2, .int .i64 a3, .slice A n c]] w fun e w' => e = .returned (.bool true) ∧ Below w.heap.size w w' := by
  by_cases h : 100 < n
  · have hI : (100 : Int) < (n : Int) := by omega
    go_enter Try.func6, Try.ntmps6
    go_wp2_with (first | (go_at_call 13; refine (awake.calls _).mono ?_; rintro e w8 ⟨rfl, hb⟩; have HB5 := Aside0.mk (below_step (below_alloc (Below.refl _ _) _) hb); clear hb))
    go_ret
    exact ⟨rfl, HB5.out⟩
  · have hI : ¬ (100 : Int) < (n : Int) := by omega
    have HR0 : Aside0 ((w.alloc (.cells #[.int .i64 a0, .int .i64 a1, .int .i64 a2, .int .i64 a3, .slice A n c] 42)).heap[w.heap.size]? = some (.cells #[.int .i64 a0, .int .i64 a1, .int .i64 a2, .int .i64 a3, .slice A n c] 42 (0, 0))) := ⟨heap_alloc_new w _⟩
    have HB0 : Aside0 (Below w.heap.size w (w.alloc (.cells #[.int .i64 a0, .int .i64 a1, .int .i64 a2, .int .i64 a3, .slice A n c] 42))) := ⟨below_alloc (Below.refl _ _) _⟩
    go_enter Try.func6, Try.ntmps6
    go_wp2_with (first | (go_at_call 9; refine (Send.nil a1 a2 A n c _).mono ?_; rintro e w1 ⟨rfl, rfl⟩) | ((with_reducible refine gate_callee (f := 10) rfl ?_); refine goesL_ _ rfl rfl Try.func10 (by kernel_rfl) rfl #[.pointer none, .int .i64 a1] rfl (by (try simp only [List.map_toArray, List.map_cons, List.map_nil]); first | done | rfl) ?_; refine (Deliver.nil a1 _).mono ?_; rintro e w2 ⟨rfl, hb⟩; have HB2 := Aside0.mk (below_step HB0.out hb); have hr := blk_keep hb HR0.out; have k2_0 : w2.cell? ⟨w.heap.size, 0, none⟩ = some (.int .i64 a0) := cell_of_row w2 _ 0 _ _ _ hr; have k2_1 : w2.cell? ⟨w.heap.size, 1, none⟩ = some (.int .i64 a1) := cell_of_row w2 _ 1 _ _ _ hr; have k2_2 : w2.cell? ⟨w.heap.size, 2, none⟩ = some (.int .i64 a2) := cell_of_row w2 _ 2 _ _ _ hr; have k2_3 : w2.cell? ⟨w.heap.size, 3, none⟩ = some (.int .i64 a3) := cell_of_row w2 _ 3 _ _ _ hr; have k2_4 : w2.cell? ⟨w.heap.size, 4, none⟩ = some (.slice A n c) := cell_of_row w2 _ 4 _ _ _ hr; have HR2 := Aside0.mk hr; have lt2 : w.heap.size < w2.heap.size := World.block_lt_of_cell? w2 _ k2_1; clear hb hr; refine ⟨.tuple #[.agg #[.int .i64 0, .int .i64 0, .int .i64 0, .slice none 0 0, .bool false], .bool false], rfl, ?_⟩) | (go_at_call 15; refine (Drop.nil a1 _).mono ?_; rintro e w3 ⟨rfl, hb⟩; have HB3 := Aside0.mk (below_step (below_alloc HB2.out _) hb); have hg := blk_keep hb (heap_alloc_new w2 _); have g0 : w3.cell? ⟨w2.heap.size, 0, none⟩ = some (.int .i64 0) := cell_of_row w3 _ 0 _ _ _ hg; have g1 : w3.cell? ⟨w2.heap.size, 1, none⟩ = some (.int .i64 0) := cell_of_row w3 _ 1 _ _ _ hg; have g2 : w3.cell? ⟨w2.heap.size, 2, none⟩ = some (.int .i64 0) := cell_of_row w3 _ 2 _ _ _ hg; have g3 : w3.cell? ⟨w2.heap.size, 3, none⟩ = some (.slice none 0 0) := cell_of_row w3 _ 3 _ _ _ hg; have g4 : w3.cell? ⟨w2.heap.size, 4, none⟩ = some (.bool false) := cell_of_row w3 _ 4 _ _ _ hg; clear hg; have hr := blk_keep hb (blk_alloc HR2.out); have k3_0 : w3.cell? ⟨w.heap.size, 0, none⟩ = some (.int .i64 a0) := cell_of_row w3 _ 0 _ _ _ hr; have k3_1 : w3.cell? ⟨w.heap.size, 1, none⟩ = some (.int .i64 a1) := cell_of_row w3 _ 1 _ _ _ hr; have k3_2 : w3.cell? ⟨w.heap.size, 2, none⟩ = some (.int .i64 a2) := cell_of_row w3 _ 2 _ _ _ hr; have k3_3 : w3.cell? ⟨w.heap.size, 3, none⟩ = some (.int .i64 a3) := cell_of_row w3 _ 3 _ _ _ hr; have k3_4 : w3.cell? ⟨w.heap.size, 4, none⟩ = some (.slice A n c) := cell_of_row w3 _ 4 _ _ _ hr; have HR3 := Aside0.mk hr; have lt3 : w.heap.size < w3.heap.size := World.block_lt_of_cell? w3 _ k3_1; clear hb hr; skip) | (go_at_call 25; refine (SameGrams.yes (some ⟨w3.heap.size, 0, none⟩) (some ⟨w3.heap.size + 1, 0, none⟩) 1 1 [zg] [zg] _ (gramsZero (blk_alloc (heap_alloc_new w3 _))) (gramsZero (blk_new2 _ _ _)) rfl (by simp)).mono ?_; rintro e w4 ⟨rfl, ⟨nd, rfl⟩⟩; have HR4 : Aside0 ((((w3.alloc (.cells #[.int .i64 0, .int .i64 0, .int .i64 0, .slice none 0 0, .bool false] 31)).alloc (.cells #[.int .i64 0, .int .i64 0, .int .i64 0, .slice none 0 0, .bool false] 31)).drewN nd).heap[w.heap.size]? = some (.cells #[.int .i64 a0, .int .i64 a1, .int .i64 a2, .int .i64 a3, .slice A n c] 42 (0, 0))) := ⟨blk_alloc (blk_alloc HR3.out)⟩; have HB4 := Aside0.mk (pw_below_drewN (below_alloc (below_alloc HB3.out (.cells #[.int .i64 0, .int .i64 0, .int .i64 0, .slice none 0 0, .bool false] 31)) (.cells #[.int .i64 0, .int .i64 0, .int .i64 0, .slice none 0 0, .bool false] 31)) nd)) | (go_at_call 16; refine (Double.nil a1 _).mono ?_; rintro e w5 ⟨rfl, hb⟩; have HB5 := Aside0.mk (below_step HB4.out hb); have hr := blk_keep hb HR4.out; have k5_0 : w5.cell? ⟨w.heap.size, 0, none⟩ = some (.int .i64 a0) := cell_of_row w5 _ 0 _ _ _ hr; have k5_1 : w5.cell? ⟨w.heap.size, 1, none⟩ = some (.int .i64 a1) := cell_of_row w5 _ 1 _ _ _ hr; have k5_2 : w5.cell? ⟨w.heap.size, 2, none⟩ = some (.int .i64 a2) := cell_of_row w5 _ 2 _ _ _ hr; have k5_3 : w5.cell? ⟨w.heap.size, 3, none⟩ = some (.int .i64 a3) := cell_of_row w5 _ 3 _ _ _ hr; have k5_4 : w5.cell? ⟨w.heap.size, 4, none⟩ = some (.slice A n c) := cell_of_row w5 _ 4 _ _ _ hr; have HR5 := Aside0.mk hr; have lt5 : w.heap.size < w5.heap.size := World.block_lt_of_cell? w5 _ k5_1; clear hb hr; skip) | (go_at_call 17; refine (Spoil.nil a1 a2 a3 _).mono ?_; rintro e w6 ⟨rfl, hb⟩; have HB6 := Aside0.mk (below_step HB5.out hb); have hr := blk_keep hb HR5.out; have k6_0 : w6.cell? ⟨w.heap.size, 0, none⟩ = some (.int .i64 a0) := cell_of_row w6 _ 0 _ _ _ hr; have k6_1 : w6.cell? ⟨w.heap.size, 1, none⟩ = some (.int .i64 a1) := cell_of_row w6 _ 1 _ _ _ hr; have k6_2 : w6.cell? ⟨w.heap.size, 2, none⟩ = some (.int .i64 a2) := cell_of_row w6 _ 2 _ _ _ hr; have k6_3 : w6.cell? ⟨w.heap.size, 3, none⟩ = some (.int .i64 a3) := cell_of_row w6 _ 3 _ _ _ hr; have k6_4 : w6.cell? ⟨w.heap.size, 4, none⟩ = some (.slice A n c) := cell_of_row w6 _ 4 _ _ _ hr; have HR6 := Aside0.mk hr; have lt6 : w.heap.size < w6.heap.size := World.block_lt_of_cell? w6 _ k6_1; clear hb hr; skip) | (go_at_call 12; refine (Len.nil _).mono ?_; rintro e w7 ⟨rfl, rfl⟩) | (go_at_call 28; refine (List_.nil _).mono ?_; rintro e w7 ⟨rfl, hb⟩; have HB7 := Aside0.mk (below_step HB6.out hb); clear hb) | (go_at_call 13; refine (awake.calls _).mono ?_; rintro e w8 ⟨rfl, hb⟩; have HB8 := Aside0.mk (below_step HB7.out hb); clear hb))
    go_ret
    exact ⟨rfl, HB8.out⟩
end Go.Proofs.Ytkomemnalpmbcaa.Nt
