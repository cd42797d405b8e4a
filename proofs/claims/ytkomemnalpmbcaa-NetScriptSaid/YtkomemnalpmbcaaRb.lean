/- The reference's net: Send, with room. -/
import Derived.Test.YtkomemnalpmbcaaRa
set_option linter.unusedVariables false
set_option linter.unusedSimpArgs false
namespace Go.Proofs.Ytkomemnalpmbcaa.Nt
open Go.RowKit Go.Proofs.YtkomemnalpmbcaaW.PrintWords Go.Proofs.YtkomemnalpmbcaaW.PrintLast Go.Proofs.YtkomemnalpmbcaaW.PrintMore
attribute [local go_sem] max2_int min2_int max_two min_two max_three min_three max_four min_four
theorem row_below {w w' : World} {B e s n : Nat} {sv : Value} {xs : List Value} (ho : w.ownsRow B e s sv n xs) (hb : Below w.heap.size w w') : w'.ownsRow B e s sv n xs :=
  own_move ho (fun k hk' => hb.block k (own_lt ho k hk'))
theorem below_own {w w1 : World} {b e sz n : Nat} {v : Value} {xs : List Value} (h : w1.ownsRow w.heap.size e sz v n xs) (hb : b ≤ w.heap.size) : w1.ownsRow b e sz v n xs := own_weaken h hb
set_option maxHeartbeats 8000000 in
set_option maxRecDepth 100000 in
theorem RSend.room {w : World} {B q : Nat} {most next : Int} {l : List (Gr × Value)} {v : Value} (w0 : World) (hB : Below B w0 w) (h : RefAt w B q most next l v) (i j : Int) (A : Option Addr) (xs : List Int) (c : Nat) (hr : ∀ w', Kept w w' (fun k => k = q) → Kd.C (Kd.int .u8) w' A xs.length xs) (hx : xs.length ≤ 100000) (hm : (l.length : Int) < most) (hl : l.length ≤ 100000) (hn0 : 0 ≤ next) (hn1 : next ≤ 1000000) :
    Calls Try.prog 21 #[.pointer (some ⟨q, 0, none⟩), .int .i64 i, .int .i64 j, .slice A xs.length c] w fun e w' => ∃ v' fv, e = .returned (.tuple #[.int .i64 next, .bool true]) ∧ RefAt w' B q most (next + 1) (l ++ [(⟨next, i, j, xs, false⟩, fv)]) v' ∧ Kept w w' (fun k => k = q) ∧ Below B w0 w' ∧ (∀ k, foot q v' (l ++ [(⟨next, i, j, xs, false⟩, fv)]) k → foot q v l k ∨ w.heap.size ≤ k) := by
  have HB := Aside0.mk (Below.setCell hB h.low (p := ⟨q, 2, none⟩) (.int .i64 (next + 1)))
  have HN := Aside0.mk (h.rise (next + 1))
  have hBs : B ≤ w.heap.size := Nat.le_trans h.low (Nat.le_of_lt (blk_lt h.cell))
  obtain ⟨A1, c1, rfl⟩ := h.slice
  have f0 := h.f0
  have f1 := h.f1
  have f2 := h.f2
  have r2 := h.fr 2
  have hm' : ¬ most ≤ (l.length : Int) := by omega
  have HR := Aside0.mk hr
  have HX := Aside0.mk hx
  have HL := Aside0.mk hl
  have HLow := Aside0.mk h.low
  clear h hr hx hl hB hm
  go_enter Try.func21, Try.ntmps21
  go_wp2
  go_quiet (fail)
  have HN1 := Aside0.mk (HN.out.drewN nq)
  have HK1 : Aside0 (Kept w ((w.setCell ⟨q, 2, none⟩ (.int .i64 (next + 1))).drewN nq) (fun k => k = q)) := ⟨(Kept.ref (Below.refl _ _) _ 2).drewN _⟩
  have HB0 := Aside0.mk (pw_below_drewN HB.out nq)
  have hsz : B ≤ ((w.setCell ⟨q, 2, none⟩ (.int .i64 (next + 1))).drewN nq).heap.size := Nat.le_trans hBs HK1.out.1
  generalize ((w.setCell ⟨q, 2, none⟩ (.int .i64 (next + 1))).drewN nq) = W at *
  have HRW : Aside0 (∀ w', Kept W w' (fun k => k = q) → Kd.C (Kd.int .u8) w' A xs.length xs) := ⟨fun w' hk => HR.out w' (HK1.out.then_ hk (fun _ h => .inl h))⟩
  have g0 := HN1.out.f0
  clear f0 f1 f2 r2 HN HB
  go_wp2_with (first | ((with_reducible refine gate_builtin (b := .append) (xs := #[.const (.slice none 0 0), .tmp 37]) rfl ?_); at_builtin; refine wpList_copy_row rfl (.tmp 37) 54 31 (.agg #[.int .i64 0, .int .i64 0, .int .i64 0, .slice none 0 0, .bool false]) 5 56 rfl Try.underlying54 info31' rfl (by decide) (by decide) (Kd.chunks 5 l.length (rowG l)) A1 l.length c1 rfl (reads_own HN1.out.row HN1.out.one (by have := HL.out; omega)) (by have := HL.out; omega) ?_; intro v1 w1 ho1 hb1; rw [chunks_flat 5 _ _ (own_len HN1.out.row)] at ho1; obtain ⟨Av1, cv1, rfl⟩ := own_slice ho1; have HO1 := Aside0.mk ho1; have HB1 := Aside0.mk hb1; clear ho1 hb1) | ((with_reducible refine gate_builtin (b := .append) (xs := #[.const (.slice none 0 0), .tmp 42]) rfl ?_); at_builtin; refine wpList_copy_row rfl (.tmp 42) 29 5 (.int .u8 0) 1 1 rfl Try.underlying29 info5' rfl (by decide) (by decide) ((nums .u8 xs).map fun u => [u]) A xs.length c rfl (reads_bytes (HRW.out _ (Kept.of_below HB1.out _))) (by have := HX.out; omega) ?_; intro v2 w2 ho2 hb2; rw [flat_ones] at ho2; obtain ⟨Af, cf, rfl⟩ := own_slice ho2; have HO2 := Aside0.mk ho2; have HB2 := Aside0.mk hb2; clear ho2 hb2) | ((with_reducible refine gate_builtin (b := .append) (xs := #[.tmp 38, .tmp 45]) rfl ?_); at_builtin; refine wpList_step fun K hK => ?_; refine step_append_cells (w0 := W) W.heap.size (by rfl) (.tmp 38) (.tmp 45) 54 31 (.agg #[.int .i64 0, .int .i64 0, .int .i64 0, .slice none 0 0, .bool false]) 5 56 (by rfl) Try.underlying54 info31' rfl (by decide) (by decide) (.slice Av1 l.length cv1) l.length (rowG l) [.int .i64 next, .int .i64 i, .int .i64 j, .slice Af xs.length cf, .bool false] (by rfl) (by rfl) rfl ?h1 (row_below HO1.out HB2.out) (below_then HB1.out HB1.out.size HB2.out) (Nat.le_trans HB1.out.size HB2.out.size) ?hl ?_; (case h1 => intro u hu; simp only [List.mem_cons, List.not_mem_nil, or_false] at hu; rcases hu with rfl | rfl | rfl | rfl | rfl <;> rfl); (case hl => have := HL.out; omega); intro v4 w4 ho4 hb4 hg4 hat4; obtain ⟨A4, c4, rfl⟩ := own_slice ho4; have HO4 := Aside0.mk ho4; have HB4 := Aside0.mk hb4; have HG4 := Aside0.mk hg4; have HN4 := Aside0.mk (HN1.out.below hb4); have g0 := HN4.out.f0; have z0 := HN4.out.fr 0; clear ho4 hb4 hg4 hat4; refine hK _ _ ?_; clear hK K))
  go_ret2
  have hb2 := below_step HB1.out HB2.out
  refine ⟨_, _, rfl, HN1.out.other HB4.out (l' := l ++ [(⟨next, i, j, xs, false⟩, .slice Af xs.length cf)]) ?_ ?_, Kept.setCell (S := fun k => k = q) (HK1.out.below HB4.out) (p := ⟨q, 0, none⟩) (.inl rfl) _, ?_, ?_⟩
  · rw [rowG_append, rowG_one, List.length_append]
    exact below_own HO4.out hsz
  · intro y hy
    rcases List.mem_append.1 hy with hy | hy
    · exact row_below (HN1.out.frames y hy) HB4.out
    · rw [List.mem_singleton.1 hy]
      have hf := below_own HO2.out (Nat.le_trans hsz HB1.out.size)
      exact own_other hf HG4.out (own_type_ne hf (row_below HO1.out HB2.out) (by decide))
  · exact Below.setCell (below_then HB0.out hsz HB4.out) HLow.out _
  · intro k hk
    have z1 := HK1.out.1
    have z2 := HB1.out.size
    rcases hk with rfl | hk | ⟨y, hy, hk⟩
    · exact .inl (.inl rfl)
    · have := own_base HO4.out k hk
      exact .inr (by omega)
    · rcases List.mem_append.1 hy with hy | hy
      · exact .inl (.inr (.inr ⟨y, hy, hk⟩))
      · rw [List.mem_singleton.1 hy] at hk
        have := own_base HO2.out k hk
        exact .inr (by omega)
end Go.Proofs.Ytkomemnalpmbcaa.Nt
