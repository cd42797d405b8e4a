/- The reference's net: Deliver. -/
import Derived.Test.YtkomemnalpmbcaaRb
set_option linter.unusedVariables false
set_option linter.unusedSimpArgs false
namespace Go.Proofs.Ytkomemnalpmbcaa.Nt
open Go.RowKit Go.Proofs.YtkomemnalpmbcaaW.PrintWords Go.Proofs.YtkomemnalpmbcaaW.PrintLast Go.Proofs.YtkomemnalpmbcaaW.PrintMore
attribute [local go_sem] max2_int min2_int max_two min_two max_three min_three max_four min_four
set_option maxHeartbeats 8000000 in
set_option maxRecDepth 100000 in
theorem RDeliver.no {w : World} {B q : Nat} {most next : Int} {l : List (Gr × Value)} {v : Value} (h : RefAt w B q most next l v) (i : Int) (hi : ¬ (0 ≤ i ∧ i < (l.length : Int))) :
    Calls Try.prog 24 #[.pointer (some ⟨q, 0, none⟩), .int .i64 i] w fun e w' => e = .returned (.tuple #[noGram, .bool false]) ∧ Below w.heap.size w w' := by
  have HN := Aside0.mk h
  have HI := Aside0.mk hi
  clear h hi
  go_enter Try.func24, Try.ntmps24
  go_wp2_with (first | ((with_reducible refine gate_callee (f := 33) rfl ?_); refine goesL_ _ rfl rfl Try.func33 (by kernel_rfl) rfl #[.pointer (some ⟨q, 0, none⟩), .int .i64 i] rfl (by (try simp only [List.map_toArray, List.map_cons, List.map_nil]); first | done | rfl) ?_; refine (Ris.eq (HN.out.below (below_alloc (Below.refl _ _) _)) i false (by rw [decide_eq_false HI.out])).mono ?_; rintro e w1 ⟨rfl, rfl⟩; refine ⟨_, rfl, ?_⟩))
  refine bodyPost_ret_by (results_gram rfl _ _ w.heap.size _ rfl (blk_new _ _) rfl) rfl ?_
  exact ⟨rfl, below_alloc (Below.refl _ _) _⟩
theorem reads_if {w : World} {b e n c g : Nat} {xs : List Value} (h : w.ownsRow b e 5 (.slice (some ⟨g, 0, none⟩) n c) n xs) (h1 : ∀ u ∈ xs, u.oneCell' = true) (hn : n ≤ 9223372036854775807) (k : Nat) (hk : k < n) (hc : n ≤ c) :
    ReadsRow (RawIs 5) 5 w (if c = k + 1 then some ⟨g, 0, none⟩ else some ⟨g, (k + 1) * 5, none⟩) (n - (k + 1)) (Kd.chunks 5 (n - (k + 1)) ((xs.drop ((k + 1) * 5)).take ((n - (k + 1)) * 5))) := by
  by_cases hck : c = k + 1
  · have e0 : n - (k + 1) = 0 := by omega
    rw [e0]
    exact ⟨Kd.chunks_length _ _ _, by omega, fun h => absurd h (by omega)⟩
  · rw [if_neg hck]
    exact reads_cut h h1 hn (k + 1) (n - (k + 1)) (by omega)
set_option maxHeartbeats 8000000 in
set_option maxRecDepth 100000 in
theorem RDeliver.yes {w : World} {B q : Nat} {most next : Int} {l : List (Gr × Value)} {v : Value} (w0 : World) (hB : Below B w0 w) (h : RefAt w B q most next l v) (k : Nat) (x : Gr × Value) (hx : l[k]? = some x) (hl : l.length ≤ 100000) :
    Calls Try.prog 24 #[.pointer (some ⟨q, 0, none⟩), .int .i64 k] w fun e w' => ∃ v', e = .returned (.tuple #[aggG x, .bool true]) ∧ RefAt w' B q most next (l.eraseIdx k) v' ∧ Kept w w' (fun k => k = q) ∧ Below B w0 w' ∧ w'.ownsRow B 5 1 x.2 x.1.frame.length (nums .u8 x.1.frame) ∧ (∀ k', foot q v' (l.eraseIdx k) k' → foot q v l k' ∨ w.heap.size ≤ k') := by
  have hk := (List.getElem?_eq_some_iff.1 hx).1
  obtain ⟨g, c, rfl, hBg, hgl⟩ := h.row.form (by omega)
  have hxm : x ∈ l := List.mem_of_getElem? hx
  have hI : (0 ≤ (k : Int) ∧ (k : Int) < (l.length : Int)) := by omega
  have hkI : (k : Int) < (l.length : Int) := by omega
  have hkn : ((k : Int)).toNat = k := by omega
  have hk1 : ((k : Int) + 1).toNat = k + 1 := by omega
  have hkb : (k : Int) + 1 ≤ 9223372036854775807 := by omega
  have hkn1 : k + 1 ≤ l.length := hk
  have hlc := own_le h.row
  have hkc : k ≤ c := by omega
  have hql : q < w.heap.size := blk_lt h.cell
  obtain ⟨Ax, cx, hxs⟩ := own_slice (h.frames x hxm)
  have hrg : w.rangeAt g (k * 5) [.int .i64 x.1.id, .int .i64 x.1.src, .int .i64 x.1.dst, .slice Ax x.1.frame.length cx, .bool x.1.spoilt] := by
    intro j u hu
    have hj : j < 5 := (List.getElem?_eq_some_iff.1 hu).1
    rw [own_cells_at h.row _ (by omega), rowG_at l k x hx j hj, cellsG, hxs]
    exact hu
  have HR := Aside0.mk hrg
  have HX := Aside0.mk hx
  have HXM := Aside0.mk hxm
  have HXS := Aside0.mk hxs
  have HN := Aside0.mk h
  have HI := Aside0.mk hI
  have HB := Aside0.mk hB
  have HL := Aside0.mk hl
  have f0 := h.f0
  have hBs : B ≤ w.heap.size := Nat.le_trans h.low (Nat.le_of_lt (blk_lt h.cell))
  clear h hB hI hx hxm hl hrg
  go_enter Try.func24, Try.ntmps24
  go_wp2_with (first | ((with_reducible refine gate_callee (f := 33) rfl ?_); refine goesL_ _ rfl rfl Try.func33 (by kernel_rfl) rfl #[.pointer (some ⟨q, 0, none⟩), .int .i64 k] rfl (by (try simp only [List.map_toArray, List.map_cons, List.map_nil]); first | done | rfl) ?_; refine (Ris.eq (HN.out.below (below_alloc (Below.refl _ _) _)) k true (by rw [decide_eq_true HI.out])).mono ?_; rintro e w1 ⟨rfl, rfl⟩; refine ⟨_, rfl, ?_⟩) | (refine wpList_load_mid rfl 31 (.tmp 17) rfl g (k * 5) (by rfl) [.int .i64 x.1.id, .int .i64 x.1.src, .int .i64 x.1.dst, .slice Ax x.1.frame.length cx, .bool x.1.spoilt] _ (World.rangeAt_alloc HR.out _) Try.underlying31 rfl size31 ?_))
  have B4 : Aside0 (((w.alloc (Obj.cells #[.int .i64 0, .int .i64 0, .int .i64 0, .slice none 0 0, .bool false] 31)).alloc (Obj.cells #[.int .i64 x.1.id, .int .i64 x.1.src, .int .i64 x.1.dst, .slice Ax x.1.frame.length cx, .bool x.1.spoilt] 31)).drew.heap[w.heap.size]? = some (Obj.cells #[.int .i64 0, .int .i64 0, .int .i64 0, .slice none 0 0, .bool false] 31 (0, 0))) := ⟨heap_alloc2_old w _ _⟩
  have B6 : Aside0 (((w.alloc (Obj.cells #[.int .i64 0, .int .i64 0, .int .i64 0, .slice none 0 0, .bool false] 31)).alloc (Obj.cells #[.int .i64 x.1.id, .int .i64 x.1.src, .int .i64 x.1.dst, .slice Ax x.1.frame.length cx, .bool x.1.spoilt] 31)).drew.heap[w.heap.size + 1]? = some (Obj.cells #[.int .i64 x.1.id, .int .i64 x.1.src, .int .i64 x.1.dst, .slice Ax x.1.frame.length cx, .bool x.1.spoilt] 31 (0, 0))) := ⟨heap_alloc2_new w _ _⟩
  have HBW : Aside0 (Below w.heap.size w ((w.alloc (Obj.cells #[.int .i64 0, .int .i64 0, .int .i64 0, .slice none 0 0, .bool false] 31)).alloc (Obj.cells #[.int .i64 x.1.id, .int .i64 x.1.src, .int .i64 x.1.dst, .slice Ax x.1.frame.length cx, .bool x.1.spoilt] 31)).drew) := ⟨(below_alloc (below_alloc (Below.refl _ _) _) _).drew⟩
  have g0 : ((w.alloc (Obj.cells #[.int .i64 0, .int .i64 0, .int .i64 0, .slice none 0 0, .bool false] 31)).alloc (Obj.cells #[.int .i64 x.1.id, .int .i64 x.1.src, .int .i64 x.1.dst, .slice Ax x.1.frame.length cx, .bool x.1.spoilt] 31)).drew.cell? ⟨q, 0, none⟩ = some (.slice (some ⟨g, 0, none⟩) l.length c) := (HN.out.below HBW.out).f0
  have HNW0 := Aside0.mk (HN.out.below HBW.out)
  have hlen0 := own_len HN.out.row
  have hlen1 : (((rowG l).drop (0 * 5)).take (k * 5)).length = k * 5 := by rw [List.length_take, List.length_drop, hlen0]; omega
  have hlen2 : (((rowG l).drop ((k + 1) * 5)).take ((l.length - (k + 1)) * 5)).length = (l.length - (k + 1)) * 5 := by rw [List.length_take, List.length_drop, hlen0]; omega
  have z0 := HNW0.out.fr 0
  have hsz : B ≤ ((w.alloc (Obj.cells #[.int .i64 0, .int .i64 0, .int .i64 0, .slice none 0 0, .bool false] 31)).alloc (Obj.cells #[.int .i64 x.1.id, .int .i64 x.1.src, .int .i64 x.1.dst, .slice Ax x.1.frame.length cx, .bool x.1.spoilt] 31)).drew.heap.size := Nat.le_trans hBs HBW.out.size
  refine start_ (n := 19) (S := fun w' => w'.cell? ⟨q, 0, none⟩ = some (.slice (some ⟨g, 0, none⟩) l.length c)) (ds := [18]) #[false, false, false, false, false, false, false, false, false, false, false, false, false, false, false, false, false, false, false] (by kernel_rfl) rfl rfl g0 (fun hHeld => ?_)
  clear g0 f0
  have hwk : wrap64 ((k : Int) + 1) = (k : Int) + 1 := by unfold wrap64; omega
  have hwk0 : (0 : Int) ≤ (k : Int) + 1 := by clear hwk; omega
  have hwk1 : (k : Int) + 1 ≤ (l.length : Int) := by clear hwk; omega
  generalize ((w.alloc (Obj.cells #[.int .i64 0, .int .i64 0, .int .i64 0, .slice none 0 0, .bool false] 31)).alloc (Obj.cells #[.int .i64 x.1.id, .int .i64 x.1.src, .int .i64 x.1.dst, .slice Ax x.1.frame.length cx, .bool x.1.spoilt] 31)).drew = W at *
  have HNW := HNW0
  refine pure_ (i := 0) (N := (some 19)) (v := ?_) (a' := ?_) #[true, false, false, false, false, false, false, false, false, false, false, false, false, false, false, false, false, false, false] rfl rfl (by kernel_rfl) (fun _ _ _ h => h) (Or.inl ⟨by rfl, ?_⟩) ?_ ?_
  rotate_left
  · intro w'
    go_simp
    with_reducible rfl
  rotate_left
  · simp only [Act.put, List.setIfInBounds_toArray, List.set_cons_zero, List.set_cons_succ, i64_w, i32_w]
    rfl
  refine pure_ (i := 1) (N := (some 20)) (v := ?_) (a' := ?_) #[true, true, false, false, false, false, false, false, false, false, false, false, false, false, false, false, false, false, false] rfl rfl (by kernel_rfl) (fun _ _ _ h => h) (Or.inl ⟨by rfl, ?_⟩) ?_ ?_
  rotate_left
  · intro w'
    go_simp
    with_reducible rfl
  rotate_left
  · simp only [Act.put, List.setIfInBounds_toArray, List.set_cons_zero, List.set_cons_succ, i64_w, i32_w]
    rfl
  refine pure_ (i := 2) (N := (some 21)) (v := ?_) (a' := ?_) #[true, true, true, false, false, false, false, false, false, false, false, false, false, false, false, false, false, false, false] rfl rfl (by kernel_rfl) (fun _ _ _ h => h) (Or.inl ⟨by rfl, ?_⟩) ?_ ?_
  rotate_left
  · intro w'
    go_simp
    with_reducible rfl
  rotate_left
  · simp only [Act.put, List.setIfInBounds_toArray, List.set_cons_zero, List.set_cons_succ, i64_w, i32_w]
    rfl
  refine pure_ (i := 3) (N := (some 22)) (v := ?_) (a' := ?_) #[true, true, true, true, false, false, false, false, false, false, false, false, false, false, false, false, false, false, false] rfl rfl (by kernel_rfl) (fun _ _ _ h => h) (Or.inl ⟨by rfl, ?_⟩) ?_ ?_
  rotate_left
  · intro w'
    go_simp
    with_reducible rfl
  rotate_left
  · simp only [Act.put, List.setIfInBounds_toArray, List.set_cons_zero, List.set_cons_succ, i64_w, i32_w]
    rfl
  refine pure_ (i := 5) (N := (some 24)) (v := ?_) (a' := ?_) #[true, true, true, true, false, true, false, false, false, false, false, false, false, false, false, false, false, false, false] rfl rfl (by kernel_rfl) (fun _ _ _ h => h) (Or.inl ⟨by rfl, ?_⟩) ?_ ?_
  rotate_left
  · intro w'
    go_simp
    with_reducible rfl
  rotate_left
  · simp only [Act.put, List.setIfInBounds_toArray, List.set_cons_zero, List.set_cons_succ, i64_w, i32_w]
    rfl
  refine pure_ (i := 8) (N := (some 27)) (v := ?_) (a' := ?_) #[true, true, true, true, false, true, false, false, true, false, false, false, false, false, false, false, false, false, false] rfl rfl (by kernel_rfl) (fun _ _ _ h => h) (Or.inl ⟨by rfl, ?_⟩) ?_ ?_
  rotate_left
  · intro w'
    go_simp
    with_reducible rfl
  rotate_left
  · simp only [Act.put, List.setIfInBounds_toArray, List.set_cons_zero, List.set_cons_succ, i64_w, i32_w]
    rfl
  refine pure_ (i := 9) (N := (some 28)) (v := ?_) (a' := ?_) #[true, true, true, true, false, true, false, false, true, true, false, false, false, false, false, false, false, false, false] rfl rfl (by kernel_rfl) (fun _ _ _ h => h) (Or.inl ⟨by rfl, ?_⟩) ?_ ?_
  rotate_left
  · intro w'
    go_simp
    with_reducible rfl
  rotate_left
  · simp only [Act.put, List.setIfInBounds_toArray, List.set_cons_zero, List.set_cons_succ, i64_w, i32_w]
    rfl
  refine pure_ (i := 10) (N := (some 29)) (v := ?_) (a' := ?_) #[true, true, true, true, false, true, false, false, true, true, true, false, false, false, false, false, false, false, false] rfl rfl (by kernel_rfl) (fun _ _ _ h => h) (Or.inl ⟨by rfl, ?_⟩) ?_ ?_
  rotate_left
  · intro w'
    go_simp
    with_reducible rfl
  rotate_left
  · simp only [Act.put, List.setIfInBounds_toArray, List.set_cons_zero, List.set_cons_succ, i64_w, i32_w]
    rfl
  refine pure_ (i := 12) (N := (some 31)) (v := ?_) (a' := ?_) #[true, true, true, true, false, true, false, false, true, true, true, false, true, false, false, false, false, false, false] rfl rfl (by kernel_rfl) (fun _ _ _ h => h) (Or.inl ⟨by rfl, ?_⟩) ?_ ?_
  rotate_left
  · intro w'
    go_simp
    with_reducible rfl
  rotate_left
  · simp only [Act.put, List.setIfInBounds_toArray, List.set_cons_zero, List.set_cons_succ, i64_w, i32_w]
    rfl
  refine pure_ (i := 13) (N := (some 32)) (v := ?_) (a' := ?_) #[true, true, true, true, false, true, false, false, true, true, true, false, true, true, false, false, false, false, false] rfl rfl (by kernel_rfl) (fun _ _ _ h => h) (Or.inl ⟨by rfl, ?_⟩) ?_ ?_
  rotate_left
  · intro w'
    go_simp
    with_reducible rfl
  rotate_left
  · simp only [Act.put, List.setIfInBounds_toArray, List.set_cons_zero, List.set_cons_succ, i64_w, i32_w]
    rfl
  refine take_ (i := 4) (N := (some 23)) (v := ?_) (a' := ?_) #[true, true, true, true, true, true, false, false, true, true, true, false, true, true, false, false, false, false, false] rfl rfl (by kernel_rfl) (fun _ _ _ h => h) (Or.inl ⟨by rfl, ?_⟩) hHeld ?_ ?_
  rotate_left
  · rintro w' s0
    go_simp
    with_reducible rfl
  rotate_left
  · simp only [Act.put, List.setIfInBounds_toArray, List.set_cons_zero, List.set_cons_succ, i64_w, i32_w]
    rfl
  refine pure_ (i := 6) (N := (some 25)) (v := ?_) (a' := ?_) #[true, true, true, true, true, true, true, false, true, true, true, false, true, true, false, false, false, false, false] rfl rfl (by kernel_rfl) (fun _ _ _ h => h) (Or.inl ⟨by rfl, ?_⟩) ?_ ?_
  rotate_left
  · intro w'
    go_simp
    with_reducible rfl
  rotate_left
  · simp only [Act.put, List.setIfInBounds_toArray, List.set_cons_zero, List.set_cons_succ, i64_w, i32_w]
    rfl
  refine take_ (i := 11) (N := (some 30)) (v := ?_) (a' := ?_) #[true, true, true, true, true, true, true, false, true, true, true, true, true, true, false, false, false, false, false] rfl rfl (by kernel_rfl) (fun _ _ _ h => h) (Or.inl ⟨by rfl, ?_⟩) hHeld ?_ ?_
  rotate_left
  · rintro w' s0
    go_simp
    with_reducible rfl
  rotate_left
  · simp only [Act.put, List.setIfInBounds_toArray, List.set_cons_zero, List.set_cons_succ, i64_w, i32_w]
    rfl
  refine pure_ (i := 14) (N := (some 33)) (v := ?_) (a' := ?_) #[true, true, true, true, true, true, true, false, true, true, true, true, true, true, true, false, false, false, false] rfl rfl (by kernel_rfl) (fun _ _ _ h => h) (Or.inl ⟨by rfl, ?_⟩) ?_ ?_
  rotate_left
  · intro w'
    go_simp
    with_reducible rfl
  rotate_left
  · simp only [Act.put, List.setIfInBounds_toArray, List.set_cons_zero, List.set_cons_succ, i64_w, i32_w]
    rfl
  refine one_ (i := 7) (N := (some 26)) #[true, true, true, true, true, true, true, true, true, true, true, true, true, true, true, false, false, false, false] rfl rfl (by kernel_rfl) (by decide) (fun K hK => ?_)
  clear hwk
  refine step_copy_row (by rfl) (.tmp 25) 54 31 (.agg #[.int .i64 0, .int .i64 0, .int .i64 0, .slice none 0 0, .bool false]) 5 56 (by rfl) Try.underlying54 info31' rfl (by decide) (by decide) (Kd.chunks 5 k (((rowG l).drop (0 * 5)).take (k * 5))) (some ⟨g, 0 * 5, none⟩) k c (by rfl) (reads_cut HNW.out.row HNW.out.one (by have := HL.out; omega) 0 k (by omega)) (by have := HL.out; omega) ?_
  intro v1 w1 ho1 hb1
  rw [chunks_flat 5 _ _ hlen1] at ho1
  obtain ⟨Av1, cv1, rfl⟩ := own_slice ho1
  have HO1 := Aside0.mk ho1
  have HB1 := Aside0.mk hb1
  clear ho1 hb1
  have HN1 := Aside0.mk (HNW.out.below HB1.out)
  refine hK.out _ _ HN1.out.f0 (fun hHeld => ?_)
  clear hK K
  refine norm_ (a' := ?_) ?_ ?_
  rotate_left
  · show Act.put _ (some 26) _ = _
    simp only [Act.put, List.setIfInBounds_toArray, List.set_cons_zero, List.set_cons_succ, i64_w, i32_w]
    rfl
  refine one_ (i := 15) (N := (some 34)) #[true, true, true, true, true, true, true, true, true, true, true, true, true, true, true, true, false, false, false] rfl rfl (by kernel_rfl) (by decide) (fun K hK => ?_)
  refine step_append_row (w0 := W) W.heap.size (by rfl) (.tmp 26) (.tmp 33) 54 31 (.agg #[.int .i64 0, .int .i64 0, .int .i64 0, .slice none 0 0, .bool false]) 5 56 (by rfl) Try.underlying54 info31' rfl (by decide) (by decide) (.slice Av1 k cv1) k _ (Kd.chunks 5 (l.length - (k + 1)) (((rowG l).drop ((k + 1) * 5)).take ((l.length - (k + 1)) * 5))) (if c = k + 1 then some ⟨g, 0, none⟩ else some ⟨g, (k + 1) * 5, none⟩) (l.length - (k + 1)) (c - (k + 1)) (by rfl) (by rfl) HO1.out (fun u hu => HNW.out.one u (List.mem_of_mem_drop (List.mem_of_mem_take hu))) (reads_if HN1.out.row HN1.out.one (by have := HL.out; omega) k hk hlc) HB1.out HB1.out.size (by have := HL.out; omega) ?_
  intro v4 w4 ho4 hb4 hg4 hat4
  rw [chunks_flat 5 _ _ hlen2] at ho4
  obtain ⟨A4, c4, rfl⟩ := own_slice ho4
  have HO4 := Aside0.mk ho4
  have HB4 := Aside0.mk hb4
  clear ho4 hb4 hg4 hat4
  have HN4 := Aside0.mk (HNW.out.below HB4.out)
  have z4 := HN4.out.fr 0
  refine hK.out _ _ HN4.out.f0 (fun hHeld => ?_)
  clear hK K
  refine norm_ (a' := ?_) ?_ ?_
  rotate_left
  · show Act.put _ (some 34) _ = _
    simp only [Act.put, List.setIfInBounds_toArray, List.set_cons_zero, List.set_cons_succ, i64_w, i32_w]
    rfl
  refine pure_ (i := 16) (N := (some 35)) (v := ?_) (a' := ?_) #[true, true, true, true, true, true, true, true, true, true, true, true, true, true, true, true, true, false, false] rfl rfl (by kernel_rfl) (fun _ _ _ h => h) (Or.inl ⟨by rfl, ?_⟩) ?_ ?_
  rotate_left
  · intro w'
    go_simp
    with_reducible rfl
  rotate_left
  · simp only [Act.put, List.setIfInBounds_toArray, List.set_cons_zero, List.set_cons_succ, i64_w, i32_w]
    rfl
  refine pure_ (i := 17) (N := (some 36)) (v := ?_) (a' := ?_) #[true, true, true, true, true, true, true, true, true, true, true, true, true, true, true, true, true, true, false] rfl rfl (by kernel_rfl) (fun _ _ _ h => h) (Or.inl ⟨by rfl, ?_⟩) ?_ ?_
  rotate_left
  · intro w'
    go_simp
    with_reducible rfl
  rotate_left
  · simp only [Act.put, List.setIfInBounds_toArray, List.set_cons_zero, List.set_cons_succ, i64_w, i32_w]
    rfl
  refine last_ (i := 18) (N := none) #[true, true, true, true, true, true, true, true, true, true, true, true, true, true, true, true, true, true, true] rfl rfl (by kernel_rfl) (by decide) (fun K hK => ?_)
  refine skip_ rfl rfl (by go_simp; rfl) ?_
  refine hK.out _ _ ?_
  clear hK K
  refine done_ (by kernel_rfl) ?_
  generalize (if c = k + 1 then (some ⟨g, 0, none⟩ : Option Addr) else some ⟨g, (k + 1) * 5, none⟩) = A33
  have hel : (l.eraseIdx k).length = k + (l.length - (k + 1)) := by rw [List.length_eraseIdx_of_lt hk]; omega
  have hrow := HO4.out
  have hrows : ((rowG l).drop (0 * 5)).take (k * 5) ++ ((rowG l).drop ((k + 1) * 5)).take ((l.length - (k + 1)) * 5) = rowG (l.eraseIdx k) := by
    rw [rowG_erase, Nat.zero_mul, List.drop_zero, List.take_of_length_le (l := (rowG l).drop ((k + 1) * 5)) (by rw [List.length_drop, hlen0]; omega)]
  rw [hrows, ← hel] at hrow
  have hvb : ∀ j, (Value.slice A4 (l.eraseIdx k).length c4).ownBlock = some j → W.heap.size ≤ j := fun j hj => own_base hrow j hj
  have hW2 := blk_lt B6.out
  have HNE := Aside0.mk (HNW.out.other HB4.out (below_own hrow hsz) (fun y hy => row_below (HNW.out.frames y (List.mem_of_mem_eraseIdx hy)) HB4.out))
  have HK5 : Aside0 (Kept w (w4.setCell ⟨q, 0, none⟩ (.slice A4 (l.eraseIdx k).length c4)) (fun k => k = q)) := ⟨Kept.ref (below_step HBW.out HB4.out) _ 0⟩
  have HB5 : Aside0 (Below B w0 (w4.setCell ⟨q, 0, none⟩ (.slice A4 (l.eraseIdx k).length c4))) := ⟨Below.setCell (below_then HB.out hBs (below_step HBW.out HB4.out)) HN.out.low _⟩
  have hqn : w.heap.size ≠ q := by omega
  have hqn1 : w.heap.size + 1 ≠ q := by omega
  have b4' := blk_far (bk_keep HB4.out B4.out) (p := ⟨q, 0, none⟩) hqn (.slice A4 (l.eraseIdx k).length c4)
  have b6' := blk_far (bk_keep HB4.out B6.out) (p := ⟨q, 0, none⟩) hqn1 (.slice A4 (l.eraseIdx k).length c4)
  rw [← hel]
  have hwz := HK5.out.1
  generalize w4.setCell ⟨q, 0, none⟩ (.slice A4 (l.eraseIdx k).length c4) = W5 at *
  have hth : W5.there w.heap.size 0 5 := by
    intro j hj
    rw [Nat.zero_add, blk_cell b4']
    refine ⟨?_, blk_frozen b4' _⟩
    rw [Array.getElem?_eq_getElem (by simpa using hj)]
    rfl
  have HT := Aside0.mk hth
  have H6 := Aside0.mk b6'
  have H7 := Aside0.mk b4'
  clear hth b6' b4' hrow hrows hel z4 hHeld hk1 hkI hkb
  go_wp2_with (first | (refine wpList_load_row rfl 31 (.tmp 6) rfl (w.heap.size + 1) (by rfl) 31 _ (0, 0) _ H6.out Try.underlying31 rfl size31 ?_) | (refine wpList_store_mid rfl 31 (.tmp 4) (.tmp 37) rfl w.heap.size 0 #[.int .i64 x.1.id, .int .i64 x.1.src, .int .i64 x.1.dst, .slice Ax x.1.frame.length cx, .bool x.1.spoilt] (by rfl) (by rfl) HT.out size31 (by simp [Value.oneCell']) ?_))
  refine bodyPost_ret_by (results_gram rfl _ _ w.heap.size _ rfl (blk_over H7.out [.int .i64 x.1.id, .int .i64 x.1.src, .int .i64 x.1.dst, .slice Ax x.1.frame.length cx, .bool x.1.spoilt] rfl) rfl) rfl ?_
  have hne : ∀ j, j < w.heap.size → (W5.setCells w.heap.size 0 [.int .i64 x.1.id, .int .i64 x.1.src, .int .i64 x.1.dst, .slice Ax x.1.frame.length cx, .bool x.1.spoilt]).heap[j]? = W5.heap[j]? := fun j hj => (grown_setCells _ _ _ _).block j (Nat.lt_of_lt_of_le hj hwz) (by intro e; injection e with e; omega)
  have HNF := HNE.out
  refine ⟨.slice A4 (l.eraseIdx k).length c4, ?_, ?_, ?_, ?_, ?_, ?_⟩
  · simp only [aggG, HXS.out]
    rfl
  · refine ⟨(hne q hql).trans HNF.cell, HNF.low, own_move HNF.row (fun j hj => (grown_setCells _ _ _ _).block j (own_lt HNF.row j hj) (by intro e; injection e with e; have := hvb j hj; omega)), fun y hy => own_move (HNF.frames y hy) (fun j hj => hne j (own_lt (HN.out.frames y (List.mem_of_mem_eraseIdx hy)) j hj))⟩
  · exact Kept.setCells HK5.out (.inr (Nat.le_refl _)) _ _
  · exact Below.setCells' HB5.out hBs (Nat.le_trans hBs hwz) _ _
  · have hx2 := HN.out.frames x HXM.out
    refine own_move hx2 (fun j hj => ?_)
    have hj2 := own_lt hx2 j hj
    have hjq : j ≠ q := fun e => own_ne hx2 HN.out.cell (by decide) (by rw [hj, e])
    exact (hne j hj2).trans (HK5.out.2 j hj2 hjq)
  · intro j hj
    rcases hj with rfl | hj | ⟨y, hy, hj⟩
    · exact .inl (.inl rfl)
    · have := hvb j hj
      exact .inr (by omega)
    · exact .inl (.inr (.inr ⟨y, List.mem_of_mem_eraseIdx hy, hj⟩))
end Go.Proofs.Ytkomemnalpmbcaa.Nt
