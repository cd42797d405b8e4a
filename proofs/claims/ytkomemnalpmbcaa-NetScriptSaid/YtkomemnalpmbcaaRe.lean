/- The reference's net: Turned, Spoil. -/
import Derived.Test.YtkomemnalpmbcaaRd
import Derived.Test.YtkomemnalpmbcaaNj
set_option linter.unusedVariables false
set_option linter.unusedSimpArgs false
namespace Go.Proofs.Ytkomemnalpmbcaa.Nt
open Go.RowKit Go.Proofs.YtkomemnalpmbcaaW.PrintWords Go.Proofs.YtkomemnalpmbcaaW.PrintLast Go.Proofs.YtkomemnalpmbcaaW.PrintMore
attribute [local go_sem] max2_int min2_int max_two min_two max_three min_three max_four min_four
set_option maxHeartbeats 8000000 in
set_option maxRecDepth 100000 in
theorem Turned.eq (A : Option Addr) (xs : List Int) (c : Nat) (w : World) (at_ x : Int) (hC : Kd.C (Kd.int .u8) w A xs.length xs) (hz : 0 < xs.length) (hl : xs.length ≤ 100000) :
    Calls Try.prog 34 #[.slice A xs.length c, .int .i64 at_, .int .i64 x] w fun e w' => ∃ (j : Nat) (nb b : Int) (fv : Value), e = .returned fv ∧ xs[j]? = some b ∧ nb = (Go.bits BinOp.xor .u8 b (IntKind.u64.wrap (1 + (IntKind.u64.wrap x).tmod 255) % 256)) ∧ (j : Int) = (IntKind.u64.wrap at_).tmod (xs.length : Int) ∧ w'.ownsRow w.heap.size 5 1 fv xs.length (nums .u8 (xs.set j nb)) ∧ Below w.heap.size w w' := by
  obtain ⟨j, hj, hu, ht⟩ := spot _ hz hl at_
  obtain ⟨b, hb⟩ : ∃ b, xs[j]? = some b := ⟨_, List.getElem?_eq_getElem hj⟩
  obtain ⟨ad, rfl, _⟩ := hC.2.2 hz
  have hjI : (j : Int) < (xs.length : Int) := by omega
  have hj64 : (j : Int) ≤ 100000 := by omega
  have hu0 : ¬ ((xs.length : Nat) : Int) = 0 := by omega
  have hjn : ((j : Int)).toNat = j := by omega
  have HC := Aside0.mk hC
  have HL := Aside0.mk hl
  have HT := Aside0.mk ht
  have HBj := Aside0.mk hb
  clear hC hl hb
  go_enter Try.func34, Try.ntmps34
  go_wp2_with (first | ((with_reducible refine gate_builtin (b := .append) (xs := #[.const (.slice none 0 0), .tmp 9]) rfl ?_); at_builtin; refine wpList_copy_row rfl (.tmp 9) 29 5 (.int .u8 0) 1 1 rfl Try.underlying29 info5' rfl (by decide) (by decide) ((nums .u8 xs).map fun u => [u]) (some ad) xs.length c rfl (reads_bytes HC.out) (by have := HL.out; omega) ?_; intro v1 w1 ho1 hb1; rw [flat_ones] at ho1; obtain ⟨gf, cf, rfl, hg1, hg2⟩ := ho1.form hz; have q1 : w1.cell? ⟨gf, j, none⟩ = some (.int .u8 b) := (by rw [own_cells_at ho1 j (by omega)]; simp only [nums, List.getElem?_map, HBj.out, Option.map_some]); have z1 := own_frozen_at ho1 j; have HO1 := Aside0.mk ho1; have HB1 := Aside0.mk hb1; clear ho1 hb1))
  go_ret
  refine ⟨j, _, b, _, rfl, HBj.out, rfl, HT.out.symm, ?_, Below.setCell HB1.out (p := ⟨gf, j, none⟩) hg1 _⟩
  have := (own_store HO1.out (j : Int) (Go.bits BinOp.xor .u8 b (IntKind.u64.wrap (1 + (IntKind.u64.wrap x).tmod 255) % 256))).1
  rwa [Int.toNat_natCast] at this
set_option maxHeartbeats 8000000 in
set_option maxRecDepth 100000 in
theorem RSpoil.out {w : World} {B q : Nat} {most next : Int} {l : List (Gr × Value)} {v : Value} (h : RefAt w B q most next l v) (i at_ x : Int) (hi : ¬ (0 ≤ i ∧ i < (l.length : Int))) :
    Calls Try.prog 27 #[.pointer (some ⟨q, 0, none⟩), .int .i64 i, .int .i64 at_, .int .i64 x] w fun e w' => e = .returned (.bool false) ∧ w = w' := by
  have HN := Aside0.mk h
  have HI := Aside0.mk hi
  clear h hi
  go_enter Try.func27, Try.ntmps27
  go_wp2_with (first | ((with_reducible refine gate_callee (f := 33) rfl ?_); refine goesL_ _ rfl rfl Try.func33 (by kernel_rfl) rfl #[.pointer (some ⟨q, 0, none⟩), .int .i64 i] rfl (by (try simp only [List.map_toArray, List.map_cons, List.map_nil]); first | done | rfl) ?_; refine (Ris.eq HN.out i false (by rw [decide_eq_false HI.out])).mono ?_; rintro e w1 ⟨rfl, rfl⟩; refine ⟨_, rfl, ?_⟩))
  go_ret
  exact ⟨rfl, rfl⟩
set_option maxHeartbeats 8000000 in
set_option maxRecDepth 100000 in
theorem RSpoil.empty {w : World} {B q : Nat} {most next : Int} {l : List (Gr × Value)} {v : Value} (h : RefAt w B q most next l v) (k : Nat) (y : Gr × Value) (hx : l[k]? = some y) (hz : y.1.frame = []) (at_ x : Int) :
    Calls Try.prog 27 #[.pointer (some ⟨q, 0, none⟩), .int .i64 k, .int .i64 at_, .int .i64 x] w fun e w' => e = .returned (.bool false) ∧ w = w' := by
  have hk := (List.getElem?_eq_some_iff.1 hx).1
  have hI : (0 ≤ (k : Int) ∧ (k : Int) < (l.length : Int)) := by omega
  have hkI : (k : Int) < (l.length : Int) := by omega
  have hkn : ((k : Int)).toNat = k := by omega
  obtain ⟨g, c1, rfl, hBg, hgl⟩ := h.row.form (by omega)
  have f0 := h.f0
  obtain ⟨Ax, cx, hxs⟩ := own_slice (h.frames y (List.mem_of_getElem? hx))
  obtain ⟨_, _, _, _, q3, q4⟩ := ref_held h hx hxs
  have hz0 : (((y.1.frame.length : Nat) : Int) == 0) = true := by rw [hz]; rfl

  have HN := Aside0.mk h
  have HI := Aside0.mk hI
  clear h hI hx hxs hz
  go_enter Try.func27, Try.ntmps27
  go_wp2_with (first | ((with_reducible refine gate_callee (f := 33) rfl ?_); refine goesL_ _ rfl rfl Try.func33 (by kernel_rfl) rfl #[.pointer (some ⟨q, 0, none⟩), .int .i64 k] rfl (by (try simp only [List.map_toArray, List.map_cons, List.map_nil]); first | done | rfl) ?_; refine (Ris.eq HN.out k true (by rw [decide_eq_true HI.out])).mono ?_; rintro e w1 ⟨rfl, rfl⟩; refine ⟨_, rfl, ?_⟩))
  go_ret
  exact ⟨rfl, rfl⟩
set_option maxHeartbeats 8000000 in
set_option maxRecDepth 100000 in
theorem RSpoil.spoilt {w : World} {B q : Nat} {most next : Int} {l : List (Gr × Value)} {v : Value} (h : RefAt w B q most next l v) (k : Nat) (y : Gr × Value) (hx : l[k]? = some y) (hz : 0 < y.1.frame.length) (hs : y.1.spoilt = true) (at_ x : Int) :
    Calls Try.prog 27 #[.pointer (some ⟨q, 0, none⟩), .int .i64 k, .int .i64 at_, .int .i64 x] w fun e w' => e = .returned (.bool false) ∧ w = w' := by
  have hk := (List.getElem?_eq_some_iff.1 hx).1
  have hI : (0 ≤ (k : Int) ∧ (k : Int) < (l.length : Int)) := by omega
  have hkI : (k : Int) < (l.length : Int) := by omega
  have hkn : ((k : Int)).toNat = k := by omega
  obtain ⟨g, c1, rfl, hBg, hgl⟩ := h.row.form (by omega)
  have f0 := h.f0
  obtain ⟨Ax, cx, hxs⟩ := own_slice (h.frames y (List.mem_of_getElem? hx))
  obtain ⟨_, _, _, _, q3, q4⟩ := ref_held h hx hxs
  have hz0 : (((y.1.frame.length : Nat) : Int) == 0) = false := beq_eq_false_iff_ne.2 (by omega)
  rw [hs] at q4
  have HN := Aside0.mk h
  have HI := Aside0.mk hI
  clear h hI hx hxs hz hs
  go_enter Try.func27, Try.ntmps27
  go_wp2_with (first | ((with_reducible refine gate_callee (f := 33) rfl ?_); refine goesL_ _ rfl rfl Try.func33 (by kernel_rfl) rfl #[.pointer (some ⟨q, 0, none⟩), .int .i64 k] rfl (by (try simp only [List.map_toArray, List.map_cons, List.map_nil]); first | done | rfl) ?_; refine (Ris.eq HN.out k true (by rw [decide_eq_true HI.out])).mono ?_; rintro e w1 ⟨rfl, rfl⟩; refine ⟨_, rfl, ?_⟩))
  go_ret
  exact ⟨rfl, rfl⟩
set_option maxHeartbeats 8000000 in
set_option maxRecDepth 100000 in
theorem RSpoil.yes {w : World} {B q : Nat} {most next : Int} {l : List (Gr × Value)} {v : Value} (w0 : World) (hB : Below B w0 w) (h : RefAt w B q most next l v) (k : Nat) (y : Gr × Value) (hx : l[k]? = some y) (hz : 0 < y.1.frame.length) (hs : y.1.spoilt = false) (hf : y.1.frame.length ≤ 100000) (hl : l.length ≤ 100000) (at_ x : Int) :
    Calls Try.prog 27 #[.pointer (some ⟨q, 0, none⟩), .int .i64 k, .int .i64 at_, .int .i64 x] w fun e w' => ∃ (j : Nat) (nb b : Int) (v' fv : Value), e = .returned (.bool true) ∧ y.1.frame[j]? = some b ∧ nb = (Go.bits BinOp.xor .u8 b (IntKind.u64.wrap (1 + (IntKind.u64.wrap x).tmod 255) % 256)) ∧ (j : Int) = (IntKind.u64.wrap at_).tmod (y.1.frame.length : Int) ∧ RefAt w' B q most next (l.set k (⟨y.1.id, y.1.src, y.1.dst, y.1.frame.set j nb, true⟩, fv)) v' ∧ Kept w w' (fun k => k = q) ∧ Below B w0 w' ∧ (∀ k', foot q v' (l.set k (⟨y.1.id, y.1.src, y.1.dst, y.1.frame.set j nb, true⟩, fv)) k' → foot q v l k' ∨ w.heap.size ≤ k') := by
  have hk := (List.getElem?_eq_some_iff.1 hx).1
  have hI : (0 ≤ (k : Int) ∧ (k : Int) < (l.length : Int)) := by omega
  have hkI : (k : Int) < (l.length : Int) := by omega
  have hkn : ((k : Int)).toNat = k := by omega
  obtain ⟨g, c1, rfl, hBg, hgl⟩ := h.row.form (by omega)
  have f0 := h.f0
  obtain ⟨Ax, cx, hxs⟩ := own_slice (h.frames y (List.mem_of_getElem? hx))
  obtain ⟨_, _, _, _, q3, q4⟩ := ref_held h hx hxs
  have hz0 : (((y.1.frame.length : Nat) : Int) == 0) = false := beq_eq_false_iff_ne.2 (by omega)
  have hl0 : 0 < l.length := by omega
  have hfr := h.frames y (List.mem_of_getElem? hx)
  rw [hxs] at hfr
  have hql : q < w.heap.size := blk_lt h.cell
  have hBs : B ≤ w.heap.size := Nat.le_trans h.low (Nat.le_of_lt hql)
  rw [hs] at q4
  have HN := Aside0.mk h
  have HI := Aside0.mk hI
  have HL := Aside0.mk hl
  have HF := Aside0.mk hf
  have HFR := Aside0.mk hfr
  have HX := Aside0.mk hx
  have HXS := Aside0.mk hxs
  have HS := Aside0.mk hs
  have HB := Aside0.mk hB
  clear h hI hx hxs hs hf hl hfr hB
  go_enter Try.func27, Try.ntmps27
  go_wp2_with (first | ((with_reducible refine gate_callee (f := 33) rfl ?_); refine goesL_ _ rfl rfl Try.func33 (by kernel_rfl) rfl #[.pointer (some ⟨q, 0, none⟩), .int .i64 k] rfl (by (try simp only [List.map_toArray, List.map_cons, List.map_nil]); first | done | rfl) ?_; refine (Ris.eq HN.out k true (by rw [decide_eq_true HI.out])).mono ?_; rintro e w1 ⟨rfl, rfl⟩; refine ⟨_, rfl, ?_⟩) | ((with_reducible refine gate_builtin (b := .append) (xs := #[.const (.slice none 0 0), .tmp 39]) rfl ?_); at_builtin; refine wpList_copy_row rfl (.tmp 39) 54 31 (.agg #[.int .i64 0, .int .i64 0, .int .i64 0, .slice none 0 0, .bool false]) 5 56 rfl Try.underlying54 info31' rfl (by decide) (by decide) (Kd.chunks 5 l.length (rowG l)) (some ⟨g, 0, none⟩) l.length c1 rfl (reads_own HN.out.row HN.out.one (by have := HL.out; omega)) (by have := HL.out; omega) ?_; intro v1 w1 ho1 hb1; rw [chunks_flat 5 _ _ (own_len HN.out.row)] at ho1; obtain ⟨g1, cg, rfl, hg1, hg2⟩ := ho1.form hl0; have p3 : w1.cell? ⟨g1, k * 5 + 3, none⟩ = some (.slice Ax y.1.frame.length cx) := (by rw [own_cells_at ho1 _ (by omega), rowG_at l k y HX.out 3 (by omega), ← HXS.out]; rfl); have HO1 := Aside0.mk ho1; have HB1 := Aside0.mk hb1; have hp3 := World.block_lt_of_cell? w1 _ p3; clear ho1 hb1) | (go_at_call 34; refine (Turned.eq Ax y.1.frame cx _ at_ x (C_own (row_below HFR.out HB1.out)) hz HF.out).mono ?_; rintro e w2 ⟨j, nb, b, fv, rfl, hb, hnb, hj, hof, hb2⟩; obtain ⟨Af, cf, rfl⟩ := own_slice hof; have hO2 := row_below HO1.out hb2; have r3 : w2.cell? ⟨g1, k * 5 + 3, none⟩ = some (.slice Ax y.1.frame.length cx) := (hb2.cell (p := ⟨g1, k * 5 + 3, none⟩) hp3).trans p3; have z3 := own_frozen_at hO2 (k * 5 + 3); have z4 := own_frozen_at hO2 (k * 5 + 4); have r4 : w2.cell? ⟨g1, k * 5 + 4, none⟩ = some (.bool false) := (by rw [own_cells_at hO2 _ (by omega), rowG_at l k y HX.out 4 (by omega), ← HS.out]; rfl); have hq2 := (HN.out.below (below_step HB1.out hb2)).f0; have hqz := (HN.out.below (below_step HB1.out hb2)).fr 0; have HO2 := Aside0.mk hO2; have HOF := Aside0.mk hof; have HB2 := Aside0.mk hb2; have HJ := Aside0.mk hj; have HNB := Aside0.mk hnb; have HBj := Aside0.mk hb; clear hO2 hof hb2 hj hnb hb))
  go_ret
  have hbW : Below w.heap.size w ((w2.setCell ⟨g1, k * 5 + 3, none⟩ (.slice Af y.1.frame.length cf)).setCell ⟨g1, k * 5 + 4, none⟩ (.bool true)) := Below.setCell (Below.setCell (below_step HB1.out HB2.out) (p := ⟨g1, k * 5 + 3, none⟩) hg1 _) (p := ⟨g1, k * 5 + 4, none⟩) hg1 _
  have hr1 := (HO2.out.stored (k * 5 + 3) (.slice Af y.1.frame.length cf)).1
  have hr2 := (hr1.stored (k * 5 + 4) (.bool true)).1
  have hrow : (((rowG l).set (k * 5 + 3) (.slice Af y.1.frame.length cf)).set (k * 5 + 4) (.bool true)) = rowG (l.set k (⟨y.1.id, y.1.src, y.1.dst, y.1.frame.set j nb, true⟩, .slice Af y.1.frame.length cf)) := by
    have e1 := rowG_set3 l k y HX.out (.slice Af y.1.frame.length cf)
    have e2 := rowG_set (l.set k (y.1, .slice Af y.1.frame.length cf)) k (y.1, .slice Af y.1.frame.length cf) (⟨y.1.id, y.1.src, y.1.dst, y.1.frame.set j nb, true⟩, .slice Af y.1.frame.length cf) (List.getElem?_set_self hk) rfl
    rw [List.set_set] at e2
    rw [e2, e1]
  rw [hrow] at hr2
  have hsz1 := HB1.out.size
  refine ⟨j, nb, b, _, .slice Af y.1.frame.length cf, rfl, HBj.out, HNB.out, HJ.out, HN.out.other hbW ?_ ?_, Kept.ref hbW _ 0, Below.setCell (below_then HB.out hBs hbW) HN.out.low _, ?_⟩
  · rw [List.length_set]
    exact below_own hr2 hBs
  · intro z hz
    rcases List.mem_or_eq_of_mem_set hz with hz | rfl
    · exact row_below (HN.out.frames z hz) hbW
    · dsimp only
      rw [List.length_set]
      exact own_far (own_far (own_weaken HOF.out (Nat.le_trans hBs hsz1)) HO2.out (by decide) _ _) hr1 (by decide) _ _
  · intro i hi
    rcases hi with rfl | hi | ⟨z, hz, hi⟩
    · exact .inl (.inl rfl)
    · injection hi with hi
      exact .inr (hi ▸ hg1)
    · rcases List.mem_or_eq_of_mem_set hz with hz | rfl
      · exact .inl (.inr (.inr ⟨z, hz, hi⟩))
      · have := own_base HOF.out i hi
        exact .inr (by omega)
end Go.Proofs.Ytkomemnalpmbcaa.Nt
