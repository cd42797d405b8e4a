/- Deliver, Drop. -/
import Derived.Test.YtkomemnalpmbcaaNc
import Derived.Deep.MidRow
set_option linter.unusedVariables false
set_option linter.unusedSimpArgs false
namespace Go.Proofs.Ytkomemnalpmbcaa.Nt
open Go.RowKit Go.Proofs.YtkomemnalpmbcaaW.PrintWords Go.Proofs.YtkomemnalpmbcaaW.PrintLast Go.Proofs.YtkomemnalpmbcaaW.PrintMore
attribute [local go_sem] max2_int min2_int max_two min_two max_three min_three max_four min_four

theorem NetAt.block {w : World} {B p : Nat} {most next : Int} {l : List (Gr × Value)} {v : Value} (h : NetAt w B p most next l v) (h0 : 0 < l.length) : ∃ g c, v = .slice (some ⟨g, 0, none⟩) l.length c ∧ B ≤ g ∧ g < w.heap.size := h.row.form h0
/-- Behind a cut of one gram out of the row, in place. -/
theorem NetAt.cut {w w1 : World} {B p g c k : Nat} {most next : Int} {l : List (Gr × Value)} (h : NetAt w B p most next l (.slice (some ⟨g, 0, none⟩) l.length c)) (hk : k < l.length)
    (ho : w1.ownsRow B 31 5 (.slice (some ⟨g, 0, none⟩) (l.length - 1) c) (l.length - 1) ((rowG l).take (k * 5) ++ (rowG l).drop ((k + 1) * 5))) (hg : w.grownBy w1 (some g)) :
    NetAt (w1.setCell ⟨p, 2, none⟩ (.slice (some ⟨g, 0, none⟩) (l.length - 1) c)) B p most next (l.eraseIdx k) (.slice (some ⟨g, 0, none⟩) (l.length - 1) c) ∧ w1.cell? ⟨p, 2, none⟩ = some (.slice (some ⟨g, 0, none⟩) l.length c) ∧ w1.frozen? ⟨p, 2, none⟩ = false ∧
      ∀ x ∈ l, (w1.setCell ⟨p, 2, none⟩ (.slice (some ⟨g, 0, none⟩) (l.length - 1) c)).ownsRow B 5 1 x.2 x.1.frame.length (nums .u8 x.1.frame) := by
  have c4 := blk_grown h.cell hg h.p_ne_row
  have tofr : ∀ x ∈ l, (w1.setCell ⟨p, 2, none⟩ (.slice (some ⟨g, 0, none⟩) (l.length - 1) c)).ownsRow B 5 1 x.2 x.1.frame.length (nums .u8 x.1.frame) := by
    intro x hx
    have h1 := own_other (h.frames x hx) hg (own_type_ne (h.frames x hx) h.row (by decide))
    exact own_setCell h1 (own_ne h1 c4 (by decide)) _
  have hl : (l.eraseIdx k).length = l.length - 1 := by rw [List.length_eraseIdx, if_pos hk]
  refine ⟨⟨?_, h.low, ?_, ?_, ?_⟩, ?_, ?_, tofr⟩
  · rw [heap_setCell_same w1 p 2 _ 63 _ c4]
    rfl
  · rw [hl, rowG_erase]
    exact own_setCell ho (own_ne ho c4 (by decide)) _
  · exact fun x hx => tofr x (List.mem_of_mem_eraseIdx hx)
  · exact h.apart.sublist (List.eraseIdx_sublist _ _)
  · rw [cell_of_row w1 p 2 _ _ _ c4]
    rfl
  · simp [World.frozen?, c4]

theorem own_cells_at {w : World} {base g n c : Nat} {e : TypeId} {size : Nat} {xs : List Value} (h : w.ownsRow base e size (.slice (some ⟨g, 0, none⟩) n c) n xs) (j : Nat) (hj : j < n * size) : w.cell? ⟨g, j, none⟩ = xs[j]? := by
  obtain ⟨hl, ⟨h0, _⟩ | ⟨g', c', cur, hv, hBg, hH, _, hcm, hsz, htk⟩⟩ := h
  · cases h0
  obtain ⟨rfl, rfl⟩ : g = g' ∧ c = c' := by injection hv with h1 h2 h3; injection h1 with h1; injection h1 with h1; exact ⟨h1, h3⟩
  rw [blk_cell hH, ← htk, List.getElem?_take, if_pos hj, Array.getElem?_toList]
theorem own_frozen_at {w : World} {base g n c : Nat} {e : TypeId} {size : Nat} {xs : List Value} (h : w.ownsRow base e size (.slice (some ⟨g, 0, none⟩) n c) n xs) (j : Nat) : w.frozen? ⟨g, j, none⟩ = false := by
  obtain ⟨cs, hc⟩ := own_typed h g rfl
  exact blk_frozen hc j
theorem NetAt.range {w : World} {B p g c k : Nat} {most next : Int} {l : List (Gr × Value)} {x : Gr × Value} (h : NetAt w B p most next l (.slice (some ⟨g, 0, none⟩) l.length c)) (hx : l[k]? = some x) :
    w.rangeAt g (k * 5) [.int .i64 x.1.id, .int .i64 x.1.src, .int .i64 x.1.dst, x.2, .bool x.1.spoilt] := by
  intro j u hu
  have hk := (List.getElem?_eq_some_iff.1 hx).1
  have hj : j < 5 := (List.getElem?_eq_some_iff.1 hu).1
  rw [own_cells_at h.row _ (by omega), rowG_at l k x hx j hj]
  exact hu
theorem blk_over {w : World} {g : Nat} {t : TypeId} {cs : Array Value} (h : w.heap[g]? = some (.cells cs t (0, 0))) (vs : List Value) (hs : vs.length = cs.size) : (w.setCells g 0 vs).heap[g]? = some (.cells vs.toArray t (0, 0)) := by
  obtain ⟨cs', h1, h2, h3⟩ := blk_setCells (t := t) vs 0 w cs h (by omega)
  rw [h1]
  have : cs' = vs.toArray := by
    apply Array.toList_inj.1
    rw [h3]
    have e : cs.toList.drop (0 + vs.length) = [] := List.drop_eq_nil_of_le (by simp; omega)
    rw [e]
    simp
  rw [this]
theorem Kept.setCells {w W : World} {S : Nat → Prop} (h : Kept w W S) {g : Nat} (hp : S g ∨ w.heap.size ≤ g) (vs : List Value) (o : Nat) : Kept w (W.setCells g o vs) S :=
  Kept.of_grown (grown_setCells g vs o W) h (fun k hk => by injection hk with hk; exact hk ▸ hp)
theorem Below.setCells' {B : Nat} {w W : World} (h : Below B w W) {g : Nat} (hg : B ≤ g) (hB : B ≤ W.heap.size) (vs : List Value) (o : Nat) : Below B w (W.setCells g o vs) :=
  pw_below_grown h (some g) hB (grown_setCells g vs o W) (fun k hk => by injection hk with hk; exact hk ▸ hg)
theorem Delete.one' (w : World) (B g n c i : Nat) (cs : List Value) (hO : w.ownsRow B 31 5 (.slice (some ⟨g, 0, none⟩) n c) n cs) (hc1 : ∀ u ∈ cs, u.oneCell' = true) (hi : i < n) (hn : n ≤ 100000) :
    Calls Try.prog 32 #[.slice (some ⟨g, 0, none⟩) n c, .int .i64 i, .int .i64 ((i : Int) + 1)] w fun e w' => e = .returned (.slice (some ⟨g, 0, none⟩) (n - 1) c) ∧ w'.ownsRow B 31 5 (.slice (some ⟨g, 0, none⟩) (n - 1) c) (n - 1) (cs.take (i * 5) ++ cs.drop ((i + 1) * 5)) ∧ w.grownBy w' (some g) := by
  have h := Delete.one w B g n c i (i + 1) cs hO hc1 hi rfl hn
  rw [Int.natCast_add, Int.natCast_one] at h
  exact h

set_option maxHeartbeats 8000000 in
set_option maxRecDepth 100000 in
theorem Deliver.yes {w : World} {B p : Nat} {most next : Int} {l : List (Gr × Value)} {v : Value} (w0 : World) (hB : Below B w0 w) (h : NetAt w B p most next l v) (k : Nat) (x : Gr × Value) (hx : l[k]? = some x) (hl : l.length ≤ 100000) :
    Calls Try.prog 10 #[.pointer (some ⟨p, 0, none⟩), .int .i64 k] w fun e w' => ∃ v', e = .returned (.tuple #[aggG x, .bool true]) ∧ NetAt w' B p most next (l.eraseIdx k) v' ∧ Kept w w' (foot p v l) ∧ Below B w0 w' ∧ v'.ownBlock = v.ownBlock ∧ w'.ownsRow B 5 1 x.2 x.1.frame.length (nums .u8 x.1.frame) := by
  have hk := (List.getElem?_eq_some_iff.1 hx).1
  obtain ⟨g, c, rfl, hBg, hgl⟩ := h.block (by omega)
  have hxm : x ∈ l := List.mem_of_getElem? hx
  have hI : (0 ≤ (k : Int) ∧ (k : Int) < (l.length : Int)) := by omega
  have hkI : (k : Int) < (l.length : Int) := by omega
  have hk0 : (0 : Int) ≤ (k : Int) := by omega
  have hkn : ((k : Int)).toNat = k := by omega
  have hk1 : (k : Int) + 1 ≤ 9223372036854775807 := by omega
  obtain ⟨Ax, cx, hxs⟩ := own_slice (h.frames x hxm)
  have HX := Aside0.mk hx
  have HXM := Aside0.mk hxm
  have HN := Aside0.mk h
  have HI := Aside0.mk hI
  have HB := Aside0.mk hB
  have HL := Aside0.mk hl
  have HK := Aside0.mk hk
  have hpl := h.foot_lt p (.inl rfl)
  have f2 := h.f2
  clear h hB hI hx hxm hl
  go_enter Try.func10, Try.ntmps10
  go_wp2_with (first | ((with_reducible refine gate_callee (f := 31) rfl ?_); refine goesL_ (some 9) rfl rfl Try.func31 (by kernel_rfl) rfl #[.pointer (some ⟨p, 0, none⟩), .int .i64 k] rfl (by (try simp only [List.map_toArray, List.map_cons, List.map_nil]); first | done | rfl) ?_; refine (is.eq (HN.out.below (below_alloc (Below.refl _ _) _)) k).mono ?_; rintro e w' ⟨rfl, rfl⟩; refine ⟨_, rfl, ?_⟩; rw [decide_eq_true HI.out]) | (refine wpList_load_mid rfl 31 (.tmp 17) rfl g (k * 5) (by rfl) [.int .i64 x.1.id, .int .i64 x.1.src, .int .i64 x.1.dst, x.2, .bool x.1.spoilt] _ ((HN.out.below (below_alloc (Below.refl _ _) _)).range HX.out) Try.underlying31 rfl size31 ?_))
  have hb2 := below_alloc (below_alloc (Below.refl w.heap.size w) (Obj.cells #[.int .i64 0, .int .i64 0, .int .i64 0, .slice none 0 0, .bool false] 31)) (Obj.cells #[.int .i64 x.1.id, .int .i64 x.1.src, .int .i64 x.1.dst, .slice Ax x.1.frame.length cx, .bool x.1.spoilt] 31)
  have b4 : ((w.alloc (Obj.cells #[.int .i64 0, .int .i64 0, .int .i64 0, .slice none 0 0, .bool false] 31)).alloc (Obj.cells #[.int .i64 x.1.id, .int .i64 x.1.src, .int .i64 x.1.dst, .slice Ax x.1.frame.length cx, .bool x.1.spoilt] 31)).heap[w.heap.size]? = some (Obj.cells #[.int .i64 0, .int .i64 0, .int .i64 0, .slice none 0 0, .bool false] 31 (0, 0)) := heap_alloc2_old w _ _
  have b6 : ((w.alloc (Obj.cells #[.int .i64 0, .int .i64 0, .int .i64 0, .slice none 0 0, .bool false] 31)).alloc (Obj.cells #[.int .i64 x.1.id, .int .i64 x.1.src, .int .i64 x.1.dst, .slice Ax x.1.frame.length cx, .bool x.1.spoilt] 31)).heap[w.heap.size + 1]? = some (Obj.cells #[.int .i64 x.1.id, .int .i64 x.1.src, .int .i64 x.1.dst, .slice Ax x.1.frame.length cx, .bool x.1.spoilt] 31 (0, 0)) := heap_alloc2_new w _ _
  generalize hW2 : (w.alloc (Obj.cells #[.int .i64 0, .int .i64 0, .int .i64 0, .slice none 0 0, .bool false] 31)).alloc (Obj.cells #[.int .i64 x.1.id, .int .i64 x.1.src, .int .i64 x.1.dst, .slice Ax x.1.frame.length cx, .bool x.1.spoilt] 31) = W2 at *
  have HN2 := HN.out.below hb2
  refine (Delete.one' W2 B g l.length c k (rowG l) HN2.row HN2.one HK.out HL.out).mono ?_
  rintro e w3 ⟨rfl, ho3, hg3⟩
  obtain ⟨hc1, hc2, hc3, hc4⟩ := HN2.cut HK.out ho3 hg3
  have b4' := blk_far (blk_grown b4 hg3 (by intro e; injection e with e; omega)) (p := ⟨p, 2, none⟩) (by show w.heap.size ≠ p; omega) (.slice (some ⟨g, 0, none⟩) (l.length - 1) c)
  have b6' := blk_far (blk_grown b6 hg3 (by intro e; injection e with e; omega)) (p := ⟨p, 2, none⟩) (by show w.heap.size + 1 ≠ p; omega) (.slice (some ⟨g, 0, none⟩) (l.length - 1) c)
  have HK2 : Aside0 (Kept w (w3.setCell ⟨p, 2, none⟩ (.slice (some ⟨g, 0, none⟩) (l.length - 1) c)) (foot p (.slice (some ⟨g, 0, none⟩) l.length c) l)) :=
    ⟨Kept.setCell (Kept.of_grown hg3 (Kept.of_below hb2 _) (fun k hk => .inl (.inr (.inl (by rw [← hk]; rfl))))) (.inl (.inl rfl)) _⟩
  have hBs : B ≤ w.heap.size := Nat.le_trans hBg (Nat.le_of_lt hgl)
  have HB2 : Aside0 (Below B w0 (w3.setCell ⟨p, 2, none⟩ (.slice (some ⟨g, 0, none⟩) (l.length - 1) c))) :=
    ⟨Below.setCell (pw_below_grown (below_then HB.out hBs hb2) _ (Nat.le_trans hBs hb2.size) hg3 (fun k hk => by injection hk with hk; omega)) HN.out.low _⟩
  have H1 := Aside0.mk hc1
  have H4 := Aside0.mk hc4
  have HO := Aside0.mk ho3
  have HG := Aside0.mk hg3
  have hth : (w3.setCell ⟨p, 2, none⟩ (.slice (some ⟨g, 0, none⟩) (l.length - 1) c)).there w.heap.size 0 5 := by
    intro j hj
    rw [Nat.zero_add, blk_cell b4']
    refine ⟨?_, blk_frozen b4' _⟩
    rw [Array.getElem?_eq_getElem (by simpa using hj)]
    rfl
  have HT := Aside0.mk hth
  have H6 := Aside0.mk b6'
  have H7 := Aside0.mk b4'
  clear hc1 hc4 ho3 hg3 b4 b6 hb2 hth b6' b4' hW2 HN2 hk1 hkI hk0
  go_wp2_with (first | (refine wpList_load_row rfl 31 (.tmp 6) rfl (w.heap.size + 1) (by rfl) 31 _ (0, 0) _ H6.out Try.underlying31 rfl size31 ?_) | (refine wpList_store_mid rfl 31 (.tmp 4) (.tmp 30) rfl w.heap.size 0 #[.int .i64 x.1.id, .int .i64 x.1.src, .int .i64 x.1.dst, .slice Ax x.1.frame.length cx, .bool x.1.spoilt] (by rfl) (by rfl) HT.out size31 (by simp [Value.oneCell']) ?_))
  refine bodyPost_ret_by (results_gram rfl _ _ w.heap.size _ rfl (blk_over H7.out [.int .i64 x.1.id, .int .i64 x.1.src, .int .i64 x.1.dst, .slice Ax x.1.frame.length cx, .bool x.1.spoilt] rfl) rfl) rfl ?_
  have hne : ∀ j, foot p (.slice (some ⟨g, 0, none⟩) l.length c) l j → j < w.heap.size := fun j hj => HN.out.foot_lt j hj
  have hsz := HK2.out.1
  have hmv : ∀ j, foot p (.slice (some ⟨g, 0, none⟩) l.length c) l j → ((w3.setCell ⟨p, 2, none⟩ (.slice (some ⟨g, 0, none⟩) (l.length - 1) c)).setCells w.heap.size 0 [.int .i64 x.1.id, .int .i64 x.1.src, .int .i64 x.1.dst, .slice Ax x.1.frame.length cx, .bool x.1.spoilt]).heap[j]? = (w3.setCell ⟨p, 2, none⟩ (.slice (some ⟨g, 0, none⟩) (l.length - 1) c)).heap[j]? := fun j hj =>
    (grown_setCells _ _ _ _).block j (Nat.lt_of_lt_of_le (hne j hj) hsz) (by have := hne j hj; intro e; injection e with e; omega)
  refine ⟨_, ?_, H1.out.move ?_, Kept.setCells HK2.out (.inr (Nat.le_refl _)) _ _, Below.setCells' HB2.out hBs (Nat.le_trans hBs HK2.out.1) _ _, rfl, own_move (H4.out x HXM.out) ?_⟩
  · simp only [aggG, hxs]
    rfl
  · intro j hj
    refine hmv j ?_
    rcases hj with rfl | hj | ⟨y, hy, hj⟩
    · exact .inl rfl
    · exact .inr (.inl hj)
    · exact .inr (.inr ⟨y, List.mem_of_mem_eraseIdx hy, hj⟩)
  · exact fun j hj => hmv j (.inr (.inr ⟨x, HXM.out, hj⟩))
end Go.Proofs.Ytkomemnalpmbcaa.Nt
