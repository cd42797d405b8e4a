/- Spoil of a net. -/
import Derived.Test.YtkomemnalpmbcaaNi
set_option linter.unusedVariables false
set_option linter.unusedSimpArgs false
namespace Go.Proofs.Ytkomemnalpmbcaa.Nt
open Go.RowKit Go.Proofs.YtkomemnalpmbcaaW.PrintWords Go.Proofs.YtkomemnalpmbcaaW.PrintLast Go.Proofs.YtkomemnalpmbcaaW.PrintMore
attribute [local go_sem] max2_int min2_int max_two min_two max_three min_three max_four min_four
set_option maxHeartbeats 8000000 in
set_option maxRecDepth 100000 in
theorem Spoil.out {w : World} {B p : Nat} {most next : Int} {l : List (Gr × Value)} {v : Value} (h : NetAt w B p most next l v) (i at_ x : Int) (hi : ¬ (0 ≤ i ∧ i < (l.length : Int))) :
    Calls Try.prog 17 #[.pointer (some ⟨p, 0, none⟩), .int .i64 i, .int .i64 at_, .int .i64 x] w fun e w' => e = .returned (.bool false) ∧ w = w' := by
  have HN := Aside0.mk h
  have HI := Aside0.mk hi
  clear h hi
  go_enter Try.func17, Try.ntmps17
  go_wp2_with (first | ((with_reducible refine gate_callee (f := 31) rfl ?_); refine goesL_ _ rfl rfl Try.func31 (by kernel_rfl) rfl #[.pointer (some ⟨p, 0, none⟩), .int .i64 i] rfl (by (try simp only [List.map_toArray, List.map_cons, List.map_nil]); first | done | rfl) ?_; refine (is.eq HN.out i).mono ?_; rintro e w1 ⟨rfl, rfl⟩; refine ⟨_, rfl, ?_⟩; rw [decide_eq_false HI.out]))
  go_ret
  exact ⟨rfl, rfl⟩
set_option maxHeartbeats 8000000 in
set_option maxRecDepth 100000 in
theorem Spoil.empty {w : World} {B p : Nat} {most next : Int} {l : List (Gr × Value)} {v : Value} (h : NetAt w B p most next l v) (k : Nat) (y : Gr × Value) (hx : l[k]? = some y) (hz : y.1.frame = []) (at_ x : Int) :
    Calls Try.prog 17 #[.pointer (some ⟨p, 0, none⟩), .int .i64 k, .int .i64 at_, .int .i64 x] w fun e w' => e = .returned (.bool false) ∧ w = w' := by
  have hk := (List.getElem?_eq_some_iff.1 hx).1
  have hI : (0 ≤ (k : Int) ∧ (k : Int) < (l.length : Int)) := by omega
  have hkn : ((k : Int)).toNat = k := by omega
  obtain ⟨g, c1, rfl, hBg, hgl⟩ := h.block (by omega)
  have f2 := h.f2
  have hr := h.range hx
  obtain ⟨Ax, cx, hxs⟩ := own_slice (h.frames y (List.mem_of_getElem? hx))
  rw [hxs] at hr
  have q3 : w.cell? ⟨g, k * 5 + 3, none⟩ = some (.slice Ax y.1.frame.length cx) := hr 3 _ rfl
  have q4 : w.cell? ⟨g, k * 5 + 4, none⟩ = some (.bool y.1.spoilt) := hr 4 _ rfl
  have hz0 : (((y.1.frame.length : Nat) : Int) == 0) = true := by rw [hz]; rfl

  have HN := Aside0.mk h
  have HI := Aside0.mk hI
  clear h hI hr hx hxs hz
  go_enter Try.func17, Try.ntmps17
  go_wp2_with (first | ((with_reducible refine gate_callee (f := 31) rfl ?_); refine goesL_ _ rfl rfl Try.func31 (by kernel_rfl) rfl #[.pointer (some ⟨p, 0, none⟩), .int .i64 k] rfl (by (try simp only [List.map_toArray, List.map_cons, List.map_nil]); first | done | rfl) ?_; refine (is.eq HN.out k).mono ?_; rintro e w1 ⟨rfl, rfl⟩; refine ⟨_, rfl, ?_⟩; rw [decide_eq_true HI.out]))
  go_ret
  exact ⟨rfl, rfl⟩
set_option maxHeartbeats 8000000 in
set_option maxRecDepth 100000 in
theorem Spoil.spoilt {w : World} {B p : Nat} {most next : Int} {l : List (Gr × Value)} {v : Value} (h : NetAt w B p most next l v) (k : Nat) (y : Gr × Value) (hx : l[k]? = some y) (hz : 0 < y.1.frame.length) (hs : y.1.spoilt = true) (at_ x : Int) :
    Calls Try.prog 17 #[.pointer (some ⟨p, 0, none⟩), .int .i64 k, .int .i64 at_, .int .i64 x] w fun e w' => e = .returned (.bool false) ∧ w = w' := by
  have hk := (List.getElem?_eq_some_iff.1 hx).1
  have hI : (0 ≤ (k : Int) ∧ (k : Int) < (l.length : Int)) := by omega
  have hkn : ((k : Int)).toNat = k := by omega
  obtain ⟨g, c1, rfl, hBg, hgl⟩ := h.block (by omega)
  have f2 := h.f2
  have hr := h.range hx
  obtain ⟨Ax, cx, hxs⟩ := own_slice (h.frames y (List.mem_of_getElem? hx))
  rw [hxs] at hr
  have q3 : w.cell? ⟨g, k * 5 + 3, none⟩ = some (.slice Ax y.1.frame.length cx) := hr 3 _ rfl
  have q4 : w.cell? ⟨g, k * 5 + 4, none⟩ = some (.bool y.1.spoilt) := hr 4 _ rfl
  have hz0 : (((y.1.frame.length : Nat) : Int) == 0) = false := beq_eq_false_iff_ne.2 (by omega)
  rw [hs] at q4
  have HN := Aside0.mk h
  have HI := Aside0.mk hI
  clear h hI hr hx hxs hz hs
  go_enter Try.func17, Try.ntmps17
  go_wp2_with (first | ((with_reducible refine gate_callee (f := 31) rfl ?_); refine goesL_ _ rfl rfl Try.func31 (by kernel_rfl) rfl #[.pointer (some ⟨p, 0, none⟩), .int .i64 k] rfl (by (try simp only [List.map_toArray, List.map_cons, List.map_nil]); first | done | rfl) ?_; refine (is.eq HN.out k).mono ?_; rintro e w1 ⟨rfl, rfl⟩; refine ⟨_, rfl, ?_⟩; rw [decide_eq_true HI.out]))
  go_ret
  exact ⟨rfl, rfl⟩
theorem rowG_set (l : List (Gr × Value)) (k : Nat) (x y : Gr × Value) (hx : l[k]? = some x) (hy : y = (⟨x.1.id, x.1.src, x.1.dst, y.1.frame, y.1.spoilt⟩, x.2)) : rowG (l.set k y) = (rowG l).set (k * 5 + 4) (.bool y.1.spoilt) := by
  induction l generalizing k with
  | nil => simp at hx
  | cons z l ih =>
    cases k with
    | zero =>
      simp only [List.getElem?_cons_zero, Option.some.injEq] at hx
      subst hx
      rw [hy]
      simp [rowG, cellsG]
    | succ k =>
      simp only [List.getElem?_cons_succ] at hx
      have e : rowG (z :: l) = cellsG z ++ rowG l := by simp [rowG]
      have e2 : rowG ((z :: l).set (k + 1) y) = cellsG z ++ rowG (l.set k y) := by simp [rowG]
      rw [e, e2, ih k hx]
      rw [show (k + 1) * 5 + 4 = (cellsG z).length + (k * 5 + 4) by rw [cellsG_length]; omega, List.set_append_right _ _ (Nat.le_add_right _ _), Nat.add_sub_cancel_left]
theorem NetAt.p_ne_frame {w : World} {B p : Nat} {most next : Int} {l : List (Gr × Value)} {v : Value} (h : NetAt w B p most next l v) (x : Gr × Value) (hx : x ∈ l) : some p ≠ x.2.ownBlock := own_ne (h.frames x hx) h.cell (by decide)
theorem NetAt.ne_frame {w : World} {B p : Nat} {most next : Int} {l : List (Gr × Value)} {v : Value} (h : NetAt w B p most next l v) {i k : Nat} {x y : Gr × Value} (hy : l[i]? = some y) (hx : l[k]? = some x) (hik : i ≠ k) : NeRow y.2 x.2 := by
  obtain ⟨h1, rfl⟩ := List.getElem?_eq_some_iff.1 hy
  obtain ⟨h2, rfl⟩ := List.getElem?_eq_some_iff.1 hx
  have := List.pairwise_iff_getElem.1 h.apart
  rcases Nat.lt_or_gt_of_ne hik with h3 | h3
  · exact this i k h1 h2 h3
  · exact ne_symm (this k i h2 h1 h3)
theorem NetAt.spoil {w : World} {B p : Nat} {most next : Int} {l : List (Gr × Value)} {g c gf cf k j : Nat} {x : Gr} {nb : Int} (h : NetAt w B p most next l (.slice (some ⟨g, 0, none⟩) l.length c)) (hx : l[k]? = some (x, .slice (some ⟨gf, 0, none⟩) x.frame.length cf)) (hne : gf ≠ g) :
    NetAt ((w.setCell ⟨gf, j, none⟩ (.int .u8 nb)).setCell ⟨g, k * 5 + 4, none⟩ (.bool true)) B p most next (l.set k (⟨x.id, x.src, x.dst, x.frame.set j nb, true⟩, .slice (some ⟨gf, 0, none⟩) x.frame.length cf)) (.slice (some ⟨g, 0, none⟩) l.length c) := by
  have hxm := List.mem_of_getElem? hx
  have hk := (List.getElem?_eq_some_iff.1 hx).1
  have hpf : p ≠ gf := fun e => h.p_ne_frame _ hxm (by rw [e]; rfl)
  have hpg : p ≠ g := fun e => h.p_ne_row (by rw [e]; rfl)
  have hfr := h.frames _ hxm
  dsimp only at hfr
  have hrow : (w.setCell ⟨gf, j, none⟩ (.int .u8 nb)).ownsRow B 31 5 (.slice (some ⟨g, 0, none⟩) l.length c) l.length (rowG l) := own_setCell h.row (by intro e; injection e with e; exact hne e) _
  have hfr2 : (w.setCell ⟨gf, j, none⟩ (.int .u8 nb)).ownsRow B 5 1 (.slice (some ⟨gf, 0, none⟩) x.frame.length cf) x.frame.length (nums .u8 (x.frame.set j nb)) := by
    have := (own_store hfr (j : Int) nb).1
    rwa [Int.toNat_natCast] at this
  have hne' : ∀ m, gf ≠ m → some g ≠ (Value.slice (some ⟨gf, 0, none⟩) m cf).ownBlock := fun m _ e => by injection e with e; exact hne e.symm
  refine ⟨?_, h.low, ?_, ?_, ?_⟩
  · exact blk_far (blk_far h.cell hpf _) hpg _
  · rw [List.length_set, rowG_set l k _ _ hx rfl]
    exact (hrow.stored (k * 5 + 4) (.bool true)).1
  · intro y hy
    obtain ⟨i, hi⟩ := List.getElem?_of_mem hy
    by_cases hik : i = k
    · subst hik
      rw [List.getElem?_set_self hk] at hi
      simp only [Option.some.injEq] at hi
      subst hi
      dsimp only
      rw [List.length_set]
      exact own_setCell hfr2 (by intro e; injection e with e; exact hne e.symm) _
    · rw [List.getElem?_set_ne (Ne.symm hik)] at hi
      have hy2 := h.frames _ (List.mem_of_getElem? hi)
      refine own_setCell (own_setCell hy2 (fun e => ?_) _) (fun e => ?_) _
      · exact h.ne_frame hi hx hik gf e.symm rfl
      · rcases own_type_ne hy2 h.row (by decide) with h1 | h1
        · rw [h1] at e; cases e
        · exact h1 e.symm
  · have hm : (l.set k (⟨x.id, x.src, x.dst, x.frame.set j nb, true⟩, .slice (some ⟨gf, 0, none⟩) x.frame.length cf)).map Prod.snd = l.map Prod.snd := by
      apply List.ext_getElem?
      intro i
      rw [List.getElem?_map, List.getElem?_map]
      by_cases hik : i = k
      · subst hik
        rw [List.getElem?_set_self hk, hx]
        rfl
      · rw [List.getElem?_set_ne (Ne.symm hik)]
    have ha := h.apart
    rw [← List.pairwise_map (f := Prod.snd) (R := NeRow)] at ha ⊢
    rw [hm]
    exact ha
theorem spot (n : Nat) (hn : 0 < n) (hl : n ≤ 100000) (at_ : Int) : ∃ j : Nat, j < n ∧ IntKind.u64.wrap (n : Int) = (n : Int) ∧ (IntKind.u64.wrap at_).tmod (n : Int) = (j : Int) := by
  have h1 : IntKind.u64.wrap (n : Int) = (n : Int) := IntWalk.u64_in _ (by omega)
  have h0 : 0 ≤ IntKind.u64.wrap at_ := (by unfold IntKind.wrap; simp [IntKind.signed]; omega)
  refine ⟨((IntKind.u64.wrap at_).tmod (n : Int)).toNat, ?_, h1, ?_⟩
  · have := Int.tmod_lt_of_pos (IntKind.u64.wrap at_) (b := (n : Int)) (by omega)
    have := Int.tmod_nonneg (n : Int) h0
    omega
  · have := Int.tmod_nonneg (n : Int) h0
    omega
set_option maxHeartbeats 8000000 in
set_option maxRecDepth 100000 in
theorem Spoil.yes {w : World} {B p : Nat} {most next : Int} {l : List (Gr × Value)} {v : Value} (w0 : World) (hB : Below B w0 w) (h : NetAt w B p most next l v) (k : Nat) (y : Gr × Value) (hx : l[k]? = some y) (hz : 0 < y.1.frame.length) (hs : y.1.spoilt = false) (hl : y.1.frame.length ≤ 100000) (at_ x : Int) :
    Calls Try.prog 17 #[.pointer (some ⟨p, 0, none⟩), .int .i64 k, .int .i64 at_, .int .i64 x] w fun e w' => ∃ (j : Nat) (nb b : Int), e = .returned (.bool true) ∧ y.1.frame[j]? = some b ∧ nb = (Go.bits BinOp.xor .u8 b (IntKind.u64.wrap (1 + (IntKind.u64.wrap x).tmod 255) % 256)) ∧ (j : Int) = (IntKind.u64.wrap at_).tmod (y.1.frame.length : Int) ∧ NetAt w' B p most next (l.set k (⟨y.1.id, y.1.src, y.1.dst, y.1.frame.set j nb, true⟩, y.2)) v ∧ Kept w w' (foot p v l) ∧ Below B w0 w' := by
  have hk := (List.getElem?_eq_some_iff.1 hx).1
  have hI : (0 ≤ (k : Int) ∧ (k : Int) < (l.length : Int)) := by omega
  have hkn : ((k : Int)).toNat = k := by omega
  obtain ⟨g, c1, rfl, hBg, hgl⟩ := h.block (by omega)
  have f2 := h.f2
  have hr := h.range hx
  obtain ⟨Ax, cx, hxs⟩ := own_slice (h.frames y (List.mem_of_getElem? hx))
  rw [hxs] at hr
  have q3 : w.cell? ⟨g, k * 5 + 3, none⟩ = some (.slice Ax y.1.frame.length cx) := hr 3 _ rfl
  have q4 : w.cell? ⟨g, k * 5 + 4, none⟩ = some (.bool y.1.spoilt) := hr 4 _ rfl
  obtain ⟨j, hj, hu, ht⟩ := spot _ hz hl at_
  have hfr := h.frames y (List.mem_of_getElem? hx)
  rw [hxs] at hfr
  obtain ⟨gf, cf, hgf, hBf, hglf⟩ := hfr.form hz
  obtain ⟨rfl, rfl⟩ : Ax = some ⟨gf, 0, Option.none⟩ ∧ cx = cf := by injection hgf with a b c; exact ⟨a, c⟩
  obtain ⟨b, hb⟩ : ∃ b, y.1.frame[j]? = some b := ⟨_, List.getElem?_eq_getElem hj⟩
  have qf : w.cell? ⟨gf, j, Option.none⟩ = some (.int .u8 b) := by rw [own_cells_at hfr j (by omega)]; simp [nums, hb]
  have zf := own_frozen_at hfr j
  have z4 := own_frozen_at h.row (k * 5 + 4)
  have hne : gf ≠ g := by
    intro e
    subst e
    rcases own_type_ne hfr h.row (by decide) with h1 | h1
    · cases h1
    · exact h1 rfl
  have hjI : (j : Int) < (y.1.frame.length : Int) := by omega
  have hz0 : (((y.1.frame.length : Nat) : Int) == 0) = false := beq_eq_false_iff_ne.2 (by omega)
  have hu0 : ¬ ((y.1.frame.length : Nat) : Int) = 0 := by omega
  rw [hs] at q4
  have hsp := fun nb => h.spoil (j := j) (nb := nb) (hx.trans (by rw [← hxs])) hne
  have hpg : p ≠ g := fun e => h.p_ne_row (by rw [e]; rfl)
  have hpf : p ≠ gf := fun e => h.p_ne_frame _ (List.mem_of_getElem? hx) (by rw [hxs, e]; rfl)
  have hgf' : g ≠ gf := fun e => hne e.symm
  have hfp : gf ≠ p := fun e => hpf e.symm
  have HSP := Aside0.mk hsp
  have HB := Aside0.mk hB
  have HT := Aside0.mk ht
  have HBy := Aside0.mk hb
  have HXS := Aside0.mk hxs
  have HXM := Aside0.mk (List.mem_of_getElem? hx)
  clear hsp hB hb
  have HN := Aside0.mk h
  have HI := Aside0.mk hI
  clear h hI hr hx hxs hs hgf hfr
  go_enter Try.func17, Try.ntmps17
  go_wp2_with (first | ((with_reducible refine gate_callee (f := 31) rfl ?_); refine goesL_ _ rfl rfl Try.func31 (by kernel_rfl) rfl #[.pointer (some ⟨p, 0, none⟩), .int .i64 k] rfl (by (try simp only [List.map_toArray, List.map_cons, List.map_nil]); first | done | rfl) ?_; refine (is.eq HN.out k).mono ?_; rintro e w1 ⟨rfl, rfl⟩; refine ⟨_, rfl, ?_⟩; rw [decide_eq_true HI.out]) | fail)
  go_ret
  refine ⟨j, _, b, rfl, HBy.out, rfl, HT.out.symm, by rw [HXS.out]; exact HSP.out _, ?_, ?_⟩
  · exact ((Kept.refl w _).setCell (p := ⟨gf, j, Option.none⟩) (.inl (.inr (.inr ⟨y, HXM.out, by rw [HXS.out]; rfl⟩))) _).setCell (p := ⟨g, k * 5 + 4, Option.none⟩) (.inl (.inr (.inl rfl))) _
  · exact Below.setCell (Below.setCell HB.out (p := ⟨gf, j, Option.none⟩) hBf _) (p := ⟨g, k * 5 + 4, Option.none⟩) hBg _
end Go.Proofs.Ytkomemnalpmbcaa.Nt
