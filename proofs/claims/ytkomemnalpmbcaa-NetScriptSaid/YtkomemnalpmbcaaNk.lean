/- slices.Clone of grams; List. -/
import Derived.Test.YtkomemnalpmbcaaNj
import Derived.Test.YtkomemnalpmbcaaNg
set_option linter.unusedVariables false
set_option linter.unusedSimpArgs false
namespace Go.Proofs.Ytkomemnalpmbcaa.Nt
open Go.RowKit Go.Proofs.YtkomemnalpmbcaaW.PrintWords Go.Proofs.YtkomemnalpmbcaaW.PrintLast Go.Proofs.YtkomemnalpmbcaaW.PrintMore
attribute [local go_sem] max2_int min2_int max_two min_two max_three min_three max_four min_four
theorem raw_flat {w : World} {b e sz : Nat} {ok : Nat → Prop} {v : Value} {rows : List (List Value)} (h : (Kd.raw sz).R e w b ok v rows) : w.ownsRow b e sz v rows.length rows.flatten := by
  obtain ⟨_, inner, ho, hr⟩ := h
  have hl : ∀ c ∈ rows, c.length = sz := by
    intro c hc
    obtain ⟨j, hj⟩ := List.getElem?_of_mem hc
    exact (hr.2 j c hj).2.1 ▸ (hr.2 j c hj).1 ▸ rfl
  have : inner = rows.flatten := by
    have key : ∀ (rows : List (List Value)) (inner : List Value), inner.length = rows.length * sz → (∀ j c, rows[j]? = some c → (inner.drop (j * sz)).take sz = c) → (∀ c ∈ rows, c.length = sz) → inner = rows.flatten := by
      intro rows
      induction rows with
      | nil => intro inner h _ _; exact List.eq_nil_of_length_eq_zero (by simpa using h)
      | cons c rows ih =>
        intro inner h1 h2 h3
        have e1 := h2 0 c rfl
        rw [Nat.zero_mul, List.drop_zero] at e1
        have e2 := ih (inner.drop sz) (by rw [List.length_drop, h1, List.length_cons]; simp [Nat.add_mul]) (fun j c' hj => by
          have := h2 (j + 1) c' hj
          rw [Nat.add_mul, Nat.one_mul] at this
          rw [List.drop_drop, Nat.add_comm]
          exact this) (fun c' hc => h3 c' (List.mem_cons_of_mem _ hc))
        rw [List.flatten_cons, ← e2, ← e1, List.take_append_drop]
    exact key rows inner hr.1 (fun j c hj => (hr.2 j c hj).1) hl
  rw [← this]
  exact ho
def RowG (w : World) (A : Option Addr) (l : List (Gr × Value)) : Prop := ReadsRow (fun (x : List Value) c => c = x ∧ c.length = 5 ∧ ∀ u ∈ c, u.oneCell' = true) 5 w A l.length (l.map cellsG)
theorem add_head (g m : Nat) : (⟨g, 0, none⟩ : Addr).add m = ⟨g, m, none⟩ := by
  unfold Addr.add
  split
  · rename_i h; rw [h]
  · simp
theorem RowG.of {w : World} {g : Nat} {A : Option Addr} {l : List (Gr × Value)} (hA : 0 < l.length → A = some ⟨g, 0, none⟩) (hl : l.length ≤ 100000) (h1 : ∀ k x, l[k]? = some x → w.rangeAt g (k * 5) (cellsG x)) (h2 : ∀ x ∈ l, x.2.oneCell' = true) : RowG w A l := by
  refine ⟨by simp, by omega, fun h0 => ⟨_, hA h0, fun j c hj => ?_⟩⟩
  rw [List.getElem?_map] at hj
  obtain ⟨x, hx, rfl⟩ := Option.map_eq_some_iff.1 hj
  refine ⟨cellsG x, rfl, ⟨rfl, rfl, ?_⟩, fun i u hu => ?_⟩
  · intro u hu
    simp only [cellsG, List.mem_cons, List.not_mem_nil, or_false] at hu
    rcases hu with rfl | rfl | rfl | rfl | rfl <;> first | rfl | exact h2 x (List.mem_of_getElem? hx)
  · have := h1 j x hx i u hu
    rw [add_head]
    exact this
set_option maxHeartbeats 8000000 in
set_option maxRecDepth 100000 in
theorem Clone.grams (A0 : Option Addr) (c0 : Nat) (l : List (Gr × Value)) (w : World) (hr : RowG w A0 l) (hc0 : l.length ≤ c0) (hl : l.length ≤ 100000) :
    Calls Try.prog 35 #[.slice A0 l.length c0] w fun e w' => ∃ v, e = .returned v ∧ w'.ownsRow w.heap.size 31 5 v l.length (rowG l) ∧ Below w.heap.size w w' := by
  have HR := Aside0.mk hr
  have HL := Aside0.mk hl
  clear hr hl
  have HB := Aside0.mk (Below.refl w.heap.size w)
  have heq := fun (w : World) => Lib.run_eql_slice_nil (P := Try.prog) w 54 31 A0 l.length c0 0 0 Try.underlying54
  rcases A0 with _ | ad
  · have e0 : l = [] := by
      rcases Nat.eq_zero_or_pos l.length with h0 | h0
      · exact List.eq_nil_of_length_eq_zero h0
      · obtain ⟨ad, h, _⟩ := HR.out.2.2 h0
        cases h
    have E0 := Aside0.mk e0
    clear e0
    simp only [Option.isNone_none] at heq
    go_enter Try.func35, Try.ntmps35
    go_wp2_with fail
    go_ret
    refine ⟨_, rfl, ?_, HB.out⟩
    rw [E0.out]
    exact own_nil _ _ _ _
  · simp only [Option.isNone_some] at heq
    go_enter Try.func35, Try.ntmps35
    go_wp2_with (first | ((with_reducible refine gate_builtin (b := .append) (xs := #[.tmp 5, .tmp 6]) rfl ?_); at_builtin; refine Kd.R_append_rows (Kd.raw 5) (w0 := w) w.heap.size rfl (.tmp 5) (.tmp 6) 54 31 (.agg #[.int .i64 0, .int .i64 0, .int .i64 0, .slice none 0 0, .bool false]) 56 rfl Try.underlying54 info31' rfl (by decide) (by omega) (.slice (some ⟨w.heap.size, 0, none⟩) 0 0) [] (l.map cellsG) _ _ _ (fun _ => True) (fun _ => False) rfl rfl ?aO ?aR (fun _ _ h => h) (fun _ h => h.elim) ?aF ?aB ?aS ?aL ?_; (case aO => exact ⟨fun _ _ => trivial, OwnRow.lit (ps := ([] : List (List Value))) (inner := []) w w.heap.size (Reps.none _ _) (Nat.le_refl _) (by simp)⟩); (case aR => exact Kd.C_alloc (d := Kd.raw 5) HR.out _); (case aF => exact fun _ _ => trivial); (case aB => exact below_alloc HB.out _); (case aS => simp); (case aL => have := HL.out; simp only [List.length_nil]; omega); intro v1 w1 ho hb hg hat; have HO := Aside0.mk ho; have HB1 := Aside0.mk hb; clear ho hb hg hat))
    go_ret
    refine ⟨_, rfl, ?_, HB1.out⟩
    have := raw_flat HO.out
    rw [List.nil_append, List.length_map] at this
    rwa [rowG, List.flatMap]
theorem rowG_set3 (l : List (Gr × Value)) (k : Nat) (x : Gr × Value) (hx : l[k]? = some x) (fv : Value) : rowG (l.set k (x.1, fv)) = (rowG l).set (k * 5 + 3) fv := by
  induction l generalizing k with
  | nil => simp at hx
  | cons z l ih =>
    cases k with
    | zero =>
      simp only [List.getElem?_cons_zero, Option.some.injEq] at hx
      subst hx
      simp [rowG, cellsG]
    | succ k =>
      simp only [List.getElem?_cons_succ] at hx
      have e : rowG (z :: l) = cellsG z ++ rowG l := by simp [rowG]
      have e2 : rowG ((z :: l).set (k + 1) (x.1, fv)) = cellsG z ++ rowG (l.set k (x.1, fv)) := by simp [rowG]
      rw [e, e2, ih k hx]
      rw [show (k + 1) * 5 + 3 = (cellsG z).length + (k * 5 + 3) by rw [cellsG_length]; omega, List.set_append_right _ _ (Nat.le_add_right _ _), Nat.add_sub_cancel_left]
theorem own_far {w : World} {b b' e e' s s' n n' g c : Nat} {v : Value} {xs xs' : List Value} (h : w.ownsRow b e s v n xs) (h' : w.ownsRow b' e' s' (.slice (some ⟨g, 0, none⟩) n' c) n' xs') (hne : e ≠ e') (j : Nat) (u : Value) : (w.setCell ⟨g, j, none⟩ u).ownsRow b e s v n xs := by
  refine own_setCell h (fun e0 => ?_) u
  rcases own_type_ne h h' hne with h1 | h1
  · rw [h1] at e0; cases e0
  · exact h1 e0.symm
/-- Grams that a caller was given: fresh rows. -/
structure GivenG (w : World) (B : Nat) (v : Value) (m : List (Gr × Value)) : Prop where
  row : w.ownsRow B 31 5 v m.length (rowG m)
  frames : ∀ x ∈ m, w.ownsRow B 5 1 x.2 x.1.frame.length (nums .u8 x.1.frame)
  apart : ∀ (i i' : Nat) (x y : Gr × Value), i < i' → m[i]? = some x → m[i']? = some y → NeRow x.2 y.2
structure ListInv (w wr : World) (l : List (Gr × Value)) (v3 : Value) (j : Nat) : Prop where
  below : Below w.heap.size w wr
  ex : ∃ m : List (Gr × Value), m.map Prod.fst = l.map Prod.fst ∧ wr.ownsRow w.heap.size 31 5 v3 l.length (rowG m) ∧ (∀ i x, i < j → m[i]? = some x → wr.ownsRow w.heap.size 5 1 x.2 x.1.frame.length (nums .u8 x.1.frame)) ∧ (∀ i, j ≤ i → m[i]? = l[i]?) ∧ (∀ (i i' : Nat) (x y : Gr × Value), i < i' → i' < j → m[i]? = some x → m[i']? = some y → NeRow x.2 y.2)
theorem ListInv.done {w wr : World} {l : List (Gr × Value)} {v3 : Value} (h : ListInv w wr l v3 l.length) : ∃ m, m.map Prod.fst = l.map Prod.fst ∧ GivenG wr w.heap.size v3 m := by
  obtain ⟨m, hm, hr, hf, _, hap⟩ := h.ex
  have hl : m.length = l.length := by have := congrArg List.length hm; simpa using this
  refine ⟨m, hm, hl ▸ hr, fun x hx => ?_, fun i i' x y h1 hx hy => hap i i' x y h1 (by have := (List.getElem?_eq_some_iff.1 hy).1; omega) hx hy⟩
  obtain ⟨i, hi⟩ := List.getElem?_of_mem hx
  exact hf i x (by have := (List.getElem?_eq_some_iff.1 hi).1; omega) hi
theorem ListInv.step {w wr w2 : World} {l : List (Gr × Value)} {g3 c3 j : Nat} {x : Gr × Value} {fv : Value} (h : ListInv w wr l (.slice (some ⟨g3, 0, none⟩) l.length c3) j) (hx : l[j]? = some x) (hb : Below wr.heap.size wr w2) (hfv : w2.ownsRow wr.heap.size 5 1 fv x.1.frame.length (nums .u8 x.1.frame)) (hg : w.heap.size ≤ g3) :
    ListInv w (w2.setCell ⟨g3, j * 5 + 3, none⟩ fv) l (.slice (some ⟨g3, 0, none⟩) l.length c3) (j + 1) := by
  obtain ⟨m, hm, hr, hf, ho, hap⟩ := h.ex
  have hb2 := h.below.size
  have hr2 := own_move hr (fun k hk => hb.block k (own_lt hr k hk))
  have hxm : m[j]? = some x := (ho j (Nat.le_refl _)).trans hx
  refine ⟨Below.setCell (below_then h.below hb2 hb) hg _, m.set j (x.1, fv), ?_, ?_, ?_, ?_, ?_⟩
  · rw [← hm]
    apply List.ext_getElem?
    intro i
    rw [List.getElem?_map, List.getElem?_map]
    by_cases hi : i = j
    · subst hi
      rw [List.getElem?_set_self (List.getElem?_eq_some_iff.1 hxm).1, hxm]
      rfl
    · rw [List.getElem?_set_ne (Ne.symm hi)]
  · rw [rowG_set3 m j x hxm]
    exact (hr2.stored (j * 5 + 3) fv).1
  · intro i y hi hy
    by_cases hij : i = j
    · subst hij
      rw [List.getElem?_set_self (List.getElem?_eq_some_iff.1 hxm).1] at hy
      simp only [Option.some.injEq] at hy
      subst hy
      exact own_far (own_weaken hfv hb2) hr2 (by decide) _ _
    · rw [List.getElem?_set_ne (Ne.symm hij)] at hy
      have := hf i y (by omega) hy
      exact own_far (own_move this (fun k hk => hb.block k (own_lt this k hk))) hr2 (by decide) _ _
  · intro i hi
    rw [List.getElem?_set_ne (by omega)]
    exact ho i (by omega)
  · intro i i' y z hii hi' hy hz
    rw [List.getElem?_set_ne (by omega)] at hy
    by_cases hij : i' = j
    · subst hij
      rw [List.getElem?_set_self (List.getElem?_eq_some_iff.1 hxm).1] at hz
      simp only [Option.some.injEq] at hz
      subst hz
      intro k hk hk'
      have h1 := own_lt (hf i y (by omega) hy) k hk
      have h2 := own_base hfv k hk'
      omega
    · rw [List.getElem?_set_ne (Ne.symm hij)] at hz
      exact hap i i' y z hii (by omega) hy hz
set_option maxHeartbeats 8000000 in
set_option maxRecDepth 100000 in
theorem List_.eq {w : World} {B p : Nat} {most next : Int} {l : List (Gr × Value)} {v : Value} (h : NetAt w B p most next l v) (hl : l.length ≤ 100000) (hf : ∀ x ∈ l, x.1.frame.length ≤ 100000) :
    Calls Try.prog 28 #[.pointer (some ⟨p, 0, none⟩)] w fun e w' => ∃ v3 m, e = .returned v3 ∧ m.map Prod.fst = l.map Prod.fst ∧ GivenG w' w.heap.size v3 m ∧ Below w.heap.size w w' := by
  obtain ⟨A1, c1, rfl, hc⟩ := h.slice
  have f2 := h.f2
  have hr : RowG w A1 l := by
    by_cases h0 : 0 < l.length
    · obtain ⟨g, c, e, _, _⟩ := h.block h0
      injection e with e1 e2 e3
      subst e1 e3
      exact RowG.of (fun _ => rfl) hl (fun k x hx => h.range hx) (fun x hx => by obtain ⟨A, c, e⟩ := own_slice (h.frames x hx); rw [e]; rfl)
    · have : l = [] := List.eq_nil_of_length_eq_zero (by omega)
      subst this
      exact ⟨rfl, by simp, fun h => absurd h (by simp)⟩
  have HN := Aside0.mk h
  have HR := Aside0.mk hr
  have HC := Aside0.mk hc
  have HL := Aside0.mk hl
  have HF := Aside0.mk hf
  clear h hr hc hl hf
  by_cases hn : l.length = 0
  · obtain rfl : l = [] := List.eq_nil_of_length_eq_zero hn
    clear hn
    go_enter Try.func28, Try.ntmps28
    go_wp2_with (first | (go_at_call 35; refine (Clone.grams A1 c1 [] _ HR.out HC.out HL.out).mono ?_; rintro e w1 ⟨v3, rfl, ho, hb⟩; have HO := Aside0.mk ho; obtain ⟨A3, c3, rfl⟩ := own_slice ho; have HB := Aside0.mk hb; clear ho hb))
    go_loopw [14] (fun i wr => i = .int .i64 0 ∧ wr = w1) (fun i _ => 0)
    case atStart => exact ⟨rfl, rfl⟩
    case round =>
      obtain ⟨rfl, rfl⟩ := hrel
      go_wp2
      go_ret
      exact ⟨_, [], rfl, rfl, ⟨HO.out, by simp, by simp⟩, HB.out⟩
  · go_enter Try.func28, Try.ntmps28
    go_wp2_with (first | (go_at_call 35; refine (Clone.grams A1 c1 l _ HR.out HC.out HL.out).mono ?_; rintro e w1 ⟨v3, rfl, ho, hb⟩; obtain ⟨g3, c3, rfl, hBg3, hg3⟩ := ho.form (Nat.pos_of_ne_zero hn); have HI : Aside0 (ListInv w w1 l (.slice (some ⟨g3, 0, none⟩) l.length c3) 0) := ⟨⟨hb, l, rfl, ho, (fun i x hi _ => absurd hi (by omega)), (fun _ _ => rfl), (fun i i' x y _ hi' _ _ => absurd hi' (by omega))⟩⟩; clear ho hb hg3))
    go_loopw [14] (fun i wr => ∃ j : Nat, j ≤ l.length ∧ i = .int .i64 (j : Int) ∧ Aside0 (ListInv w wr l (.slice (some ⟨g3, 0, none⟩) l.length c3) j)) (fun i _ => l.length - (intOf i).toNat)
    case atStart => exact ⟨0, by omega, rfl, HI⟩
    case round =>
      obtain ⟨j, hj, rfl, HI⟩ := hrel
      by_cases hlt : j < l.length
      · obtain ⟨x, hx⟩ : ∃ x, l[j]? = some x := ⟨_, List.getElem?_eq_getElem hlt⟩
        have hjI : (j : Int) < (l.length : Int) := by omega
        have hjn : ((j : Int)).toNat = j := by omega
        have hll : l.length ≤ 100000 := HL.out
        obtain ⟨m, hm, hr, _, ho, _⟩ := HI.out.ex
        obtain ⟨Ax, cx, hxs⟩ := own_slice (HN.out.frames x (List.mem_of_getElem? hx))
        have hfx := (HN.out.below HI.out.below).frames x (List.mem_of_getElem? hx)
        have hxm := (ho j (Nat.le_refl _)).trans hx
        have q3 : wr.cell? ⟨g3, j * 5 + 3, none⟩ = some (.slice Ax x.1.frame.length cx) := by
          rw [own_cells_at hr _ (by omega), rowG_at m j x hxm 3 (by omega), ← hxs]
          rfl
        have z3 := own_frozen_at hr (j * 5 + 3)
        rw [hxs] at hfx
        have HFX := Aside0.mk hfx
        have HX := Aside0.mk hx
        have hbl := (World.block_lt_of_cell? wr _ q3)
        have hfl := Aside0.mk (HF.out x (List.mem_of_getElem? hx))
        have HW := Aside0.mk hr
        clear hx hm hr ho hxs hfx hxm
        go_wp2_with (first | (go_at_call 30; refine (Clone.bytes Ax cx x.1.frame _ (C_own HFX.out) (own_le HFX.out) hfl.out).mono ?_; rintro e w2 ⟨fv, rfl, hfv, hb2⟩; obtain ⟨Af, cf, rfl⟩ := own_slice hfv; have HI2 := Aside0.mk (HI.out.step HX.out hb2 hfv hBg3); have hr2 := own_move HW.out (fun k hk => hb2.block k (own_lt HW.out k hk)); have y3 := own_frozen_at hr2 (j * 5 + 3); have x3 : w2.cell? ⟨g3, j * 5 + 3, none⟩ = some (.slice Ax x.1.frame.length cx) := (hb2.cell (p := ⟨g3, j * 5 + 3, none⟩) hbl).trans q3; clear hb2 hfv hr2))
        go_roundw
        case rel => exact ⟨j + 1, by omega, by go_num, HI2⟩
        case measure => simp [intOf]; omega
      · have e : j = l.length := by omega
        subst e
        go_wp2
        go_ret
        obtain ⟨m, h1, h2⟩ := HI.out.done
        exact ⟨_, m, rfl, h1, h2, HI.out.below⟩
end Go.Proofs.Ytkomemnalpmbcaa.Nt
