/- OverBytes, OverGrams: what was given is written over. -/
import Derived.Test.YtkomemnalpmbcaaRe
import Derived.Test.YtkomemnalpmbcaaLb
set_option linter.unusedVariables false
set_option linter.unusedSimpArgs false
namespace Go.Proofs.Ytkomemnalpmbcaa.Nt
open Go.Proofs.Ytkomemnalpmbcaa.PNetScript Go.RowKit Go.Proofs.YtkomemnalpmbcaaW.PrintWords Go.Proofs.YtkomemnalpmbcaaW.PrintLast Go.Proofs.YtkomemnalpmbcaaW.PrintMore
attribute [local go_sem] max2_int min2_int max_two min_two max_three min_three max_four min_four
theorem OverBytes_l0 : ∀ (d : Nat) (xs : List Int) (i : Nat), xs.length = i + d → xs.length ≤ 100000 → inkhornlaw0_OverBytes.l0 (d + 1) xs (i : Int) = some ()
  | 0, xs, i, h, hl => by
    unfold inkhornlaw0_OverBytes.l0
    rw [if_neg (by omega), if_pos (by omega)]
  | d + 1, xs, i, h, hl => by
    unfold inkhornlaw0_OverBytes.l0
    have hw : wrap64 ((i : Int) + 1) = ((i + 1 : Nat) : Int) := by unfold wrap64; omega
    rw [if_pos (by clear hw; omega), if_pos (by clear hw; omega), hw]
    exact OverBytes_l0 d _ (i + 1) (by rw [List.length_set]; clear hw; omega) (by rw [List.length_set]; exact hl)
theorem OverBytes_ev (xs : List Int) (hl : xs.length ≤ 100000) : ∃ k, inkhornlaw0_OverBytes.f k xs = some () := ⟨_, OverBytes_l0 xs.length xs 0 (by omega) hl⟩
theorem OverBytes.own {w0 w : World} {v : Value} {xs : List Int} (hB : Below w0.heap.size w0 w) (ho : w.ownsRow w0.heap.size 5 1 v xs.length (nums .u8 xs)) (hl : xs.length ≤ 100000) :
    Calls Try.prog 23 #[v] w fun e w' => e = .returned (.tuple #[]) ∧ Below w0.heap.size w0 w' ∧ Kept w w' (fun k => v.ownBlock = some k) := by
  obtain ⟨k, hk⟩ := OverBytes_ev xs hl
  exact inkhornlaw0_OverBytes.calls k (fun k => v.ownBlock = some k) v xs w0 w hB (Kd.R_of_own (enc := Value.int .u8) (h1 := fun _ => rfl) ho (fun _ h => h)) hk
theorem own_setCells {b e sz n g c : Nat} : ∀ (vs : List Value) (o : Nat) (w : World) (xs : List Value), w.ownsRow b e sz (.slice (some ⟨g, 0, none⟩) n c) n xs →
    ∃ xs', (w.setCells g o vs).ownsRow b e sz (.slice (some ⟨g, 0, none⟩) n c) n xs' ∧ ∀ i, (i < o ∨ o + vs.length ≤ i) → xs'[i]? = xs[i]?
  | [], o, w, xs, h => ⟨xs, h, fun _ _ => rfl⟩
  | v :: r, o, w, xs, h => by
    obtain ⟨xs', h1, h2⟩ := own_setCells r (o + 1) (w.setCell ⟨g, o, none⟩ v) (xs.set o v) (h.stored o v).1
    refine ⟨xs', h1, fun i hi => ?_⟩
    simp only [List.length_cons] at hi
    rw [h2 i (by omega), List.getElem?_set_ne (by omega)]
def footG (v : Value) (m : List (Gr × Value)) (k : Nat) : Prop := v.ownBlock = some k ∨ ∃ x ∈ m, x.2.ownBlock = some k
structure OverInv (w0 w wr : World) (v : Value) (m : List (Gr × Value)) (j : Nat) : Prop where
  below : Below w0.heap.size w0 wr
  kept : Kept w wr (footG v m)
  row : ∃ cs, wr.ownsRow w0.heap.size 31 5 v m.length cs ∧ ∀ i x, j ≤ i → m[i]? = some x → cs[i * 5 + 3]? = some x.2
  frames : ∀ i x, j ≤ i → m[i]? = some x → wr.ownsRow w0.heap.size 5 1 x.2 x.1.frame.length (nums .u8 x.1.frame)
theorem OverInv.step {w0 w wr w2 : World} {g c : Nat} {m : List (Gr × Value)} {j : Nat} {x : Gr × Value} (hG : ∀ (i i' : Nat) (x y : Gr × Value), i < i' → m[i]? = some x → m[i']? = some y → NeRow x.2 y.2) (h : OverInv w0 w wr (.slice (some ⟨g, 0, none⟩) m.length c) m j) (hx : m[j]? = some x) (hb : Below w0.heap.size w0 w2) (hk : Kept wr w2 (fun k => x.2.ownBlock = some k)) (hg : w0.heap.size ≤ g) (vs : List Value) (hvs : vs.length = 5) :
    OverInv w0 w (w2.setCells g (j * 5) vs) (.slice (some ⟨g, 0, none⟩) m.length c) m (j + 1) := by
  obtain ⟨cs, hr, hc⟩ := h.row
  have hfx := h.frames j x (Nat.le_refl _) hx
  have hr2 : w2.ownsRow w0.heap.size 31 5 (.slice (some ⟨g, 0, none⟩) m.length c) m.length cs := own_move hr (fun k hk' => hk.2 k (own_lt hr k hk') (fun e => by
    rcases own_type_ne hfx hr (by decide) with h1 | h1
    · rw [h1] at e; cases e
    · exact h1 (e.trans hk'.symm)))
  obtain ⟨cs', hr3, hc3⟩ := own_setCells vs (j * 5) w2 cs hr2
  refine ⟨Below.setCells' hb hg (Nat.le_trans hg (Nat.le_of_lt (own_lt hr2 g rfl))) _ _, ?_, ⟨cs', hr3, fun i y hi hy => ?_⟩, fun i y hi hy => ?_⟩
  · refine Kept.setCells (h.kept.then_ hk (fun k hk' => .inl (.inr ⟨x, List.mem_of_getElem? hx, hk'⟩))) (.inl (.inl rfl)) _ _
  · rw [hc3 _ (by omega)]
    exact hc i y (by omega) hy
  · have h1 := h.frames i y (by omega) hy
    have hne := hG j i x y (by omega) hx hy
    have h2 := own_move h1 (fun k hk' => hk.2 k (own_lt h1 k hk') (fun e => hne k e hk'))
    refine own_move h2 (fun k hk' => (grown_setCells _ _ _ _).block k (own_lt h2 k hk') (fun e => ?_))
    rcases own_type_ne h2 hr2 (by decide) with h3 | h3
    · rw [h3] at hk'; cases hk'
    · exact h3 (hk'.trans e)
theorem over_there {w0 w wr w2 : World} {g c : Nat} {m : List (Gr × Value)} {j : Nat} {x : Gr × Value} {Ax : Option Addr} {n cx : Nat} (h : OverInv w0 w wr (.slice (some ⟨g, 0, none⟩) m.length c) m j) (hx : m[j]? = some x) (hk : Kept wr w2 (fun k => (Value.slice Ax n cx).ownBlock = some k)) (hxs : x.2 = .slice Ax n cx) : ∃ u0 u1 u2 u3 u4, (w2.cell? ⟨g, j * 5, none⟩ = some u0 ∧ w2.cell? ⟨g, j * 5 + 1, none⟩ = some u1 ∧ w2.cell? ⟨g, j * 5 + 2, none⟩ = some u2 ∧ w2.cell? ⟨g, j * 5 + 3, none⟩ = some u3 ∧ w2.cell? ⟨g, j * 5 + 4, none⟩ = some u4) ∧ ∀ i, w2.frozen? ⟨g, i, none⟩ = false := by
  obtain ⟨cs, hr, hc⟩ := h.row
  have hfx := h.frames j x (Nat.le_refl _) hx
  have hj := (List.getElem?_eq_some_iff.1 hx).1
  rw [← hxs] at hk
  have hr2 : w2.ownsRow w0.heap.size 31 5 (.slice (some ⟨g, 0, none⟩) m.length c) m.length cs := own_move hr (fun k hk' => hk.2 k (own_lt hr k hk') (fun e => by
    rcases own_type_ne hfx hr (by decide) with h1 | h1
    · rw [h1] at e; cases e
    · exact h1 (e.trans hk'.symm)))
  have hc : ∀ i, i < 5 → ∃ u, w2.cell? ⟨g, j * 5 + i, none⟩ = some u := fun i hi => ⟨_, by rw [own_cells_at hr2 _ (by omega), List.getElem?_eq_getElem (by rw [own_len hr2]; omega)]⟩
  obtain ⟨u0, h0⟩ := hc 0 (by omega)
  obtain ⟨u1, h1⟩ := hc 1 (by omega)
  obtain ⟨u2, h2⟩ := hc 2 (by omega)
  obtain ⟨u3, h3⟩ := hc 3 (by omega)
  obtain ⟨u4, h4⟩ := hc 4 (by omega)
  exact ⟨u0, u1, u2, u3, u4, ⟨h0, h1, h2, h3, h4⟩, fun i => own_frozen_at hr2 i⟩
set_option maxHeartbeats 8000000 in
set_option maxRecDepth 100000 in
theorem OverGrams.calls (w0 w : World) (v : Value) (m : List (Gr × Value)) (hB : Below w0.heap.size w0 w) (hG : GivenG w w0.heap.size v m) (hl : m.length ≤ 100000) (hf : ∀ x ∈ m, x.1.frame.length ≤ 100000) :
    Calls Try.prog 29 #[v] w fun e w' => e = .returned (.tuple #[]) ∧ Below w0.heap.size w0 w' ∧ Kept w w' (footG v m) := by
  have hI : OverInv w0 w w v m 0 := ⟨hB, Kept.refl _ _, ⟨_, hG.row, fun i x _ hx => by rw [rowG_at m i x hx 3 (by omega)]; rfl⟩, fun i x _ hx => hG.frames x (List.mem_of_getElem? hx)⟩
  have HI := Aside0.mk hI
  have HG := Aside0.mk hG
  have HFa := Aside0.mk hf
  obtain ⟨Av, cv, rfl⟩ := own_slice hG.row
  clear hI hG hf
  go_enter Try.func29, Try.ntmps29
  go_wp2
  go_loopw [2] (fun i wr => ∃ j : Nat, j ≤ m.length ∧ i = .int .i64 (j : Int) ∧ Aside0 (OverInv w0 w wr (.slice Av m.length cv) m j)) (fun i _ => m.length - (intOf i).toNat)
  case atStart => exact ⟨0, by omega, rfl, HI⟩
  case round =>
    obtain ⟨j, hj, rfl, HI⟩ := hrel
    by_cases hlt : j < m.length
    · obtain ⟨x, hx⟩ : ∃ x, m[j]? = some x := ⟨_, List.getElem?_eq_getElem hlt⟩
      have hjI : (j : Int) < (m.length : Int) := by omega
      have hjn : ((j : Int)).toNat = j := by omega
      obtain ⟨cs, hr, hc⟩ := HI.out.row
      obtain ⟨g, c, e, hgB, _⟩ := hr.form (by omega)
      obtain ⟨rfl, rfl⟩ : Av = some ⟨g, 0, none⟩ ∧ cv = c := by injection e with a b c; exact ⟨a, c⟩
      have hfx := HI.out.frames j x (Nat.le_refl _) hx
      obtain ⟨Ax, cx, hxs⟩ := own_slice hfx
      have q3 : wr.cell? ⟨g, j * 5 + 3, none⟩ = some (.slice Ax x.1.frame.length cx) := by rw [own_cells_at hr _ (by omega), hc j x (Nat.le_refl _) hx, hxs]
      rw [hxs] at hfx
      have HFR := Aside0.mk hfx
      have HF := Aside0.mk (HFa.out x (List.mem_of_getElem? hx))
      have HX := Aside0.mk hx
      have HXS := Aside0.mk hxs
      clear hx hr hc e hfx hxs
      go_wp2_with (first | (go_at_call 23; refine (OverBytes.own (w0 := w0) HI.out.below HFR.out HF.out).mono ?_; rintro e w2 ⟨rfl, hb2, hk2⟩; have HI2 := Aside0.mk (HI.out.step HG.out.apart HX.out hb2 (by rw [HXS.out]; exact hk2) hgB [.int .i64 (-9), .int .i64 0, .int .i64 0, .slice none 0 0, .bool false] rfl); obtain ⟨y0, y1, y2, y3, y4, ⟨r0, r1, r2, r3, r4⟩, rz⟩ := over_there HI.out HX.out hk2 HXS.out; have z0 := rz (j * 5); have z1 := rz (j * 5 + 1); have z2 := rz (j * 5 + 2); have z3 := rz (j * 5 + 3); have z4 := rz (j * 5 + 4); clear rz hb2 hk2))
      go_roundw
      case rel => exact ⟨j + 1, by omega, by go_num, HI2⟩
      case measure => simp [intOf]; omega
    · have e : j = m.length := by omega
      subst e
      go_wp2
      first | go_end0 | ((try simp only [Exit.inBlock, Exit.then]); refine bodyPost_end (results_none rfl _ _ _) rfl ?_)
      exact ⟨rfl, HI.out.below, HI.out.kept⟩
end Go.Proofs.Ytkomemnalpmbcaa.Nt
