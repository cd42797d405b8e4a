/- Rows of cells, appended: words over any program. -/
import Derived.Test.YtkomemnalpmbcaaNk
set_option linter.unusedVariables false
set_option linter.unusedSimpArgs false
namespace Go.Proofs.Ytkomemnalpmbcaa.Nt
open Go.RowKit Go.Proofs.YtkomemnalpmbcaaW.PrintWords Go.Proofs.YtkomemnalpmbcaaW.PrintLast Go.Proofs.YtkomemnalpmbcaaW.PrintMore

/-- A row is itself. -/
def RawIs (sz : Nat) (x c : List Value) : Prop := c = x ∧ c.length = sz ∧ ∀ u ∈ c, u.oneCell' = true
theorem chunks_flat (sz : Nat) : ∀ (n : Nat) (inner : List Value), inner.length = n * sz → (Kd.chunks sz n inner).flatten = inner
  | 0, inner, h => by
    have : inner = [] := List.eq_nil_of_length_eq_zero (by simpa using h)
    subst this; rfl
  | n + 1, inner, h => by
    have e : Kd.chunks sz (n + 1) inner = inner.take sz :: Kd.chunks sz n (inner.drop sz) := by
      unfold Kd.chunks
      rw [List.range_succ_eq_map, List.map_cons, List.map_map]
      congr 1
      · rw [Nat.zero_mul, List.drop_zero]
      · apply List.map_congr_left
        intro j _
        simp only [Function.comp, List.drop_drop]
        rw [Nat.succ_mul, Nat.add_comm]
    rw [e, List.flatten_cons, chunks_flat sz n (inner.drop sz) (by rw [List.length_drop, h, Nat.succ_mul]; omega), List.take_append_drop]
theorem own_len {w : World} {b e sz n : Nat} {v : Value} {xs : List Value} (h : w.ownsRow b e sz v n xs) : xs.length = n * sz := h.1
theorem raw_of_own {w : World} {b e sz n : Nat} {v : Value} {xs : List Value} (h : w.ownsRow b e sz v n xs) (h1 : ∀ u ∈ xs, u.oneCell' = true) : (Kd.raw sz).R e w b (fun _ => True) v (Kd.chunks sz n xs) := by
  refine ⟨fun _ _ => trivial, xs, ?_, ⟨?_, fun j p hj => ?_⟩⟩
  · rw [Kd.chunks_length]; exact h
  · rw [Kd.chunks_length]; exact own_len h
  · have hp := Kd.chunks_get hj
    have hjn : j < n := by have := (List.getElem?_eq_some_iff.1 hj).1; rwa [Kd.chunks_length] at this
    refine ⟨hp.symm, ?_, fun u hu => h1 u (List.mem_of_mem_drop (List.mem_of_mem_take hu))⟩
    rw [List.length_take, List.length_drop, own_len h]
    have : (j + 1) * sz ≤ n * sz := Nat.mul_le_mul_right sz hjn
    rw [Nat.add_mul, Nat.one_mul] at this
    show min sz (n * sz - j * sz) = sz
    omega
/-- What is read of an own row, from a place on. -/
theorem reads_own {w : World} {b e sz n c : Nat} {A : Option Addr} {xs : List Value} (h : w.ownsRow b e sz (.slice A n c) n xs) (h1 : ∀ u ∈ xs, u.oneCell' = true) (hn : n ≤ 9223372036854775807) : ReadsRow (RawIs sz) sz w A n (Kd.chunks sz n xs) := by
  refine ⟨Kd.chunks_length _ _ _, hn, fun h0 => ?_⟩
  obtain ⟨g, c', e, _, _⟩ := h.form h0
  injection e with e1 e2 e3
  subst e1
  refine ⟨_, rfl, fun j p hj => ?_⟩
  have hjn : j < n := by have := (List.getElem?_eq_some_iff.1 hj).1; rwa [Kd.chunks_length] at this
  have hp := Kd.chunks_get hj
  have hm : (j + 1) * sz ≤ n * sz := Nat.mul_le_mul_right sz hjn
  rw [Nat.add_mul, Nat.one_mul] at hm
  have hl : p.length = sz := by rw [hp, List.length_take, List.length_drop, own_len h]; omega
  refine ⟨p, hl, ⟨rfl, hl, fun u hu => h1 u (by rw [hp] at hu; exact List.mem_of_mem_drop (List.mem_of_mem_take hu))⟩, fun i u hu => ?_⟩
  have hi : i < sz := by have := (List.getElem?_eq_some_iff.1 hu).1; omega
  rw [add_head, own_cells_at h _ (by omega)]
  rw [hp, List.getElem?_take, if_pos hi, List.getElem?_drop] at hu
  exact hu
theorem below_of_grown {w w1 : World} (h : w.grownBy w1 none) : Below w.heap.size w w1 := ⟨h.os, h.tape, h.output, h.size, fun k hk => h.block k hk (by simp)⟩
section
variable {P : Program} {ops : Array Oper} {rest : List Oper} {o : Oper} {a : Act} {Q : Exit → Act → World → Prop} {Kc : Act → World → Prop}
/-- append(v, x...), rows of cells; a plain region. -/
theorem wpList_append_row {w0 W : World} (base : Nat) (hgd : o.guard = none) (s x : Operand) (t e : TypeId) (z : Value) (sz bytes : Nat)
    (ho : o.op = .call { callee := .builtin .append, args := #[s, x], argTypes := #[t, t] })
    (ht : P.underlying t = some (.slice e)) (hinfo : (P.info? e).map (fun i => (i.zero, i.size, i.bytes)) = some (some z, sz, bytes)) (hz : z.cells.size = sz) (hs0 : 0 < sz) (hb0 : 0 < bytes)
    (v : Value) (n : Nat) (xs : List Value) (ys : List (List Value)) (A : Option Addr) (m c : Nat) (hs : a.eval s = v) (hx : a.eval x = .slice A m c)
    (HO : W.ownsRow base e sz v n xs) (H1 : ∀ u ∈ xs, u.oneCell' = true) (HR : ReadsRow (RawIs sz) sz W A m ys) (HB : Below base w0 W) (hbase : base ≤ W.heap.size) (hl : (n + m) * bytes ≤ 140737488355328)
    (h : ∀ v1 w1, w1.ownsRow base e sz v1 (n + m) (xs ++ ys.flatten) → Below base w0 w1 → W.grownBy w1 v.ownBlock → (v1.ownBlock = v.ownBlock ∨ ∃ b, v1.ownBlock = some b ∧ W.heap.size ≤ b) → wpList P ops Q rest (a.put o.dst v1) w1) :
    wpList P ops Q (o :: rest) a W := by
  refine Kd.R_append_rows (Kd.raw sz) base hgd s x t e z bytes ho ht hinfo hz hs0 hb0 v (Kd.chunks sz n xs) ys A m c (fun _ => True) (fun _ => False) hs hx (raw_of_own HO H1) HR (fun _ _ hk => hk) (fun _ hk => hk.elim) (fun _ _ => trivial) HB hbase (by rw [Kd.chunks_length]; exact hl) ?_
  intro v1 w1 hr hb hg hat
  have := raw_flat hr
  rw [List.flatten_append, chunks_flat sz n xs (own_len HO), List.length_append, Kd.chunks_length, HR.1] at this
  exact h v1 w1 this hb hg hat
/-- The same in a region that draws. -/
theorem step_append_row {w0 W : World} (base : Nat) (hw : Region.wanted o (yielded ops a.tmps) = true) (s x : Operand) (t e : TypeId) (z : Value) (sz bytes : Nat)
    (ho : o.op = .call { callee := .builtin .append, args := #[s, x], argTypes := #[t, t] })
    (ht : P.underlying t = some (.slice e)) (hinfo : (P.info? e).map (fun i => (i.zero, i.size, i.bytes)) = some (some z, sz, bytes)) (hz : z.cells.size = sz) (hs0 : 0 < sz) (hb0 : 0 < bytes)
    (v : Value) (n : Nat) (xs : List Value) (ys : List (List Value)) (A : Option Addr) (m c : Nat) (hs : a.eval s = v) (hx : a.eval x = .slice A m c)
    (HO : W.ownsRow base e sz v n xs) (H1 : ∀ u ∈ xs, u.oneCell' = true) (HR : ReadsRow (RawIs sz) sz W A m ys) (HB : Below base w0 W) (hbase : base ≤ W.heap.size) (hl : (n + m) * bytes ≤ 140737488355328)
    (h : ∀ v1 w1, w1.ownsRow base e sz v1 (n + m) (xs ++ ys.flatten) → Below base w0 w1 → W.grownBy w1 v.ownBlock → (v1.ownBlock = v.ownBlock ∨ ∃ b, v1.ownBlock = some b ∧ W.heap.size ≤ b) → Kc (a.put o.dst v1) w1) :
    if Region.wanted o (yielded ops a.tmps) = true then Oper.wp P o a W Kc Q else Kc (a.put o.dst undef) W := by
  refine Kd.R_append_rows_step (Kd.raw sz) base hw s x t e z bytes ho ht hinfo hz hs0 hb0 v (Kd.chunks sz n xs) ys A m c (fun _ => True) (fun _ => False) hs hx (raw_of_own HO H1) HR (fun _ _ hk => hk) (fun _ hk => hk.elim) (fun _ _ => trivial) HB hbase (by rw [Kd.chunks_length]; exact hl) ?_
  intro v1 w1 hr hb hg hat
  have := raw_flat hr
  rw [List.flatten_append, chunks_flat sz n xs (own_len HO), List.length_append, Kd.chunks_length, HR.1] at this
  exact h v1 w1 this hb hg hat
/-- append([]T(nil), x...): a copy. -/
theorem wpList_copy_row {W : World} (hgd : o.guard = none) (x : Operand) (t e : TypeId) (z : Value) (sz bytes : Nat)
    (ho : o.op = .call { callee := .builtin .append, args := #[.const (.slice none 0 0), x], argTypes := #[t, t] })
    (ht : P.underlying t = some (.slice e)) (hinfo : (P.info? e).map (fun i => (i.zero, i.size, i.bytes)) = some (some z, sz, bytes)) (hz : z.cells.size = sz) (hs0 : 0 < sz) (hb0 : 0 < bytes)
    (ys : List (List Value)) (A : Option Addr) (m c : Nat) (hx : a.eval x = .slice A m c)
    (HR : ReadsRow (RawIs sz) sz W A m ys) (hl : m * bytes ≤ 140737488355328)
    (h : ∀ v1 w1, w1.ownsRow W.heap.size e sz v1 m ys.flatten → Below W.heap.size W w1 → wpList P ops Q rest (a.put o.dst v1) w1) :
    wpList P ops Q (o :: rest) a W := by
  refine wpList_append_row (w0 := W) W.heap.size hgd (.const (.slice none 0 0)) x t e z sz bytes ho ht hinfo hz hs0 hb0 (.slice none 0 0) 0 [] ys A m c rfl hx (own_nil _ _ _ _) (by simp) HR (Below.refl _ _) (Nat.le_refl _) (by rw [Nat.zero_add]; exact hl) ?_
  intro v1 w1 ho1 hb1 hg1 _
  rw [Nat.zero_add, List.nil_append] at ho1
  exact h v1 w1 ho1 hb1
theorem step_copy_row {W : World} (hw : Region.wanted o (yielded ops a.tmps) = true) (x : Operand) (t e : TypeId) (z : Value) (sz bytes : Nat)
    (ho : o.op = .call { callee := .builtin .append, args := #[.const (.slice none 0 0), x], argTypes := #[t, t] })
    (ht : P.underlying t = some (.slice e)) (hinfo : (P.info? e).map (fun i => (i.zero, i.size, i.bytes)) = some (some z, sz, bytes)) (hz : z.cells.size = sz) (hs0 : 0 < sz) (hb0 : 0 < bytes)
    (ys : List (List Value)) (A : Option Addr) (m c : Nat) (hx : a.eval x = .slice A m c)
    (HR : ReadsRow (RawIs sz) sz W A m ys) (hl : m * bytes ≤ 140737488355328)
    (h : ∀ v1 w1, w1.ownsRow W.heap.size e sz v1 m ys.flatten → Below W.heap.size W w1 → Kc (a.put o.dst v1) w1) :
    if Region.wanted o (yielded ops a.tmps) = true then Oper.wp P o a W Kc Q else Kc (a.put o.dst undef) W := by
  refine step_append_row (w0 := W) W.heap.size hw (.const (.slice none 0 0)) x t e z sz bytes ho ht hinfo hz hs0 hb0 (.slice none 0 0) 0 [] ys A m c rfl hx (own_nil _ _ _ _) (by simp) HR (Below.refl _ _) (Nat.le_refl _) (by rw [Nat.zero_add]; exact hl) ?_
  intro v1 w1 ho1 hb1 hg1 _
  rw [Nat.zero_add, List.nil_append] at ho1
  exact h v1 w1 ho1 hb1
end
theorem add_at (g o m : Nat) : (⟨g, o, none⟩ : Addr).add m = ⟨g, o + m, none⟩ := by
  unfold Addr.add
  split
  · rename_i h; rw [h]; rfl
  · rfl
/-- What is read of a part of an own row. -/
theorem reads_cut {w : World} {b e sz n c g : Nat} {xs : List Value} (h : w.ownsRow b e sz (.slice (some ⟨g, 0, none⟩) n c) n xs) (h1 : ∀ u ∈ xs, u.oneCell' = true) (hn : n ≤ 9223372036854775807) (i0 m : Nat) (him : i0 + m ≤ n) :
    ReadsRow (RawIs sz) sz w (some ⟨g, i0 * sz, none⟩) m (Kd.chunks sz m ((xs.drop (i0 * sz)).take (m * sz))) := by
  have hxl := own_len h
  have him2 : (i0 + m) * sz ≤ n * sz := Nat.mul_le_mul_right sz him
  rw [Nat.add_mul] at him2
  refine ⟨Kd.chunks_length _ _ _, by omega, fun h0 => ⟨_, rfl, fun j p hj => ?_⟩⟩
  have hjm : j < m := by have := (List.getElem?_eq_some_iff.1 hj).1; rwa [Kd.chunks_length] at this
  have hp := Kd.chunks_get hj
  have hm : (j + 1) * sz ≤ m * sz := Nat.mul_le_mul_right sz hjm
  rw [Nat.add_mul, Nat.one_mul] at hm
  have hl : p.length = sz := by rw [hp]; simp only [List.length_take, List.length_drop, hxl]; omega
  refine ⟨p, hl, ⟨rfl, hl, fun u hu => h1 u (by rw [hp] at hu; exact List.mem_of_mem_drop (List.mem_of_mem_take (List.mem_of_mem_drop (List.mem_of_mem_take hu))))⟩, fun i u hu => ?_⟩
  have hi : i < sz := by have := (List.getElem?_eq_some_iff.1 hu).1; omega
  rw [add_at, own_cells_at h _ (by omega)]
  rw [hp, List.getElem?_take, if_pos hi, List.getElem?_drop, List.getElem?_take, if_pos (by omega), List.getElem?_drop] at hu
  exact hu
/-- Bytes that are read, as rows of one cell. -/
theorem reads_bytes {w : World} {A : Option Addr} {n : Nat} {xs : List Int} (h : Kd.C (Kd.int .u8) w A n xs) : ReadsRow (RawIs 1) 1 w A n ((nums .u8 xs).map fun u => [u]) := by
  obtain ⟨h1, h2, h3⟩ := h
  refine ⟨by simpa [nums] using h1, h2, fun h0 => ?_⟩
  obtain ⟨ad, e, hc⟩ := h3 h0
  refine ⟨ad, e, fun j p hj => ?_⟩
  simp only [nums, List.getElem?_map, Option.map_eq_some_iff] at hj
  obtain ⟨u, ⟨x, hx, rfl⟩, rfl⟩ := hj
  obtain ⟨c, hl, hK, hcell⟩ := hc j x hx
  have hK' : c = [Value.int .u8 x] := hK
  subst hK'
  exact ⟨_, rfl, ⟨rfl, rfl, by simp [Value.oneCell']⟩, hcell⟩
theorem flat_ones (l : List Value) : (l.map fun u => [u]).flatten = l := by
  induction l with
  | nil => rfl
  | cons u l ih => rw [List.map_cons, List.flatten_cons, ih]; rfl
end Go.Proofs.Ytkomemnalpmbcaa.Nt
