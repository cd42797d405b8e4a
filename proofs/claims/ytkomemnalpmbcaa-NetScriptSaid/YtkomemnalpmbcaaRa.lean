/- The reference's net: its memory; New, is, Send. -/
import Derived.Test.YtkomemnalpmbcaaRw
set_option linter.unusedVariables false
set_option linter.unusedSimpArgs false
namespace Go.Proofs.Ytkomemnalpmbcaa.Nt
open Go.RowKit Go.Proofs.YtkomemnalpmbcaaW.PrintWords Go.Proofs.YtkomemnalpmbcaaW.PrintLast Go.Proofs.YtkomemnalpmbcaaW.PrintMore
attribute [local go_sem] max2_int min2_int max_two min_two max_three min_three max_four min_four
structure RefAt (w : World) (B q : Nat) (most next : Int) (l : List (Gr × Value)) (v : Value) : Prop where
  cell : w.heap[q]? = some (.cells #[v, .int .i64 most, .int .i64 next] 57 (0, 0))
  low : B ≤ q
  row : w.ownsRow B 31 5 v l.length (rowG l)
  frames : ∀ x ∈ l, w.ownsRow B 5 1 x.2 x.1.frame.length (nums .u8 x.1.frame)
theorem RefAt.below {w w' : World} {B q : Nat} {most next : Int} {l : List (Gr × Value)} {v : Value} (h : RefAt w B q most next l v) (hb : Below w.heap.size w w') : RefAt w' B q most next l v :=
  ⟨(hb.block q (blk_lt h.cell)).trans h.cell, h.low, own_move h.row (fun k hk => hb.block k (own_lt h.row k hk)), fun x hx => own_move (h.frames x hx) (fun k hk => hb.block k (own_lt (h.frames x hx) k hk))⟩
theorem RefAt.drewN {w : World} {B q : Nat} {most next : Int} {l : List (Gr × Value)} {v : Value} (h : RefAt w B q most next l v) (n : Nat) : RefAt (w.drewN n) B q most next l v := ⟨h.cell, h.low, h.row, h.frames⟩
theorem RefAt.f0 {w : World} {B q : Nat} {most next : Int} {l : List (Gr × Value)} {v : Value} (h : RefAt w B q most next l v) : w.cell? ⟨q, 0, none⟩ = some v := blk_cell h.cell 0
theorem RefAt.f1 {w : World} {B q : Nat} {most next : Int} {l : List (Gr × Value)} {v : Value} (h : RefAt w B q most next l v) : w.cell? ⟨q, 1, none⟩ = some (.int .i64 most) := blk_cell h.cell 1
theorem RefAt.f2 {w : World} {B q : Nat} {most next : Int} {l : List (Gr × Value)} {v : Value} (h : RefAt w B q most next l v) : w.cell? ⟨q, 2, none⟩ = some (.int .i64 next) := blk_cell h.cell 2
theorem RefAt.fr {w : World} {B q : Nat} {most next : Int} {l : List (Gr × Value)} {v : Value} (h : RefAt w B q most next l v) (j : Nat) : w.frozen? ⟨q, j, none⟩ = false := blk_frozen h.cell j
theorem RefAt.slice {w : World} {B q : Nat} {most next : Int} {l : List (Gr × Value)} {v : Value} (h : RefAt w B q most next l v) : ∃ A c, v = .slice A l.length c := own_slice h.row
theorem RefAt.one {w : World} {B q : Nat} {most next : Int} {l : List (Gr × Value)} {v : Value} (h : RefAt w B q most next l v) : ∀ u ∈ rowG l, u.oneCell' = true := by
  refine rowG_one' l (fun x hx u hu => ?_)
  simp only [cellsG, List.mem_cons, List.not_mem_nil, or_false] at hu
  obtain ⟨A, c, e⟩ := own_slice (h.frames x hx)
  rcases hu with rfl | rfl | rfl | rfl | rfl <;> first | rfl | (rw [e]; rfl)
/-- Its next number has risen. -/
theorem RefAt.rise {w : World} {B q : Nat} {most next : Int} {l : List (Gr × Value)} {v : Value} (h : RefAt w B q most next l v) (n' : Int) : RefAt (w.setCell ⟨q, 2, none⟩ (.int .i64 n')) B q most n' l v := by
  refine ⟨?_, h.low, own_setCell h.row (own_ne h.row h.cell (by decide)) _, fun x hx => own_setCell (h.frames x hx) (own_ne (h.frames x hx) h.cell (by decide)) _⟩
  rw [heap_setCell_same w q 2 _ 57 _ h.cell]; rfl
/-- It has another row. -/
theorem RefAt.other {w w' : World} {B q : Nat} {most next : Int} {l l' : List (Gr × Value)} {v v' : Value} (h : RefAt w B q most next l v) (hb : Below w.heap.size w w') (hr : w'.ownsRow B 31 5 v' l'.length (rowG l')) (hf : ∀ x ∈ l', w'.ownsRow B 5 1 x.2 x.1.frame.length (nums .u8 x.1.frame)) : RefAt (w'.setCell ⟨q, 0, none⟩ v') B q most next l' v' := by
  have hc := (hb.block q (blk_lt h.cell)).trans h.cell
  refine ⟨?_, h.low, own_setCell hr (own_ne hr hc (by decide)) _, fun x hx => own_setCell (hf x hx) (own_ne (hf x hx) hc (by decide)) _⟩
  rw [heap_setCell_same w' q 0 _ 57 _ hc]; rfl
/-- What of the memory a call on it may change: its own block alone. -/
theorem Kept.ref {w w' : World} {q : Nat} (hb : Below w.heap.size w w') (v' : Value) (i : Nat) : Kept w (w'.setCell ⟨q, i, none⟩ v') (fun k => k = q) := Kept.setCell (S := fun k => k = q) (Kept.of_below hb _) (p := ⟨q, i, none⟩) (.inl rfl) _
set_option maxHeartbeats 8000000 in
set_option maxRecDepth 100000 in
theorem RNew.no (m : Int) (w : World) (h : m < 1 ∨ m > 64) : Calls Try.prog 18 #[.int .i64 m] w fun e w' => e = .returned (.tuple #[.pointer none, .int .i64 2]) ∧ Drawn0 w w' := by
  rcases h with h | h
  · go_enter Try.func18, Try.ntmps18
    go_wp2
    go_ret2
    exact ⟨rfl, Drawn0.refl _⟩
  · have h' : ¬ m < 1 := by omega
    go_enter Try.func18, Try.ntmps18
    go_wp2
    go_ret2
    exact ⟨rfl, Drawn0.refl _⟩
set_option maxHeartbeats 8000000 in
set_option maxRecDepth 100000 in
theorem RNew.yes (m : Int) (w w0 : World) (B : Nat) (h1 : 1 ≤ m) (h2 : m ≤ 64) (hB : Below B w0 w) (hBs : B ≤ w.heap.size) :
    Calls Try.prog 18 #[.int .i64 m] w fun e w' => ∃ q, e = .returned (.tuple #[.pointer (some ⟨q, 0, none⟩), .int .i64 0]) ∧ RefAt w' B q m 0 [] (.slice none 0 0) ∧ Below B w0 w' ∧ Below w.heap.size w w' ∧ w.heap.size ≤ q := by
  have h1' : ¬ m < 1 := by omega
  have h2' : ¬ 64 < m := by omega
  go_enter Try.func18, Try.ntmps18
  go_wp2
  go_ret2
  refine ⟨_, rfl, ?_, ?_, ?_, Nat.le_refl _⟩
  · exact ⟨heap_alloc_new w _, hBs, own_nil _ _ _ _, fun x hx => by simp at hx⟩
  · exact hB.alloc hBs _
  · exact (Below.refl _ _).alloc (Nat.le_refl _) _
set_option maxHeartbeats 8000000 in
set_option maxRecDepth 100000 in
theorem Ris.in_ {w : World} {B q : Nat} {most next : Int} {l : List (Gr × Value)} {v : Value} (h : RefAt w B q most next l v) (i : Int) (h0 : 0 ≤ i) (h1 : i < (l.length : Int)) :
    Calls Try.prog 33 #[.pointer (some ⟨q, 0, none⟩), .int .i64 i] w fun e w' => e = .returned (.bool true) ∧ w = w' := by
  obtain ⟨A, c, rfl⟩ := h.slice
  have f0 := h.f0
  clear h
  go_enter Try.func33, Try.ntmps33
  go_wp2
  go_ret
  exact ⟨rfl, rfl⟩
set_option maxHeartbeats 8000000 in
set_option maxRecDepth 100000 in
theorem Ris.neg {w : World} {B q : Nat} {most next : Int} {l : List (Gr × Value)} {v : Value} (h : RefAt w B q most next l v) (i : Int) (h0 : ¬ 0 ≤ i) :
    Calls Try.prog 33 #[.pointer (some ⟨q, 0, none⟩), .int .i64 i] w fun e w' => e = .returned (.bool false) ∧ w = w' := by
  obtain ⟨A, c, rfl⟩ := h.slice
  have f0 := h.f0
  clear h
  go_enter Try.func33, Try.ntmps33
  go_wp2
  go_ret
  exact ⟨rfl, rfl⟩
set_option maxHeartbeats 8000000 in
set_option maxRecDepth 100000 in
theorem Ris.out {w : World} {B q : Nat} {most next : Int} {l : List (Gr × Value)} {v : Value} (h : RefAt w B q most next l v) (i : Int) (h0 : 0 ≤ i) (h1 : ¬ i < (l.length : Int)) :
    Calls Try.prog 33 #[.pointer (some ⟨q, 0, none⟩), .int .i64 i] w fun e w' => e = .returned (.bool false) ∧ w = w' := by
  obtain ⟨A, c, rfl⟩ := h.slice
  have f0 := h.f0
  clear h
  go_enter Try.func33, Try.ntmps33
  go_wp2
  go_ret
  exact ⟨rfl, rfl⟩
theorem Ris.eq {w : World} {B q : Nat} {most next : Int} {l : List (Gr × Value)} {v : Value} (h : RefAt w B q most next l v) (i : Int) (b : Bool) (hb : b = decide (0 ≤ i ∧ i < (l.length : Int))) :
    Calls Try.prog 33 #[.pointer (some ⟨q, 0, none⟩), .int .i64 i] w fun e w' => e = .returned (.bool b) ∧ w = w' := by
  subst hb
  by_cases h0 : 0 ≤ i
  · by_cases h1 : i < (l.length : Int)
    · rw [decide_eq_true ⟨h0, h1⟩]; exact Ris.in_ h i h0 h1
    · rw [decide_eq_false (by omega)]; exact Ris.out h i h0 h1
  · rw [decide_eq_false (by omega)]; exact Ris.neg h i h0
set_option maxHeartbeats 8000000 in
set_option maxRecDepth 100000 in
theorem RSend.full {w : World} {B q : Nat} {most next : Int} {l : List (Gr × Value)} {v : Value} (w0 : World) (hB : Below B w0 w) (h : RefAt w B q most next l v) (i j : Int) (A : Option Addr) (n c : Nat) (hm : most ≤ (l.length : Int)) (hn0 : 0 ≤ next) (hn1 : next ≤ 1000000) :
    Calls Try.prog 21 #[.pointer (some ⟨q, 0, none⟩), .int .i64 i, .int .i64 j, .slice A n c] w fun e w' => e = .returned (.tuple #[.int .i64 next, .bool false]) ∧ RefAt w' B q most (next + 1) l v ∧ Kept w w' (fun k => k = q) ∧ Below B w0 w' := by
  have HB := Aside0.mk (Below.setCell hB h.low (p := ⟨q, 2, none⟩) (.int .i64 (next + 1)))
  have HN := Aside0.mk (h.rise (next + 1))
  obtain ⟨A1, c1, rfl⟩ := h.slice
  have f0 := h.f0
  have f1 := h.f1
  have f2 := h.f2
  have r2 := h.fr 2
  clear h
  go_enter Try.func21, Try.ntmps21
  go_wp2
  go_quiet (fail)
  go_wp2
  go_ret2
  exact ⟨rfl, HN.out.drewN _, (Kept.ref (Below.refl _ _) _ 2).drewN _, pw_below_drewN HB.out _⟩
end Go.Proofs.Ytkomemnalpmbcaa.Nt
