/- What a net's memory looks like, and small laws on it. -/
import Derived.Test.YtkomemnalpmbcaaPNetScriptx0
import Derived.WalkSpells
import Derived.Lib.SliceRun
import Derived.Outline
set_option linter.unusedVariables false
set_option linter.unusedSimpArgs false
namespace Go.Proofs.Ytkomemnalpmbcaa.Nt
open Go.RowKit Go.Proofs.YtkomemnalpmbcaaW.PrintWords Go.Proofs.YtkomemnalpmbcaaW.PrintLast Go.Proofs.YtkomemnalpmbcaaW.PrintMore
attribute [local go_sem] max2_int min2_int max_two min_two max_three min_three max_four min_four

structure Gr where
  id : Int
  src : Int
  dst : Int
  frame : List Int
  spoilt : Bool

def cellsG (x : Gr × Value) : List Value := [.int .i64 x.1.id, .int .i64 x.1.src, .int .i64 x.1.dst, x.2, .bool x.1.spoilt]
def rowG (l : List (Gr × Value)) : List Value := l.flatMap cellsG
theorem cellsG_length (x : Gr × Value) : (cellsG x).length = 5 := rfl
theorem rowG_length (l : List (Gr × Value)) : (rowG l).length = l.length * 5 := by
  induction l with
  | nil => rfl
  | cons x l ih => simp only [rowG, List.flatMap_cons, List.length_append, cellsG_length, List.length_cons] at *; omega
theorem rowG_append (l m : List (Gr × Value)) : rowG (l ++ m) = rowG l ++ rowG m := by simp [rowG]
theorem rowG_one (x : Gr × Value) : rowG [x] = cellsG x := by simp [rowG]

/-- The blocks that a net holds. -/
def foot (p : Nat) (v : Value) (l : List (Gr × Value)) (k : Nat) : Prop := k = p ∨ v.ownBlock = some k ∨ ∃ x ∈ l, x.2.ownBlock = some k

structure NetAt (w : World) (B p : Nat) (most next : Int) (l : List (Gr × Value)) (v : Value) : Prop where
  cell : w.heap[p]? = some (.cells #[.int .i64 most, .int .i64 next, v] 63 (0, 0))
  low : B ≤ p
  row : w.ownsRow B 31 5 v l.length (rowG l)
  frames : ∀ x ∈ l, w.ownsRow B 5 1 x.2 x.1.frame.length (nums .u8 x.1.frame)
  apart : l.Pairwise fun x y => NeRow x.2 y.2

theorem NetAt.foot_low {w : World} {B p : Nat} {most next : Int} {l : List (Gr × Value)} {v : Value} (h : NetAt w B p most next l v) (k : Nat) (hk : foot p v l k) : B ≤ k := by
  rcases hk with rfl | hk | ⟨x, hx, hk⟩
  · exact h.low
  · exact own_base h.row k hk
  · exact own_base (h.frames x hx) k hk
theorem NetAt.foot_lt {w : World} {B p : Nat} {most next : Int} {l : List (Gr × Value)} {v : Value} (h : NetAt w B p most next l v) (k : Nat) (hk : foot p v l k) : k < w.heap.size := by
  rcases hk with rfl | hk | ⟨x, hx, hk⟩
  · exact (Array.getElem?_eq_some_iff.1 h.cell).1
  · exact own_lt h.row k hk
  · exact own_lt (h.frames x hx) k hk
/-- What is outside a net may change. -/
theorem NetAt.move {w w' : World} {B p : Nat} {most next : Int} {l : List (Gr × Value)} {v : Value} (h : NetAt w B p most next l v) (hm : ∀ k, foot p v l k → w'.heap[k]? = w.heap[k]?) : NetAt w' B p most next l v :=
  ⟨(hm p (.inl rfl)).trans h.cell, h.low, own_move h.row (fun k hk => hm k (.inr (.inl hk))), fun x hx => own_move (h.frames x hx) (fun k hk => hm k (.inr (.inr ⟨x, hx, hk⟩))), h.apart⟩
theorem NetAt.below {w w' : World} {B p : Nat} {most next : Int} {l : List (Gr × Value)} {v : Value} (h : NetAt w B p most next l v) (hb : Below w.heap.size w w') : NetAt w' B p most next l v :=
  h.move fun k hk => hb.block k (h.foot_lt k hk)
theorem NetAt.kept {w w' : World} {B p : Nat} {most next : Int} {l : List (Gr × Value)} {v : Value} {S : Nat → Prop} (h : NetAt w B p most next l v) (hk : Kept w w' S) (hn : ∀ k, foot p v l k → ¬ S k) : NetAt w' B p most next l v :=
  h.move fun k hf => hk.2 k (h.foot_lt k hf) (hn k hf)
theorem NetAt.slice {w : World} {B p : Nat} {most next : Int} {l : List (Gr × Value)} {v : Value} (h : NetAt w B p most next l v) : ∃ A c, v = .slice A l.length c ∧ l.length ≤ c := by
  obtain ⟨A, c, rfl⟩ := own_slice h.row
  exact ⟨A, c, rfl, own_le h.row⟩
theorem NetAt.f0 {w : World} {B p : Nat} {most next : Int} {l : List (Gr × Value)} {v : Value} (h : NetAt w B p most next l v) : w.cell? ⟨p, 0, none⟩ = some (.int .i64 most) := by rw [cell_of_row w p 0 _ _ _ h.cell]; rfl
theorem NetAt.f1 {w : World} {B p : Nat} {most next : Int} {l : List (Gr × Value)} {v : Value} (h : NetAt w B p most next l v) : w.cell? ⟨p, 1, none⟩ = some (.int .i64 next) := by rw [cell_of_row w p 1 _ _ _ h.cell]; rfl
theorem NetAt.f2 {w : World} {B p : Nat} {most next : Int} {l : List (Gr × Value)} {v : Value} (h : NetAt w B p most next l v) : w.cell? ⟨p, 2, none⟩ = some v := by rw [cell_of_row w p 2 _ _ _ h.cell]; rfl
theorem NetAt.fr {w : World} {B p : Nat} {most next : Int} {l : List (Gr × Value)} {v : Value} (h : NetAt w B p most next l v) (j : Nat) : w.frozen? ⟨p, j, none⟩ = false := by
  have := h.cell
  simp [World.frozen?, this]

/-! ### New -/
set_option maxHeartbeats 4000000 in
theorem New.no (m : Int) (w : World) (h : m < 1 ∨ m > 64) : Calls Try.prog 8 #[.int .i64 m] w fun e w' => e = .returned (.tuple #[.pointer none, .int .i64 2]) ∧ Drawn0 w w' := by
  rcases h with h | h
  · go_enter Try.func8, Try.ntmps8
    go_wp2
    go_ret2
    exact ⟨rfl, Drawn0.refl _⟩
  · have h' : ¬ m < 1 := by omega
    go_enter Try.func8, Try.ntmps8
    go_wp2
    go_ret2
    exact ⟨rfl, Drawn0.refl _⟩
set_option maxHeartbeats 4000000 in
theorem New.yes (m : Int) (w w0 : World) (B : Nat) (h1 : 1 ≤ m) (h2 : m ≤ 64) (hB : Below B w0 w) (hBs : B ≤ w.heap.size) :
    Calls Try.prog 8 #[.int .i64 m] w fun e w' => ∃ p, e = .returned (.tuple #[.pointer (some ⟨p, 0, none⟩), .int .i64 0]) ∧ NetAt w' B p m 0 [] (.slice none 0 0) ∧ Below B w0 w' ∧ Below w.heap.size w w' ∧ w.heap.size ≤ p := by
  have h1' : ¬ m < 1 := by omega
  have h2' : ¬ 64 < m := by omega
  go_enter Try.func8, Try.ntmps8
  go_wp2
  go_ret2
  refine ⟨_, rfl, ?_, ?_, ?_, Nat.le_refl _⟩
  · exact ⟨heap_alloc_new w _, hBs, own_nil _ _ _ _, fun x hx => by simp at hx, List.Pairwise.nil⟩
  · exact hB.alloc hBs _
  · exact (Below.refl _ _).alloc (Nat.le_refl _) _

/-! ### is -/
set_option maxHeartbeats 4000000 in
theorem is.nil (i : Int) (w : World) : Calls Try.prog 31 #[.pointer none, .int .i64 i] w fun e w' => e = .returned (.bool false) ∧ w = w' := by
  go_enter Try.func31, Try.ntmps31
  go_wp2
  go_ret
  exact ⟨rfl, rfl⟩
set_option maxHeartbeats 4000000 in
theorem is.eq {w : World} {B p : Nat} {most next : Int} {l : List (Gr × Value)} {v : Value} (h : NetAt w B p most next l v) (i : Int) :
    Calls Try.prog 31 #[.pointer (some ⟨p, 0, none⟩), .int .i64 i] w fun e w' => e = .returned (.bool (decide (0 ≤ i ∧ i < (l.length : Int)))) ∧ w = w' := by
  obtain ⟨A, c, rfl, hc⟩ := h.slice
  have f2 := h.f2
  by_cases h0 : 0 ≤ i
  · by_cases h1 : i < (l.length : Int)
    · have e : decide (0 ≤ i ∧ i < (l.length : Int)) = true := decide_eq_true ⟨h0, h1⟩
      rw [e]
      clear h e hc
      go_enter Try.func31, Try.ntmps31
      go_wp2
      go_ret
      exact ⟨rfl, rfl⟩
    · have e : decide (0 ≤ i ∧ i < (l.length : Int)) = false := decide_eq_false (by omega)
      rw [e]
      clear h e hc
      go_enter Try.func31, Try.ntmps31
      go_wp2
      go_ret
      exact ⟨rfl, rfl⟩
  · have e : decide (0 ≤ i ∧ i < (l.length : Int)) = false := decide_eq_false (by omega)
    rw [e]
    clear h e hc
    go_enter Try.func31, Try.ntmps31
    go_wp2
    go_ret
    exact ⟨rfl, rfl⟩

/-! ### Len -/
set_option maxHeartbeats 4000000 in
theorem Len.nil (w : World) : Calls Try.prog 12 #[.pointer none] w fun e w' => e = .returned (.int .i64 0) ∧ w = w' := by
  go_enter Try.func12, Try.ntmps12
  go_wp2
  go_ret
  exact ⟨rfl, rfl⟩
set_option maxHeartbeats 4000000 in
theorem Len.eq {w : World} {B p : Nat} {most next : Int} {l : List (Gr × Value)} {v : Value} (h : NetAt w B p most next l v) :
    Calls Try.prog 12 #[.pointer (some ⟨p, 0, none⟩)] w fun e w' => e = .returned (.int .i64 (l.length : Int)) ∧ w = w' := by
  obtain ⟨A, c, rfl, hc⟩ := h.slice
  have f2 := h.f2
  clear h hc
  go_enter Try.func12, Try.ntmps12
  go_wp2
  go_ret
  exact ⟨rfl, rfl⟩
end Go.Proofs.Ytkomemnalpmbcaa.Nt
