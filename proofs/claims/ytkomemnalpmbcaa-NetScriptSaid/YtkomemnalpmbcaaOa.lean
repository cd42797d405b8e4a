/- What an argument reads as: bytes, an act, acts. -/
import Derived.Test.YtkomemnalpmbcaaNa
import Derived.Lib.SmallJoins
import Derived.Deep.Slices
import Derived.WalkKit
import Derived.ProofKit
import Derived.OpenShut
import Derived.ChangeOld
set_option linter.unusedVariables false
set_option linter.unusedSimpArgs false
namespace Go.Proofs.Ytkomemnalpmbcaa.Nt
open Go.RowKit Go.ChangeShapes Go.WideShapes Go.ChangeAt Go.Deep Go.Proofs.YtkomemnalpmbcaaW.PrintWords Go.Proofs.YtkomemnalpmbcaaW.PrintLast Go.Proofs.YtkomemnalpmbcaaW.PrintMore

theorem cells5 : Try.prog.cellsOf 5 = 1 := by kernel_rfl
theorem cells3 : Try.prog.cellsOf 3 = 1 := by kernel_rfl
theorem cells29 : Try.prog.cellsOf 29 = 1 := by kernel_rfl
theorem cells42 : Try.prog.cellsOf 42 = 5 := by kernel_rfl

/-- A value that reads as bytes. -/
def BytesAt (w : World) (v : Value) (l : List Int) : Prop :=
  ∃ A c, v = .slice A l.length c ∧ l.length ≤ c ∧ l.length ≤ maxLen ∧ Kd.C (Kd.int .u8) w A l.length l ∧ ∀ x ∈ l, (Lit.int .u8 x).wf = true
theorem BytesAt.below {w w' : World} {v : Value} {l : List Int} (h : BytesAt w v l) (hb : Below w.heap.size w w') : BytesAt w' v l := by
  obtain ⟨A, c, e, h1, h2, h3, h4⟩ := h
  exact ⟨A, c, e, h1, h2, Kd.C_below h3 hb, h4⟩

structure Ac where
  act : Int
  i : Int
  j : Int
  x : Int
  b : List Int
def cellsA (x : Ac × Value) : List Value := [.int .i64 x.1.act, .int .i64 x.1.i, .int .i64 x.1.j, .int .i64 x.1.x, x.2]
/-- A value that reads as acts. -/
structure ActsAt (w : World) (A : Option Addr) (l : List (Ac × Value)) : Prop where
  row : 0 < l.length → ∃ a, A = some a ∧ ∀ i x, l[i]? = some x → ∀ j u, (cellsA x)[j]? = some u → w.cell? ((a.add (i * 5)).add j) = some u
  bytes : ∀ x ∈ l, BytesAt w x.2 x.1.b
theorem ActsAt.below {w w' : World} {A : Option Addr} {l : List (Ac × Value)} (h : ActsAt w A l) (hb : Below w.heap.size w w') : ActsAt w' A l := by
  refine ⟨fun h0 => ?_, fun x hx => (h.bytes x hx).below hb⟩
  obtain ⟨a, e, hr⟩ := h.row h0
  exact ⟨a, e, fun i x hx j u hu => (hb.cell (World.block_lt_of_cell? w _ (hr i x hx j u hu))).trans (hr i x hx j u hu)⟩

section
variable {H : Type} {enc : TypeId × Value → H} {W : World}
theorem open_bytes {fuel : Nat} {cs : List Value} {x : DataW H × List MemPlace} (h : DataW.trod enc Try.prog W 0 (fun _ => true) true fuel 29 cs = some x) :
    ∃ v l, cs = [v] ∧ BytesAt W v l := by
  rcases open_ints Try.underlying29 Try.underlying5 cells5 h with ⟨hcs, _⟩ | ⟨a, len, cap, zs, hcs, _, hl, hm, hz, _, hcell, hwz⟩
  · exact ⟨_, [], hcs, none, 0, rfl, Nat.le_refl _, Nat.zero_le _, Kd.C_nil _ _, by simp⟩
  · simp only [if_true] at hz
    obtain ⟨l, e, h1, h2, h3, h4⟩ := ReadsInt.ofRowC (k := .u8) (w := W) (a := some a) (len := len) (cap := cap) (zs := zs) (.inr ⟨a, rfl, hl, hm, hz, hcell, hwz⟩)
    subst e
    exact ⟨_, l, hcs, some a, cap, rfl, h4, h2, Kd.C_of_reads (d := (0 : Int)) (h1 := fun _ => rfl) h1, h3⟩
theorem open_act {fuel : Nat} {cs : List Value} {x : DataW H × List MemPlace} (h : DataW.trod enc Try.prog W 0 (fun _ => true) true fuel 42 cs = some x) :
    ∃ y : Ac × Value, cs = cellsA y ∧ BytesAt W y.2 y.1.b := by
  obtain ⟨xs, n, _, _, hl, hlen, hf⟩ := DataW.trod_struct Try.underlying42 h
  rw [cells42] at hl
  match cs, hl with
  | [c0, c1, c2, c3, c4], _ =>
    match xs, hlen with
    | [y0, y1, y2, y3, y4], _ =>
      have f0 : DataW.trod enc Try.prog W 0 (fun _ => true) true n 3 [c0] = some y0 := by simpa [cells3, cells29] using hf 0 _ rfl
      have f1 : DataW.trod enc Try.prog W 0 (fun _ => true) true n 3 [c1] = some y1 := by simpa [cells3, cells29] using hf 1 _ rfl
      have f2 : DataW.trod enc Try.prog W 0 (fun _ => true) true n 3 [c2] = some y2 := by simpa [cells3, cells29] using hf 2 _ rfl
      have f3 : DataW.trod enc Try.prog W 0 (fun _ => true) true n 3 [c3] = some y3 := by simpa [cells3, cells29] using hf 3 _ rfl
      have f4 : DataW.trod enc Try.prog W 0 (fun _ => true) true n 29 [c4] = some y4 := by simpa [cells3, cells29] using hf 4 _ rfl
      obtain ⟨n0, e0, _⟩ := DataW.trod_int Try.underlying3 f0
      obtain ⟨n1, e1, _⟩ := DataW.trod_int Try.underlying3 f1
      obtain ⟨n2, e2, _⟩ := DataW.trod_int Try.underlying3 f2
      obtain ⟨n3, e3, _⟩ := DataW.trod_int Try.underlying3 f3
      obtain ⟨v, l, e4, hb⟩ := open_bytes f4
      simp only [List.cons.injEq, and_true] at e0 e1 e2 e3 e4
      subst e0 e1 e2 e3 e4
      exact ⟨(⟨n0, n1, n2, n3, l⟩, c4), rfl, hb⟩
theorem open_acts {fuel : Nat} {cs : List Value} {x : DataW H × List MemPlace} (h : DataW.trod enc Try.prog W 0 (fun _ => true) true fuel 38 cs = some x) :
    ∃ A l c, cs = [.slice A l.length c] ∧ l.length ≤ c ∧ c ≤ maxLen ∧ ActsAt W A l := by
  rcases open_slice Try.underlying38 h with ⟨hcs, _⟩ | ⟨a, len, cap, m, n, D, Pl, hcs, _, hl, hcm, hm, _, hel⟩
  · exact ⟨none, [], 0, hcs, Nat.le_refl _, Nat.zero_le _, ⟨fun h => absurd h (by simp), by simp⟩⟩
  · simp only [if_true] at hm
    subst hm
    have each : ∀ i, i < len → ∃ y : Ac × Value, (∀ j u, (cellsA y)[j]? = some u → W.cell? ((a.add (i * 5)).add j) = some u) ∧ BytesAt W y.2 y.1.b := by
      intro i hi
      obtain ⟨cs', hc, ht⟩ := hel i (by omega)
      obtain ⟨y, rfl, hb⟩ := open_act ht
      rw [cells42] at hc
      obtain ⟨_, _, hr⟩ := World.cells?_some hc
      exact ⟨y, fun j u hu => (hr j (by by_cases hj : j < 5; exact hj; rw [List.getElem?_eq_none (by simp [cellsA]; omega)] at hu; cases hu)).trans hu, hb⟩
    have hall : ∀ k, k ≤ len → ∃ l : List (Ac × Value), l.length = k ∧ ∀ i x, l[i]? = some x → (∀ j u, (cellsA x)[j]? = some u → W.cell? ((a.add (i * 5)).add j) = some u) ∧ BytesAt W x.2 x.1.b := by
      intro k
      induction k with
      | zero => exact fun _ => ⟨[], rfl, by simp⟩
      | succ k ih =>
        intro hk
        obtain ⟨l, hll, hr⟩ := ih (by omega)
        obtain ⟨y, hy⟩ := each k (by omega)
        refine ⟨l ++ [y], by simp [hll], fun i x hx => ?_⟩
        by_cases hi : i < l.length
        · exact hr i x (by rwa [List.getElem?_append_left hi] at hx)
        · rw [List.getElem?_append_right (by omega)] at hx
          have : i = k := by
            have := (List.getElem?_eq_some_iff.1 hx).1
            simp at this
            omega
          subst this
          rw [show i - l.length = 0 by omega] at hx
          simp only [List.getElem?_cons_zero, Option.some.injEq] at hx
          subst hx
          exact hy
    obtain ⟨l, hll, hr⟩ := hall len (Nat.le_refl _)
    subst hll
    refine ⟨some a, l, _, hcs, hl, hcm, ⟨fun _ => ⟨a, rfl, fun i x hx => (hr i x hx).1⟩, fun x hx => ?_⟩⟩
    obtain ⟨i, hi⟩ := List.getElem?_of_mem hx
    exact (hr i x hi).2
end
end Go.Proofs.Ytkomemnalpmbcaa.Nt
