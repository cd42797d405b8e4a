/- What NetScript's round needs beside the calls. -/
import Derived.Test.YtkomemnalpmbcaaOt
import Derived.Test.YtkomemnalpmbcaaOc
set_option linter.unusedVariables false
set_option linter.unusedSimpArgs false
namespace Go.Proofs.Ytkomemnalpmbcaa.Nt
open Go.RowKit Go.Proofs.YtkomemnalpmbcaaW.PrintWords Go.Proofs.YtkomemnalpmbcaaW.PrintLast Go.Proofs.YtkomemnalpmbcaaW.PrintMore
attribute [local go_sem] max2_int min2_int max_two min_two max_three min_three max_four min_four
theorem bytes_same {w w' : World} {A : Option Addr} {n : Nat} {xs : List Int} (h : Kd.C (Kd.int .u8) w A n xs) (hs : ∀ k, k < w.heap.size → w'.heap[k]? = w.heap[k]?) : Kd.C (Kd.int .u8) w' A n xs := by
  obtain ⟨h1, h2, h3⟩ := h
  refine ⟨h1, h2, fun h0 => ?_⟩
  obtain ⟨ad, e, hc⟩ := h3 h0
  refine ⟨ad, e, fun j p hj => ?_⟩
  obtain ⟨c, hl, hK, hcell⟩ := hc j p hj
  refine ⟨c, hl, hK, fun i u hu => ?_⟩
  have := hcell i u hu
  have hlt := World.block_lt_of_cell? w _ this
  rw [← this]
  unfold World.cell?
  rw [hs _ hlt]
theorem PLen {w W : World} {p q : Nat} {most N M : Int} {Lg Lr : List Gr} {PF : Nat → Prop} (h : PairAt w W p q most N Lg M Lr PF) : Calls Try.prog 12 #[.pointer (some ⟨p, 0, none⟩)] W fun e w' => e = .returned (.int .i64 (Lg.length : Int)) ∧ W = w' := by
  obtain ⟨g, v, rl, rv, ht, rfl, rfl⟩ := h.ex
  rw [List.length_map]
  exact Len.eq ht.net
theorem PList {w W : World} {p q : Nat} {most N M : Int} {Lg Lr : List Gr} {PF : Nat → Prop} (h : PairAt w W p q most N Lg M Lr PF) (hl : Lg.length ≤ 100000) (hf : ∀ x ∈ Lg, x.frame.length ≤ 100000) :
    Calls Try.prog 28 #[.pointer (some ⟨p, 0, none⟩)] W fun e w' => ∃ A c m, e = .returned (.slice A m.length c) ∧ m.map Prod.fst = Lg ∧ GivenG w' W.heap.size (.slice A m.length c) m ∧ Below W.heap.size W w' := by
  obtain ⟨g, v, rl, rv, ht, rfl, rfl⟩ := h.ex
  rw [List.length_map] at hl
  refine (List_.eq ht.net hl (fun x hx => hf x.1 (List.mem_map_of_mem hx))).mono ?_
  rintro e w' ⟨v3, m, rfl, hm, hg, hb⟩
  obtain ⟨A, c, rfl⟩ := own_slice hg.row
  exact ⟨A, c, m, rfl, hm, hg, hb⟩
theorem grams_own {w : World} {B c : Nat} {A : Option Addr} {m : List (Gr × Value)} (hr : w.ownsRow B 31 5 (.slice A m.length c) m.length (rowG m)) (hf : ∀ x ∈ m, w.ownsRow B 5 1 x.2 x.1.frame.length (nums .u8 x.1.frame)) (hs : ∀ x ∈ m, x.1.frame.length ≤ 200000) : GramsAt w A m := by
  refine ⟨fun h0 => ?_, fun x hx => ?_, hs⟩
  · obtain ⟨g, c', e, _, _⟩ := hr.form h0
    injection e with e1 e2 e3
    subst e1
    refine ⟨g, rfl, fun j x hx i u hu => ?_⟩
    have hj := (List.getElem?_eq_some_iff.1 hx).1
    have hi : i < 5 := (List.getElem?_eq_some_iff.1 hu).1
    rw [own_cells_at hr _ (by omega), rowG_at m j x hx i hi]
    exact hu
  · obtain ⟨F, cf, e⟩ := own_slice (hf x hx)
    have h := hf x hx
    rw [e] at h
    exact ⟨F, cf, e, own_le h, C_own h⟩
/-- The reference's list, to be read. -/
theorem PRef {w W : World} {p q : Nat} {most N M : Int} {Lg Lr : List Gr} {PF : Nat → Prop} (h : PairAt w W p q most N Lg M Lr PF) (hf : ∀ x ∈ Lr, x.frame.length ≤ 200000) : ∃ A c, W.cell? ⟨q, 0, none⟩ = some (.slice A Lr.length c) ∧ ∀ W', Below W.heap.size W W' → ∃ rl, rl.map Prod.fst = Lr ∧ GramsAt W' A rl := by
  obtain ⟨g, v, rl, rv, ht, rfl, rfl⟩ := h.ex
  obtain ⟨A, c, rfl⟩ := own_slice ht.ref.row
  refine ⟨A, c, by rw [List.length_map]; exact ht.ref.f0, fun W' hb => ⟨rl, rfl, ?_⟩⟩
  have h2 := ht.ref.below hb
  exact grams_own h2.row h2.frames (fun x hx => hf x.1 (List.mem_map_of_mem hx))
structure Mid (w W : World) (p q : Nat) (most N : Int) (L : List Gr) : Prop where
  pair : PairAt w W p q most N L N L (fun k => k < W.heap.size)
  n0 : 0 ≤ N
  n1 : N ≤ 1000
  room : (L.length : Int) ≤ most
  short : ∀ x ∈ L, x.frame.length ≤ 100
structure ScInv (w wr : World) (p q : Nat) (most : Int) (k : Nat) : Prop where
  ex : ∃ N L, Mid w wr p q most N L ∧ N ≤ (k : Int)
theorem SameGrams.map (A0 A1 : Option Addr) (n : Nat) (c0 c1 : Nat) (l m : List (Gr × Value)) (w : World) (hl : GramsAt w A0 l) (hm : GramsAt w A1 m) (he : l.map Prod.fst = m.map Prod.fst) (hn : l.length ≤ 100000) (h0 : l.length = n) :
    Calls Try.prog 25 #[.slice A0 n c0, .slice A1 n c1] w fun e w' => e = .returned (.bool true) ∧ Drawn0 w w' := by
  have h1 : m.length = n := by have := congrArg List.length he; simp at this; omega
  have := SameGrams.yes A0 A1 c0 c1 l m w hl hm he hn
  rw [h0, h1] at this
  exact this
theorem Num.calls (e : Int) (w : World) : Calls Try.prog 19 #[.int .i64 e] w fun r w' => r = .returned (.int .i64 e) ∧ w = w' := by
  go_enter Try.func19, Try.ntmps19
  go_wp2
  go_ret
  exact ⟨rfl, rfl⟩
theorem GivenG.weaken {w : World} {B B' : Nat} {v : Value} {m : List (Gr × Value)} (h : GivenG w B v m) (hb : B' ≤ B) : GivenG w B' v m := ⟨own_weaken h.row hb, fun x hx => own_weaken (h.frames x hx) hb, h.apart⟩
theorem GivenG.below {w w' : World} {B : Nat} {v : Value} {m : List (Gr × Value)} (h : GivenG w B v m) (hb : Below w.heap.size w w') : GivenG w' B v m := ⟨row_below h.row hb, fun x hx => row_below (h.frames x hx) hb, h.apart⟩
theorem GivenG.foot {w : World} {B : Nat} {v : Value} {m : List (Gr × Value)} (h : GivenG w B v m) (k : Nat) (hk : footG v m k) : B ≤ k := by
  rcases hk with hk | ⟨x, hx, hk⟩
  · exact own_base h.row k hk
  · exact own_base (h.frames x hx) k hk
/-- Behind a round: what was listed has been written over. -/
theorem Mid.over {w W W' W2 : World} {p q : Nat} {most N : Int} {L : List Gr} {v : Value} {m : List (Gr × Value)} {k : Nat} (h : Mid w W p q most N L) (hb : Below W.heap.size W W') (hg : ∀ k, footG v m k → W.heap.size ≤ k) (hk : Kept W' W2 (footG v m)) (hb2 : Below w.heap.size w W2) (hn : N ≤ (k : Int)) : ScInv w W2 p q most k := by
  refine ⟨N, L, ⟨?_, h.n0, h.n1, h.room, h.short⟩, hn⟩
  have h1 := (h.pair.later hb).kept hk hb2 (fun j hj hf => by have := hg j hf; omega)
  exact h1.wider (fun j hj _ => hj)
end Go.Proofs.Ytkomemnalpmbcaa.Nt
