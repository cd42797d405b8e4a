/- Both nets, the program's and the reference's, beside one another; what each call does, as one plain function of lists. -/
import Derived.Test.YtkomemnalpmbcaaOg
set_option linter.unusedVariables false
set_option linter.unusedSimpArgs false
namespace Go.Proofs.Ytkomemnalpmbcaa.Nt
open Go.RowKit Go.Proofs.YtkomemnalpmbcaaW.PrintWords Go.Proofs.YtkomemnalpmbcaaW.PrintLast Go.Proofs.YtkomemnalpmbcaaW.PrintMore
attribute [local go_sem] max2_int min2_int max_two min_two max_three min_three max_four min_four
def zeroG : Gr := ⟨0, 0, 0, [], false⟩
def inR (n : Nat) (i : Int) : Bool := decide (0 ≤ i ∧ i < (n : Int))
def atG (l : List Gr) (i : Int) : Gr := l.getD i.toNat zeroG
def delG (l : List Gr) (i : Int) : Gr := if inR l.length i then atG l i else zeroG
def delL (l : List Gr) (i : Int) : List Gr := if inR l.length i then l.eraseIdx i.toNat else l
def dblOk (l : List Gr) (most i : Int) : Bool := inR l.length i && decide ((l.length : Int) < most)
def dblL (l : List Gr) (most i : Int) : List Gr := if dblOk l most i then l ++ [atG l i] else l
def spoOk (l : List Gr) (i : Int) : Bool := inR l.length i && (!(atG l i).frame.isEmpty && !(atG l i).spoilt)
def turnB (y : Gr) (at_ : Int) : Nat := ((IntKind.u64.wrap at_).tmod (y.frame.length : Int)).toNat
def turnG (y : Gr) (at_ x : Int) : Gr := ⟨y.id, y.src, y.dst, y.frame.set (turnB y at_) (Go.bits BinOp.xor .u8 (y.frame.getD (turnB y at_) 0) (IntKind.u64.wrap (1 + (IntKind.u64.wrap x).tmod 255) % 256)), true⟩
def spoL (l : List Gr) (i at_ x : Int) : List Gr := if spoOk l i then l.set i.toNat (turnG (atG l i) at_ x) else l
def sndOk (l : List Gr) (most : Int) : Bool := decide ((l.length : Int) < most)
def sndL (l : List Gr) (most : Int) (y : Gr) : List Gr := if sndOk l most then l ++ [y] else l

theorem RefAt.move {w w' : World} {B q : Nat} {most next : Int} {l : List (Gr × Value)} {v : Value} (h : RefAt w B q most next l v) (hm : ∀ k, foot q v l k → w'.heap[k]? = w.heap[k]?) : RefAt w' B q most next l v :=
  ⟨(hm q (.inl rfl)).trans h.cell, h.low, own_move h.row (fun k hk => hm k (.inr (.inl hk))), fun x hx => own_move (h.frames x hx) (fun k hk => hm k (.inr (.inr ⟨x, hx, hk⟩)))⟩
theorem RefAt.foot_lt {w : World} {B q : Nat} {most next : Int} {l : List (Gr × Value)} {v : Value} (h : RefAt w B q most next l v) (k : Nat) (hk : foot q v l k) : k < w.heap.size := by
  rcases hk with rfl | hk | ⟨x, hx, hk⟩
  · exact blk_lt h.cell
  · exact own_lt h.row k hk
  · exact own_lt (h.frames x hx) k hk
structure Two (w W : World) (p q : Nat) (most N : Int) (g : List (Gr × Value)) (v : Value) (M : Int) (rl : List (Gr × Value)) (rv : Value) (PF : Nat → Prop) : Prop where
  net : NetAt W w.heap.size p most N g v
  ref : RefAt W w.heap.size q most M rl rv
  apart : ∀ k, foot q rv rl k → ¬ foot p v g k
  inn : ∀ k, foot p v g k → PF k
  inr : ∀ k, foot q rv rl k → PF k
structure PairAt (w W : World) (p q : Nat) (most N : Int) (Lg : List Gr) (M : Int) (Lr : List Gr) (PF : Nat → Prop) : Prop where
  below : Below w.heap.size w W
  ex : ∃ g v rl rv, Two w W p q most N g v M rl rv PF ∧ g.map Prod.fst = Lg ∧ rl.map Prod.fst = Lr
theorem Two.later {w W W' : World} {p q : Nat} {most N M : Int} {g rl : List (Gr × Value)} {v rv : Value} {PF : Nat → Prop} (h : Two w W p q most N g v M rl rv PF) (hb : Below W.heap.size W W') : Two w W' p q most N g v M rl rv PF := ⟨h.net.below hb, h.ref.below hb, h.apart, h.inn, h.inr⟩
theorem PairAt.later {w W W' : World} {p q : Nat} {most N M : Int} {Lg Lr : List Gr} {PF : Nat → Prop} (h : PairAt w W p q most N Lg M Lr PF) (hb : Below W.heap.size W W') : PairAt w W' p q most N Lg M Lr PF := by
  obtain ⟨g, v, rl, rv, h1, h2⟩ := h.ex
  exact ⟨below_step h.below hb, g, v, rl, rv, h1.later hb, h2⟩
theorem PairAt.wider {w W : World} {p q : Nat} {most N M : Int} {Lg Lr : List Gr} {PF PF' : Nat → Prop} (h : PairAt w W p q most N Lg M Lr PF) (hp : ∀ k, k < W.heap.size → PF k → PF' k) : PairAt w W p q most N Lg M Lr PF' := by
  obtain ⟨g, v, rl, rv, h1, h2⟩ := h.ex
  exact ⟨h.below, g, v, rl, rv, ⟨h1.net, h1.ref, h1.apart, fun k hk => hp k (h1.net.foot_lt k hk) (h1.inn k hk), fun k hk => hp k (h1.ref.foot_lt k hk) (h1.inr k hk)⟩, h2⟩
/-- What is outside both changes nothing. -/
theorem PairAt.kept {w W W' : World} {p q : Nat} {most N M : Int} {Lg Lr : List Gr} {PF S : Nat → Prop} (h : PairAt w W p q most N Lg M Lr PF) (hk : Kept W W' S) (hb : Below w.heap.size w W') (hn : ∀ k, PF k → ¬ S k) : PairAt w W' p q most N Lg M Lr PF := by
  obtain ⟨g, v, rl, rv, h1, h2⟩ := h.ex
  exact ⟨hb, g, v, rl, rv, ⟨h1.net.move (fun k hf => hk.2 k (h1.net.foot_lt k hf) (hn k (h1.inn k hf))), h1.ref.move (fun k hf => hk.2 k (h1.ref.foot_lt k hf) (hn k (h1.inr k hf))), h1.apart, h1.inn, h1.inr⟩, h2⟩
theorem Two.netTurn {w W W' : World} {p q : Nat} {most N N' M : Int} {g rl g' : List (Gr × Value)} {v rv v' : Value} {PF : Nat → Prop} (h : Two w W p q most N g v M rl rv PF) (hn : NetAt W' w.heap.size p most N' g' v') (hk : Kept W W' (foot p v g)) (hf : ∀ k, foot p v' g' k → foot p v g k ∨ W.heap.size ≤ k) :
    Two w W' p q most N' g' v' M rl rv (fun k => PF k ∨ W.heap.size ≤ k) := by
  refine ⟨hn, h.ref.move (fun k hk' => hk.2 k (h.ref.foot_lt k hk') (h.apart k hk')), fun k hk' hk2 => ?_, fun k hk' => ?_, fun k hk' => .inl (h.inr k hk')⟩
  · rcases hf k hk2 with h1 | h1
    · exact h.apart k hk' h1
    · have := h.ref.foot_lt k hk'; omega
  · rcases hf k hk' with h1 | h1
    · exact .inl (h.inn k h1)
    · exact .inr h1
theorem Two.refTurn {w W W' : World} {p q : Nat} {most N M M' : Int} {g rl rl' : List (Gr × Value)} {v rv rv' : Value} {PF : Nat → Prop} (h : Two w W p q most N g v M rl rv PF) (hn : RefAt W' w.heap.size q most M' rl' rv') (hk : Kept W W' (fun k => k = q)) (hf : ∀ k, foot q rv' rl' k → foot q rv rl k ∨ W.heap.size ≤ k) :
    Two w W' p q most N g v M' rl' rv' (fun k => PF k ∨ W.heap.size ≤ k) := by
  refine ⟨h.net.move (fun k hk' => hk.2 k (h.net.foot_lt k hk') (fun e => h.apart q (.inl rfl) (e ▸ hk'))), hn, fun k hk' hk2 => ?_, fun k hk' => .inl (h.inn k hk'), fun k hk' => ?_⟩
  · rcases hf k hk' with h1 | h1
    · exact h.apart k h1 hk2
    · have := h.net.foot_lt k hk2; omega
  · rcases hf k hk' with h1 | h1
    · exact .inl (h.inr k h1)
    · exact .inr h1
/-! ### plain laws -/
theorem map_at {g : List (Gr × Value)} {k : Nat} {x : Gr × Value} (h : g[k]? = some x) : atG (g.map Prod.fst) (k : Int) = x.1 := by
  unfold atG
  rw [Int.toNat_natCast, List.getD_eq_getElem?_getD, List.getElem?_map, h]
  rfl
theorem inR_yes {n : Nat} {i : Int} (h : 0 ≤ i ∧ i < (n : Int)) : inR n i = true := decide_eq_true h
theorem inR_no {n : Nat} {i : Int} (h : ¬ (0 ≤ i ∧ i < (n : Int))) : inR n i = false := decide_eq_false h
theorem map_erase (g : List (Gr × Value)) (k : Nat) : (g.eraseIdx k).map Prod.fst = (g.map Prod.fst).eraseIdx k := by
  induction g generalizing k with
  | nil => rfl
  | cons x g ih => cases k with
    | zero => rfl
    | succ k => simp [ih]
theorem foot_erase {p k : Nat} {v v' : Value} {g : List (Gr × Value)} (h : v'.ownBlock = v.ownBlock) : ∀ j, foot p v' (g.eraseIdx k) j → foot p v g j := by
  intro j hj
  rcases hj with rfl | hj | ⟨x, hx, hj⟩
  · exact .inl rfl
  · exact .inr (.inl (h ▸ hj))
  · exact .inr (.inr ⟨x, List.mem_of_mem_eraseIdx hx, hj⟩)
theorem PSend {w W : World} {p q : Nat} {most N M : Int} {Lg Lr : List Gr} {PF : Nat → Prop} (h : PairAt w W p q most N Lg M Lr PF) (i j : Int) (A : Option Addr) (xs : List Int) (c : Nat) (hr : ∀ w', Kept W w' PF → Kd.C (Kd.int .u8) w' A xs.length xs) (hc0 : xs.length ≤ c) (hx : xs.length ≤ 100000) (hm : (Lg.length : Int) ≤ most) (hl : Lg.length ≤ 100000) (hn0 : 0 ≤ N) (hn1 : N ≤ 1000000) :
    Calls Try.prog 9 #[.pointer (some ⟨p, 0, none⟩), .int .i64 i, .int .i64 j, .slice A xs.length c] W fun e w' => e = .returned (.tuple #[.int .i64 N, .bool (sndOk Lg most)]) ∧ PairAt w w' p q most (N + 1) (sndL Lg most ⟨N, i, j, xs, false⟩) M Lr (fun k => PF k ∨ W.heap.size ≤ k) ∧ Kept W w' PF := by
  obtain ⟨g, v, rl, rv, ht, rfl, rfl⟩ := h.ex
  rw [List.length_map] at hm hl
  by_cases hf : (g.length : Int) = most
  · have ho : sndOk (g.map Prod.fst) most = false := decide_eq_false (by rw [List.length_map]; omega)
    refine (Send.full w h.below ht.net i j A xs.length c hf hn0 hn1).mono ?_
    rintro e w' ⟨rfl, hn, hk, hb⟩
    unfold sndL
    rw [ho]
    exact ⟨rfl, ⟨hb, g, v, rl, rv, ht.netTurn hn hk (fun k h => .inl h), rfl, rfl⟩, hk.mono ht.inn⟩
  · have ho : sndOk (g.map Prod.fst) most = true := decide_eq_true (by rw [List.length_map]; omega)
    refine (Send.room w h.below ht.net i j A xs c (fun w' hk => hr w' (hk.mono ht.inn)) hc0 hx hf hl hn0 hn1).mono ?_
    rintro e w' ⟨v', fv, rfl, hn, hk, hb, hg⟩
    unfold sndL
    rw [ho]
    exact ⟨rfl, ⟨hb, _, v', rl, rv, ht.netTurn hn hk hg, by simp, rfl⟩, hk.mono ht.inn⟩
theorem PDrop {w W : World} {p q : Nat} {most N M : Int} {Lg Lr : List Gr} {PF : Nat → Prop} (h : PairAt w W p q most N Lg M Lr PF) (hl : Lg.length ≤ 100000) (i : Int) :
    Calls Try.prog 15 #[.pointer (some ⟨p, 0, none⟩), .int .i64 i] W fun e w' => e = .returned (.tuple #[.int .i64 (delG Lg i).id, .bool (inR Lg.length i)]) ∧ PairAt w w' p q most N (delL Lg i) M Lr (fun k => PF k ∨ W.heap.size ≤ k) ∧ Kept W w' PF := by
  obtain ⟨g, v, rl, rv, ht, rfl, rfl⟩ := h.ex
  rw [List.length_map] at hl
  by_cases hi : 0 ≤ i ∧ i < (g.length : Int)
  · obtain ⟨k, rfl⟩ := Int.eq_ofNat_of_zero_le hi.1
    obtain ⟨x, hx⟩ : ∃ x, g[k]? = some x := ⟨_, List.getElem?_eq_getElem (by omega)⟩
    have hir : inR (g.map Prod.fst).length (k : Int) = true := inR_yes (by rw [List.length_map]; exact hi)
    refine (Drop.yes w h.below ht.net k x hx hl).mono ?_
    rintro e w' ⟨v', rfl, hn, hk, hb, ho⟩
    unfold delG delL
    rw [hir, map_at hx]
    exact ⟨rfl, ⟨hb, _, v', rl, rv, ht.netTurn hn hk (fun j hj => .inl (foot_erase ho j hj)), by rw [map_erase]; rfl, rfl⟩, hk.mono ht.inn⟩
  · have hir : inR (g.map Prod.fst).length i = false := inR_no (by rw [List.length_map]; exact hi)
    refine (Drop.no ht.net i hi).mono ?_
    rintro e w' ⟨rfl, hb⟩
    unfold delG delL
    rw [hir]
    exact ⟨rfl, ⟨below_step h.below hb, g, v, rl, rv, ht.netTurn (ht.net.below hb) (Kept.of_below hb _) (fun j hj => .inl hj), rfl, rfl⟩, Kept.of_below hb _⟩
theorem PDeliver {w W : World} {p q : Nat} {most N M : Int} {Lg Lr : List Gr} {PF : Nat → Prop} (h : PairAt w W p q most N Lg M Lr PF) (hl : Lg.length ≤ 100000) (i : Int) :
    Calls Try.prog 10 #[.pointer (some ⟨p, 0, none⟩), .int .i64 i] W fun e w' => ∃ Ay cy, e = .returned (.tuple #[.agg #[.int .i64 (delG Lg i).id, .int .i64 (delG Lg i).src, .int .i64 (delG Lg i).dst, .slice Ay (delG Lg i).frame.length cy, .bool (delG Lg i).spoilt], .bool (inR Lg.length i)]) ∧ w'.ownsRow w.heap.size 5 1 (.slice Ay (delG Lg i).frame.length cy) (delG Lg i).frame.length (nums .u8 (delG Lg i).frame) ∧ PairAt w w' p q most N (delL Lg i) M Lr (fun k => PF k ∨ W.heap.size ≤ k) ∧ Kept W w' PF := by
  obtain ⟨g, v, rl, rv, ht, rfl, rfl⟩ := h.ex
  rw [List.length_map] at hl
  by_cases hi : 0 ≤ i ∧ i < (g.length : Int)
  · obtain ⟨k, rfl⟩ := Int.eq_ofNat_of_zero_le hi.1
    obtain ⟨x, hx⟩ : ∃ x, g[k]? = some x := ⟨_, List.getElem?_eq_getElem (by omega)⟩
    have hir : inR (g.map Prod.fst).length (k : Int) = true := inR_yes (by rw [List.length_map]; exact hi)
    obtain ⟨Ay, cy, hxs⟩ := own_slice (ht.net.frames x (List.mem_of_getElem? hx))
    refine (Deliver.yes w h.below ht.net k x hx hl).mono ?_
    rintro e w' ⟨v', rfl, hn, hk, hb, ho, hfr⟩
    unfold delG delL
    rw [hir, map_at hx]
    rw [hxs] at hfr
    exact ⟨Ay, cy, by simp only [aggG, hxs]; rfl, hfr, ⟨hb, _, v', rl, rv, ht.netTurn hn hk (fun j hj => .inl (foot_erase ho j hj)), by rw [map_erase]; rfl, rfl⟩, hk.mono ht.inn⟩
  · have hir : inR (g.map Prod.fst).length i = false := inR_no (by rw [List.length_map]; exact hi)
    refine (Deliver.no ht.net i hi).mono ?_
    rintro e w' ⟨rfl, hb⟩
    unfold delG delL
    rw [hir]
    exact ⟨none, 0, rfl, own_nil _ _ _ _, ⟨below_step h.below hb, g, v, rl, rv, ht.netTurn (ht.net.below hb) (Kept.of_below hb _) (fun j hj => .inl hj), rfl, rfl⟩, Kept.of_below hb _⟩
theorem PDouble {w W : World} {p q : Nat} {most N M : Int} {Lg Lr : List Gr} {PF : Nat → Prop} (h : PairAt w W p q most N Lg M Lr PF) (hl : Lg.length ≤ 100000) (hm : (Lg.length : Int) ≤ most) (hf : ∀ x ∈ Lg, x.frame.length ≤ 100000) (i : Int) :
    Calls Try.prog 16 #[.pointer (some ⟨p, 0, none⟩), .int .i64 i] W fun e w' => e = .returned (.bool (dblOk Lg most i)) ∧ PairAt w w' p q most N (dblL Lg most i) M Lr (fun k => PF k ∨ W.heap.size ≤ k) ∧ Kept W w' PF := by
  obtain ⟨g, v, rl, rv, ht, rfl, rfl⟩ := h.ex
  rw [List.length_map] at hl hm
  by_cases hi : 0 ≤ i ∧ i < (g.length : Int)
  · obtain ⟨k, rfl⟩ := Int.eq_ofNat_of_zero_le hi.1
    obtain ⟨x, hx⟩ : ∃ x, g[k]? = some x := ⟨_, List.getElem?_eq_getElem (by omega)⟩
    have hir : inR (g.map Prod.fst).length (k : Int) = true := inR_yes (by rw [List.length_map]; exact hi)
    by_cases hfull : (g.length : Int) = most
    · have ho : dblOk (g.map Prod.fst) most (k : Int) = false := by unfold dblOk; rw [hir, List.length_map, decide_eq_false (by omega)]; rfl
      refine (Double.full ht.net k hi hfull).mono ?_
      rintro e w' ⟨rfl, hd⟩
      unfold dblL
      rw [ho]
      exact ⟨rfl, ⟨below_step h.below hd.below, g, v, rl, rv, ht.netTurn (ht.net.below hd.below) (Kept.of_below hd.below _) (fun j hj => .inl hj), rfl, rfl⟩, Kept.of_below hd.below _⟩
    · have ho : dblOk (g.map Prod.fst) most (k : Int) = true := by unfold dblOk; rw [hir, List.length_map, decide_eq_true (by omega)]; rfl
      refine (Double.yes w h.below ht.net k x hx hfull hl (hf x.1 (List.mem_map_of_mem (List.mem_of_getElem? hx)))).mono ?_
      rintro e w' ⟨v', fv, rfl, hn, hk, hb, hg⟩
      unfold dblL
      rw [ho, map_at hx]
      exact ⟨rfl, ⟨hb, _, v', rl, rv, ht.netTurn hn hk hg, by simp, rfl⟩, hk.mono ht.inn⟩
  · have hir : inR (g.map Prod.fst).length i = false := inR_no (by rw [List.length_map]; exact hi)
    have ho : dblOk (g.map Prod.fst) most i = false := by unfold dblOk; rw [hir]; rfl
    refine (Double.out ht.net i hi).mono ?_
    rintro e w' ⟨rfl, hd⟩
    unfold dblL
    rw [ho]
    exact ⟨rfl, ⟨below_step h.below hd.below, g, v, rl, rv, ht.netTurn (ht.net.below hd.below) (Kept.of_below hd.below _) (fun j hj => .inl hj), rfl, rfl⟩, Kept.of_below hd.below _⟩
theorem turn_eq {y : Gr} {at_ x nb b : Int} {j : Nat} (hb : y.frame[j]? = some b) (hj : (j : Int) = (IntKind.u64.wrap at_).tmod (y.frame.length : Int)) (hnb : nb = (Go.bits BinOp.xor .u8 b (IntKind.u64.wrap (1 + (IntKind.u64.wrap x).tmod 255) % 256))) : (⟨y.id, y.src, y.dst, y.frame.set j nb, true⟩ : Gr) = turnG y at_ x := by
  have e : turnB y at_ = j := by unfold turnB; rw [← hj, Int.toNat_natCast]
  unfold turnG
  rw [e, List.getD_eq_getElem?_getD, hb, Option.getD_some, hnb]
theorem map_set' (g : List (Gr × Value)) (k : Nat) (z : Gr × Value) : (g.set k z).map Prod.fst = (g.map Prod.fst).set k z.1 := List.map_set
theorem foot_set {p k : Nat} {v : Value} {g : List (Gr × Value)} {x : Gr × Value} {z : Gr} (hx : g[k]? = some x) : ∀ j, foot p v (g.set k (z, x.2)) j → foot p v g j := by
  intro j hj
  rcases hj with rfl | hj | ⟨y, hy, hj⟩
  · exact .inl rfl
  · exact .inr (.inl hj)
  · rcases List.mem_or_eq_of_mem_set hy with hy | rfl
    · exact .inr (.inr ⟨y, hy, hj⟩)
    · exact .inr (.inr ⟨x, List.mem_of_getElem? hx, hj⟩)
theorem PSpoil {w W : World} {p q : Nat} {most N M : Int} {Lg Lr : List Gr} {PF : Nat → Prop} (h : PairAt w W p q most N Lg M Lr PF) (hf : ∀ x ∈ Lg, x.frame.length ≤ 100000) (i at_ x : Int) :
    Calls Try.prog 17 #[.pointer (some ⟨p, 0, none⟩), .int .i64 i, .int .i64 at_, .int .i64 x] W fun e w' => e = .returned (.bool (spoOk Lg i)) ∧ PairAt w w' p q most N (spoL Lg i at_ x) M Lr (fun k => PF k ∨ W.heap.size ≤ k) ∧ Kept W w' PF := by
  obtain ⟨g, v, rl, rv, ht, rfl, rfl⟩ := h.ex
  have hsame := fun (w' : World) (hb : Below W.heap.size W w') => (⟨below_step h.below hb, g, v, rl, rv, ht.netTurn (ht.net.below hb) (Kept.of_below hb _) (fun j hj => .inl hj), rfl, rfl⟩ : PairAt w w' p q most N (g.map Prod.fst) M (rl.map Prod.fst) (fun k => PF k ∨ W.heap.size ≤ k))
  by_cases hi : 0 ≤ i ∧ i < (g.length : Int)
  · obtain ⟨k, rfl⟩ := Int.eq_ofNat_of_zero_le hi.1
    obtain ⟨y, hy⟩ : ∃ y, g[k]? = some y := ⟨_, List.getElem?_eq_getElem (by omega)⟩
    have hir : inR (g.map Prod.fst).length (k : Int) = true := inR_yes (by rw [List.length_map]; exact hi)
    have hat := map_at hy
    by_cases hz : y.1.frame = []
    · have ho : spoOk (g.map Prod.fst) (k : Int) = false := by unfold spoOk; rw [hir, hat, hz]; rfl
      refine (Spoil.empty ht.net k y hy hz at_ x).mono ?_
      rintro e w' ⟨rfl, rfl⟩
      unfold spoL
      rw [ho]
      exact ⟨rfl, hsame _ (Below.refl _ _), Kept.refl _ _⟩
    · have hz' : 0 < y.1.frame.length := List.length_pos_iff.2 hz
      have hem : y.1.frame.isEmpty = false := by cases hh : y.1.frame with | nil => exact absurd hh hz | cons _ _ => rfl
      cases hs : y.1.spoilt with
      | true =>
        have ho : spoOk (g.map Prod.fst) (k : Int) = false := by unfold spoOk; rw [hir, hat, hs]; simp
        refine (Spoil.spoilt ht.net k y hy hz' hs at_ x).mono ?_
        rintro e w' ⟨rfl, rfl⟩
        unfold spoL
        rw [ho]
        exact ⟨rfl, hsame _ (Below.refl _ _), Kept.refl _ _⟩
      | false =>
        have ho : spoOk (g.map Prod.fst) (k : Int) = true := by unfold spoOk; rw [hir, hat, hs, hem]; rfl
        refine (Spoil.yes w h.below ht.net k y hy hz' hs (hf y.1 (List.mem_map_of_mem (List.mem_of_getElem? hy))) at_ x).mono ?_
        rintro e w' ⟨j, nb, b, rfl, hb, hnb, hj, hn, hk, hbl⟩
        unfold spoL
        rw [ho, hat]
        exact ⟨rfl, ⟨hbl, _, v, rl, rv, ht.netTurn hn hk (fun j hj => .inl (foot_set hy j hj)), by rw [map_set', if_pos rfl, Int.toNat_natCast, turn_eq hb hj hnb], rfl⟩, hk.mono ht.inn⟩
  · have hir : inR (g.map Prod.fst).length i = false := inR_no (by rw [List.length_map]; exact hi)
    have ho : spoOk (g.map Prod.fst) i = false := by unfold spoOk; rw [hir]; rfl
    refine (Spoil.out ht.net i at_ x hi).mono ?_
    rintro e w' ⟨rfl, rfl⟩
    unfold spoL
    rw [ho]
    exact ⟨rfl, hsame _ (Below.refl _ _), Kept.refl _ _⟩
end Go.Proofs.Ytkomemnalpmbcaa.Nt
