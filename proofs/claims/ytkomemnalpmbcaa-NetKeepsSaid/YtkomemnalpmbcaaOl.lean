/- NetKeeps: the net's turns, whatever they come to. -/
import Derived.Test.YtkomemnalpmbcaaNj
import Derived.Test.YtkomemnalpmbcaaNl
import Derived.Laws.BitsAllLaws
set_option linter.unusedVariables false
set_option linter.unusedSimpArgs false
namespace Go.Proofs.Ytkomemnalpmbcaa.Nt
open Go.RowKit Go.Proofs.YtkomemnalpmbcaaW.PrintWords Go.Proofs.YtkomemnalpmbcaaW.PrintLast Go.Proofs.YtkomemnalpmbcaaW.PrintMore
attribute [local go_sem] max2_int min2_int max_two min_two max_three min_three max_four min_four
/-- A property that spoiling keeps. -/
def Turns (G : Gr → Prop) : Prop := ∀ y : Gr, G y → y.spoilt = false → ∀ (j : Nat) (nb b : Int), y.frame[j]? = some b → nb ≠ b → G ⟨y.id, y.src, y.dst, y.frame.set j nb, true⟩
/-- What a call left of a net. -/
structure Turned_ (w0 w w' : World) (B p : Nat) (most next : Int) (l : List (Gr × Value)) (v : Value) (l' : List (Gr × Value)) (v' : Value) : Prop where
  net : NetAt w' B p most next l' v'
  kept : Kept w w' (foot p v l)
  below : Below B w0 w'
  room : (l.length : Int) ≤ most → (l'.length : Int) ≤ most
  good : ∀ G, Turns G → (∀ x ∈ l, G x.1) → ∀ x ∈ l', G x.1
theorem Turned_.same {w0 : World} {w w' : World} {B p : Nat} {most next : Int} {l : List (Gr × Value)} {v : Value} (h : NetAt w B p most next l v) (hB : Below B w0 w) (hb : Below w.heap.size w w') : Turned_ w0 w w' B p most next l v l v :=
  ⟨h.below hb, Kept.of_below hb _, below_then hB (Nat.le_trans h.low (Nat.le_of_lt (h.foot_lt p (.inl rfl)))) hb, fun h => h, fun G _ h => h⟩
theorem xor_ne (b x : Int) (h0 : 0 ≤ b) (h1 : b ≤ 255) : Go.bits BinOp.xor .u8 b (IntKind.u64.wrap (1 + (IntKind.u64.wrap x).tmod 255) % 256) ≠ b := by
  have hw : 0 ≤ IntKind.u64.wrap x := by unfold IntKind.wrap; simp [IntKind.signed]; omega
  have h2 := Int.tmod_nonneg 255 hw
  have h3 := Int.tmod_lt_of_pos (IntKind.u64.wrap x) (b := 255) (by omega)
  generalize (IntKind.u64.wrap x).tmod 255 = t at *
  have h4 : IntKind.u64.wrap (1 + t) = 1 + t := IntWalk.u64_in _ (by omega)
  rw [h4, Int.emod_eq_of_lt (by omega) (by omega), u8_xor b (1 + t) h0 (by omega) (by omega) (by omega)]
  intro h
  have h5 : b.toNat ^^^ (1 + t).toNat = b.toNat := by omega
  have h6 := congrArg (b.toNat ^^^ ·) h5
  simp only [← Nat.xor_assoc, Nat.xor_self, Nat.zero_xor] at h6
  omega
theorem Drop.any {w : World} {B p : Nat} {most next : Int} {l : List (Gr × Value)} {v : Value} (h : NetAt w B p most next l v) (w0 : World) (hB : Below B w0 w) (hl : l.length ≤ 100000) (i : Int) :
    Calls Try.prog 15 #[.pointer (some ⟨p, 0, none⟩), .int .i64 i] w fun e w' => ∃ a b l' v', e = .returned (.tuple #[.int .i64 a, .bool b]) ∧ Turned_ w0 w w' B p most next l v l' v' := by
  by_cases hi : 0 ≤ i ∧ i < (l.length : Int)
  · obtain ⟨k, rfl⟩ := Int.eq_ofNat_of_zero_le hi.1
    obtain ⟨x, hx⟩ : ∃ x, l[k]? = some x := ⟨_, List.getElem?_eq_getElem (by omega)⟩
    refine (Drop.yes w0 hB h k x hx hl).mono ?_
    rintro e w' ⟨v', rfl, hn, hk, hb, _⟩
    exact ⟨_, _, _, _, rfl, hn, hk, hb, fun h => by have := List.length_eraseIdx_le l k; omega, fun G _ hG y hy => hG y (List.mem_of_mem_eraseIdx hy)⟩
  · refine (Drop.no h i hi).mono ?_
    rintro e w' ⟨rfl, hb⟩
    exact ⟨_, _, _, _, rfl, .same h hB hb⟩
theorem Double.any {w : World} {B p : Nat} {most next : Int} {l : List (Gr × Value)} {v : Value} (h : NetAt w B p most next l v) (w0 : World) (hB : Below B w0 w) (hl : l.length ≤ 100000) (hf : ∀ x ∈ l, x.1.frame.length ≤ 100000) (i : Int) :
    Calls Try.prog 16 #[.pointer (some ⟨p, 0, none⟩), .int .i64 i] w fun e w' => ∃ b l' v', e = .returned (.bool b) ∧ Turned_ w0 w w' B p most next l v l' v' := by
  by_cases hi : 0 ≤ i ∧ i < (l.length : Int)
  · by_cases hm : (l.length : Int) = most
    · refine (Double.full h i hi hm).mono ?_
      rintro e w' ⟨rfl, hb⟩
      exact ⟨_, _, _, rfl, .same h hB hb.below⟩
    · obtain ⟨k, rfl⟩ := Int.eq_ofNat_of_zero_le hi.1
      obtain ⟨x, hx⟩ : ∃ x, l[k]? = some x := ⟨_, List.getElem?_eq_getElem (by omega)⟩
      refine (Double.yes w0 hB h k x hx hm hl (hf x (List.mem_of_getElem? hx))).mono ?_
      rintro e w' ⟨v', fv, rfl, hn, hk, hb, _⟩
      refine ⟨_, _, _, rfl, hn, hk, hb, fun h => by rw [List.length_append, List.length_singleton]; omega, fun G _ hG y hy => ?_⟩
      rcases List.mem_append.1 hy with hy | hy
      · exact hG y hy
      · rw [List.mem_singleton.1 hy]
        exact hG x (List.mem_of_getElem? hx)
  · refine (Double.out h i hi).mono ?_
    rintro e w' ⟨rfl, hb⟩
    exact ⟨_, _, _, rfl, .same h hB hb.below⟩
theorem Spoil.any {w : World} {B p : Nat} {most next : Int} {l : List (Gr × Value)} {v : Value} (h : NetAt w B p most next l v) (w0 : World) (hB : Below B w0 w) (hl : l.length ≤ 100000) (hf : ∀ x ∈ l, x.1.frame.length ≤ 100000 ∧ (x.1.spoilt = false → ∀ b ∈ x.1.frame, 0 ≤ b ∧ b ≤ 255)) (i at_ x : Int) :
    Calls Try.prog 17 #[.pointer (some ⟨p, 0, none⟩), .int .i64 i, .int .i64 at_, .int .i64 x] w fun e w' => ∃ b l' v', e = .returned (.bool b) ∧ Turned_ w0 w w' B p most next l v l' v' := by
  by_cases hi : 0 ≤ i ∧ i < (l.length : Int)
  · obtain ⟨k, rfl⟩ := Int.eq_ofNat_of_zero_le hi.1
    obtain ⟨y, hy⟩ : ∃ y, l[k]? = some y := ⟨_, List.getElem?_eq_getElem (by omega)⟩
    by_cases hz : y.1.frame = []
    · refine (Spoil.empty h k y hy hz at_ x).mono ?_
      rintro e w' ⟨rfl, rfl⟩
      exact ⟨_, _, _, rfl, .same h hB (Below.refl _ _)⟩
    · have hz' : 0 < y.1.frame.length := List.length_pos_iff.2 hz
      cases hs : y.1.spoilt with
      | true =>
        refine (Spoil.spoilt h k y hy hz' hs at_ x).mono ?_
        rintro e w' ⟨rfl, rfl⟩
        exact ⟨_, _, _, rfl, .same h hB (Below.refl _ _)⟩
      | false =>
        have hym := List.mem_of_getElem? hy
        refine (Spoil.yes w0 hB h k y hy hz' hs (hf y hym).1 at_ x).mono ?_
        rintro e w' ⟨j, nb, b, rfl, hb, hnb, _, hn, hk, hbl⟩
        have h2 := (hf y hym).2 hs b (List.mem_of_getElem? hb)
        refine ⟨_, _, _, rfl, hn, hk, hbl, fun h => by rw [List.length_set]; omega, fun G hT hG z hz => ?_⟩
        rcases List.mem_or_eq_of_mem_set hz with hz | rfl
        · exact hG z hz
        · exact hT y.1 (hG y hym) hs j nb b hb (by rw [hnb]; exact xor_ne b x h2.1 h2.2)
  · refine (Spoil.out h i at_ x hi).mono ?_
    rintro e w' ⟨rfl, rfl⟩
    exact ⟨_, _, _, rfl, .same h hB (Below.refl _ _)⟩
end Go.Proofs.Ytkomemnalpmbcaa.Nt
