/- The reference's calls, beside the program's net. -/
import Derived.Test.YtkomemnalpmbcaaOq
set_option linter.unusedVariables false
set_option linter.unusedSimpArgs false
namespace Go.Proofs.Ytkomemnalpmbcaa.Nt
open Go.RowKit Go.Proofs.YtkomemnalpmbcaaW.PrintWords Go.Proofs.YtkomemnalpmbcaaW.PrintLast Go.Proofs.YtkomemnalpmbcaaW.PrintMore
attribute [local go_sem] max2_int min2_int max_two min_two max_three min_three max_four min_four
theorem PRSend {w W : World} {p q : Nat} {most N M : Int} {Lg Lr : List Gr} {PF : Nat → Prop} (h : PairAt w W p q most N Lg M Lr PF) (i j : Int) (A : Option Addr) (xs : List Int) (c : Nat) (hr : ∀ w', Kept W w' (fun k => k = q) → Kd.C (Kd.int .u8) w' A xs.length xs) (hx : xs.length ≤ 100000) (hm : (Lr.length : Int) ≤ most) (hl : Lr.length ≤ 100000) (hn0 : 0 ≤ M) (hn1 : M ≤ 1000000) :
    Calls Try.prog 21 #[.pointer (some ⟨q, 0, none⟩), .int .i64 i, .int .i64 j, .slice A xs.length c] W fun e w' => e = .returned (.tuple #[.int .i64 M, .bool (sndOk Lr most)]) ∧ PairAt w w' p q most N Lg (M + 1) (sndL Lr most ⟨M, i, j, xs, false⟩) (fun k => PF k ∨ W.heap.size ≤ k) ∧ Kept W w' (fun k => k = q) := by
  obtain ⟨g, v, rl, rv, ht, rfl, rfl⟩ := h.ex
  rw [List.length_map] at hm hl
  by_cases hf : most ≤ (rl.length : Int)
  · have ho : sndOk (rl.map Prod.fst) most = false := decide_eq_false (by rw [List.length_map]; omega)
    refine (RSend.full w h.below ht.ref i j A xs.length c hf hn0 hn1).mono ?_
    rintro e w' ⟨rfl, hn, hk, hb⟩
    unfold sndL
    rw [ho]
    exact ⟨rfl, ⟨hb, g, v, rl, rv, ht.refTurn hn hk (fun k h => .inl h), rfl, rfl⟩, hk⟩
  · have ho : sndOk (rl.map Prod.fst) most = true := decide_eq_true (by rw [List.length_map]; omega)
    refine (RSend.room w h.below ht.ref i j A xs c hr hx (by omega) hl hn0 hn1).mono ?_
    rintro e w' ⟨v', fv, rfl, hn, hk, hb, hg⟩
    unfold sndL
    rw [ho]
    exact ⟨rfl, ⟨hb, g, v, _, v', ht.refTurn hn hk hg, rfl, by simp⟩, hk⟩
theorem PRDeliver {w W : World} {p q : Nat} {most N M : Int} {Lg Lr : List Gr} {PF : Nat → Prop} (h : PairAt w W p q most N Lg M Lr PF) (hl : Lr.length ≤ 100000) (i : Int) :
    Calls Try.prog 24 #[.pointer (some ⟨q, 0, none⟩), .int .i64 i] W fun e w' => ∃ Ay cy, e = .returned (.tuple #[.agg #[.int .i64 (delG Lr i).id, .int .i64 (delG Lr i).src, .int .i64 (delG Lr i).dst, .slice Ay (delG Lr i).frame.length cy, .bool (delG Lr i).spoilt], .bool (inR Lr.length i)]) ∧ w'.ownsRow w.heap.size 5 1 (.slice Ay (delG Lr i).frame.length cy) (delG Lr i).frame.length (nums .u8 (delG Lr i).frame) ∧ PairAt w w' p q most N Lg M (delL Lr i) (fun k => PF k ∨ W.heap.size ≤ k) ∧ Kept W w' (fun k => k = q) := by
  obtain ⟨g, v, rl, rv, ht, rfl, rfl⟩ := h.ex
  rw [List.length_map] at hl
  by_cases hi : 0 ≤ i ∧ i < (rl.length : Int)
  · obtain ⟨k, rfl⟩ := Int.eq_ofNat_of_zero_le hi.1
    obtain ⟨x, hx⟩ : ∃ x, rl[k]? = some x := ⟨_, List.getElem?_eq_getElem (by omega)⟩
    have hir : inR (rl.map Prod.fst).length (k : Int) = true := inR_yes (by rw [List.length_map]; exact hi)
    obtain ⟨Ay, cy, hxs⟩ := own_slice (ht.ref.frames x (List.mem_of_getElem? hx))
    refine (RDeliver.yes w h.below ht.ref k x hx hl).mono ?_
    rintro e w' ⟨v', rfl, hn, hk, hb, hfr, hg⟩
    unfold delG delL
    rw [hir, map_at hx]
    rw [hxs] at hfr
    exact ⟨Ay, cy, by simp only [aggG, hxs]; rfl, hfr, ⟨hb, g, v, _, v', ht.refTurn hn hk hg, rfl, by rw [map_erase]; rfl⟩, hk⟩
  · have hir : inR (rl.map Prod.fst).length i = false := inR_no (by rw [List.length_map]; exact hi)
    refine (RDeliver.no ht.ref i hi).mono ?_
    rintro e w' ⟨rfl, hb⟩
    unfold delG delL
    rw [hir]
    exact ⟨none, 0, rfl, own_nil _ _ _ _, ⟨below_step h.below hb, g, v, rl, rv, ht.refTurn (ht.ref.below hb) (Kept.of_below hb _) (fun j hj => .inl hj), rfl, rfl⟩, Kept.of_below hb _⟩
theorem PRDouble {w W : World} {p q : Nat} {most N M : Int} {Lg Lr : List Gr} {PF : Nat → Prop} (h : PairAt w W p q most N Lg M Lr PF) (hl : Lr.length ≤ 100000) (i : Int) :
    Calls Try.prog 26 #[.pointer (some ⟨q, 0, none⟩), .int .i64 i] W fun e w' => e = .returned (.bool (dblOk Lr most i)) ∧ PairAt w w' p q most N Lg M (dblL Lr most i) (fun k => PF k ∨ W.heap.size ≤ k) ∧ Kept W w' (fun k => k = q) := by
  obtain ⟨g, v, rl, rv, ht, rfl, rfl⟩ := h.ex
  rw [List.length_map] at hl
  by_cases hi : 0 ≤ i ∧ i < (rl.length : Int)
  · obtain ⟨k, rfl⟩ := Int.eq_ofNat_of_zero_le hi.1
    obtain ⟨x, hx⟩ : ∃ x, rl[k]? = some x := ⟨_, List.getElem?_eq_getElem (by omega)⟩
    have hir : inR (rl.map Prod.fst).length (k : Int) = true := inR_yes (by rw [List.length_map]; exact hi)
    by_cases hfull : most ≤ (rl.length : Int)
    · have ho : dblOk (rl.map Prod.fst) most (k : Int) = false := by unfold dblOk; rw [hir, List.length_map, decide_eq_false (by omega)]; rfl
      refine (RDouble.full ht.ref k hi hfull).mono ?_
      rintro e w' ⟨rfl, hd⟩
      unfold dblL
      rw [ho]
      exact ⟨rfl, ⟨below_step h.below hd.below, g, v, rl, rv, ht.refTurn (ht.ref.below hd.below) (Kept.of_below hd.below _) (fun j hj => .inl hj), rfl, rfl⟩, Kept.of_below hd.below _⟩
    · have ho : dblOk (rl.map Prod.fst) most (k : Int) = true := by unfold dblOk; rw [hir, List.length_map, decide_eq_true (by omega)]; rfl
      refine (RDouble.yes w h.below ht.ref k x hx (by omega) hl).mono ?_
      rintro e w' ⟨v', rfl, hn, hg, hk, hb⟩
      unfold dblL
      rw [ho, map_at hx]
      exact ⟨rfl, ⟨hb, g, v, _, v', ht.refTurn hn hk hg, rfl, by simp⟩, hk⟩
  · have hir : inR (rl.map Prod.fst).length i = false := inR_no (by rw [List.length_map]; exact hi)
    have ho : dblOk (rl.map Prod.fst) most i = false := by unfold dblOk; rw [hir]; rfl
    refine (RDouble.out ht.ref i hi).mono ?_
    rintro e w' ⟨rfl, hd⟩
    unfold dblL
    rw [ho]
    exact ⟨rfl, ⟨below_step h.below hd.below, g, v, rl, rv, ht.refTurn (ht.ref.below hd.below) (Kept.of_below hd.below _) (fun j hj => .inl hj), rfl, rfl⟩, Kept.of_below hd.below _⟩
theorem PRSpoil {w W : World} {p q : Nat} {most N M : Int} {Lg Lr : List Gr} {PF : Nat → Prop} (h : PairAt w W p q most N Lg M Lr PF) (hl : Lr.length ≤ 100000) (hf : ∀ x ∈ Lr, x.frame.length ≤ 100000) (i at_ x : Int) :
    Calls Try.prog 27 #[.pointer (some ⟨q, 0, none⟩), .int .i64 i, .int .i64 at_, .int .i64 x] W fun e w' => e = .returned (.bool (spoOk Lr i)) ∧ PairAt w w' p q most N Lg M (spoL Lr i at_ x) (fun k => PF k ∨ W.heap.size ≤ k) ∧ Kept W w' (fun k => k = q) := by
  obtain ⟨g, v, rl, rv, ht, rfl, rfl⟩ := h.ex
  rw [List.length_map] at hl
  have hsame := fun (w' : World) (hb : Below W.heap.size W w') => (⟨below_step h.below hb, g, v, rl, rv, ht.refTurn (ht.ref.below hb) (Kept.of_below hb _) (fun j hj => .inl hj), rfl, rfl⟩ : PairAt w w' p q most N (g.map Prod.fst) M (rl.map Prod.fst) (fun k => PF k ∨ W.heap.size ≤ k))
  by_cases hi : 0 ≤ i ∧ i < (rl.length : Int)
  · obtain ⟨k, rfl⟩ := Int.eq_ofNat_of_zero_le hi.1
    obtain ⟨y, hy⟩ : ∃ y, rl[k]? = some y := ⟨_, List.getElem?_eq_getElem (by omega)⟩
    have hir : inR (rl.map Prod.fst).length (k : Int) = true := inR_yes (by rw [List.length_map]; exact hi)
    have hat := map_at hy
    by_cases hz : y.1.frame = []
    · have ho : spoOk (rl.map Prod.fst) (k : Int) = false := by unfold spoOk; rw [hir, hat, hz]; rfl
      refine (RSpoil.empty ht.ref k y hy hz at_ x).mono ?_
      rintro e w' ⟨rfl, rfl⟩
      unfold spoL
      rw [ho]
      exact ⟨rfl, hsame _ (Below.refl _ _), Kept.refl _ _⟩
    · have hz' : 0 < y.1.frame.length := List.length_pos_iff.2 hz
      have hem : y.1.frame.isEmpty = false := by cases hh : y.1.frame with | nil => exact absurd hh hz | cons _ _ => rfl
      cases hs : y.1.spoilt with
      | true =>
        have ho : spoOk (rl.map Prod.fst) (k : Int) = false := by unfold spoOk; rw [hir, hat, hs]; simp
        refine (RSpoil.spoilt ht.ref k y hy hz' hs at_ x).mono ?_
        rintro e w' ⟨rfl, rfl⟩
        unfold spoL
        rw [ho]
        exact ⟨rfl, hsame _ (Below.refl _ _), Kept.refl _ _⟩
      | false =>
        have ho : spoOk (rl.map Prod.fst) (k : Int) = true := by unfold spoOk; rw [hir, hat, hs, hem]; rfl
        refine (RSpoil.yes w h.below ht.ref k y hy hz' hs (hf y.1 (List.mem_map_of_mem (List.mem_of_getElem? hy))) hl at_ x).mono ?_
        rintro e w' ⟨j, nb, b, v', fv, rfl, hb, hnb, hj, hn, hk, hbl, hg⟩
        unfold spoL
        rw [ho, hat]
        exact ⟨rfl, ⟨hbl, g, v, _, v', ht.refTurn hn hk hg, rfl, by rw [map_set', if_pos rfl, Int.toNat_natCast, turn_eq hb hj hnb]⟩, hk⟩
  · have hir : inR (rl.map Prod.fst).length i = false := inR_no (by rw [List.length_map]; exact hi)
    have ho : spoOk (rl.map Prod.fst) i = false := by unfold spoOk; rw [hir]; rfl
    refine (RSpoil.out ht.ref i at_ x hi).mono ?_
    rintro e w' ⟨rfl, rfl⟩
    unfold spoL
    rw [ho]
    exact ⟨rfl, hsame _ (Below.refl _ _), Kept.refl _ _⟩
end Go.Proofs.Ytkomemnalpmbcaa.Nt
