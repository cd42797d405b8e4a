/- great, of acts that are read. -/
import Derived.Test.YtkomemnalpmbcaaOa
set_option linter.unusedVariables false
set_option linter.unusedSimpArgs false
namespace Go.Proofs.Ytkomemnalpmbcaa.Nt
open Go.RowKit Go.Proofs.YtkomemnalpmbcaaW.PrintWords Go.Proofs.YtkomemnalpmbcaaW.PrintLast Go.Proofs.YtkomemnalpmbcaaW.PrintMore
attribute [local go_sem] max2_int min2_int max_two min_two max_three min_three max_four min_four
def Great (l : List (Ac × Value)) (most : Int) : Prop := most < (l.length : Int) ∨ ∃ x ∈ l, 100 < x.1.b.length
theorem ActsAt.cell {w : World} {A : Option Addr} {l : List (Ac × Value)} (h : ActsAt w A l) {j : Nat} {x : Ac × Value} (hx : l[j]? = some x) : ∃ a, A = some a ∧ ∀ k u, (cellsA x)[k]? = some u → w.cell? ((a.add (j * 5)).add k) = some u := by
  obtain ⟨a, e, hr⟩ := h.row (by have := (List.getElem?_eq_some_iff.1 hx).1; omega)
  exact ⟨a, e, hr j x hx⟩
set_option maxHeartbeats 8000000 in
set_option maxRecDepth 100000 in
theorem great.eq (A : Option Addr) (l : List (Ac × Value)) (c : Nat) (most : Int) (w : World) (h : ActsAt w A l) (hl : l.length ≤ 9223372036854775807) (hm0 : 0 ≤ most) (b : Bool) (hb : b = true ↔ Great l most) :
    Calls Try.prog 14 #[.slice A l.length c, .int .i64 most] w fun e w' => e = .returned (.bool b) ∧ w = w' := by
  have H := Aside0.mk h
  have HB := Aside0.mk hb
  clear h hb
  go_enter Try.func14, Try.ntmps14
  go_wp2
  by_cases hm : (l.length : Int) ≤ most
  · go_loop [5] (fun i => ∃ j : Nat, j ≤ l.length ∧ i = .int .i64 (j : Int) ∧ Aside0 (∀ k x, k < j → l[k]? = some x → ¬ 100 < x.1.b.length)) (fun i => l.length - (intOf i).toNat)
    case atStart => exact ⟨0, by omega, rfl, ⟨fun k x hk _ => absurd hk (by omega)⟩⟩
    case round =>
      obtain ⟨j, hj, rfl, HI⟩ := hrel
      by_cases hlt : j < l.length
      · obtain ⟨x, hx⟩ : ∃ x, l[j]? = some x := ⟨_, List.getElem?_eq_getElem hlt⟩
        have hjI : (j : Int) < (l.length : Int) := by omega
        have hjn : ((j : Int)).toNat = j := by omega
        obtain ⟨a, rfl, hc⟩ := H.out.cell hx
        obtain ⟨Ab, cb, hv, _, _, _, _⟩ := H.out.bytes x (List.mem_of_getElem? hx)
        have q4 : w.cell? ⟨(a.add (j * 5)).block, (a.add (j * 5)).off + 4, none⟩ = some (.slice Ab x.1.b.length cb) := hv ▸ hc 4 _ rfl
        have HX := Aside0.mk hx
        clear hx hc hv
        by_cases h100 : 100 < x.1.b.length
        · have hI : (100 : Int) < (x.1.b.length : Int) := by omega
          go_wp2
          go_ret
          exact ⟨by rw [HB.out.2 (.inr ⟨x, List.mem_of_getElem? HX.out, h100⟩)]; rfl, rfl⟩
        · have hI : ¬ (100 : Int) < (x.1.b.length : Int) := by omega
          go_wp2
          go_round
          case rel => exact ⟨j + 1, by omega, by go_num, ⟨fun k y hk hy => by
            by_cases hkj : k = j
            · subst hkj
              rw [HX.out] at hy
              injection hy with hy
              rw [← hy]
              exact h100
            · exact HI.out k y (by omega) hy⟩⟩
          case measure => simp [intOf]; omega
      · have e : j = l.length := by omega
        subst e
        go_wp2
        go_ret
        have hn : ¬ Great l most := by
          rintro (h1 | ⟨x, hx, h1⟩)
          · omega
          · obtain ⟨k, hk⟩ := List.getElem?_of_mem hx
            exact HI.out k x (List.getElem?_eq_some_iff.1 hk).1 hk h1
        have : b = false := by
          cases b
          · rfl
          · exact absurd (HB.out.1 rfl) hn
        subst this
        exact ⟨by simp; omega, rfl⟩
  · have hm2 : most < (l.length : Int) := by omega
    have h0 : 0 < l.length := by omega
    go_loop [5] (fun i => i = .int .i64 0) (fun i => 0)
    case atStart => rfl
    case round =>
      subst hrel
      go_wp2
      go_ret
      exact ⟨by rw [HB.out.2 (.inl hm2)]; rfl, rfl⟩
end Go.Proofs.Ytkomemnalpmbcaa.Nt
