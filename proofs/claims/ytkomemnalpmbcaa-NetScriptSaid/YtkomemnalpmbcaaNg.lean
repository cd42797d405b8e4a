/- SameGrams. -/
import Derived.Test.YtkomemnalpmbcaaNe
import Derived.Test.YtkomemnalpmbcaaNl
import Derived.Deep.QuietTactic
set_option linter.unusedVariables false
set_option linter.unusedSimpArgs false
namespace Go.Proofs.Ytkomemnalpmbcaa.Nt
open Go.RowKit Go.Proofs.YtkomemnalpmbcaaW.PrintWords Go.Proofs.YtkomemnalpmbcaaW.PrintLast Go.Proofs.YtkomemnalpmbcaaW.PrintMore
attribute [local go_sem] max2_int min2_int max_two min_two max_three min_three max_four min_four

/-- Grams that can be read: a row of cells at a block's head, each frame readable. -/
structure GramsAt (w : World) (A : Option Addr) (l : List (Gr × Value)) : Prop where
  row : 0 < l.length → ∃ g, A = some ⟨g, 0, none⟩ ∧ ∀ j x, l[j]? = some x → w.rangeAt g (j * 5) [.int .i64 x.1.id, .int .i64 x.1.src, .int .i64 x.1.dst, x.2, .bool x.1.spoilt]
  frames : ∀ x ∈ l, ∃ F c, x.2 = .slice F x.1.frame.length c ∧ x.1.frame.length ≤ c ∧ Kd.C (Kd.int .u8) w F x.1.frame.length x.1.frame
  short : ∀ x ∈ l, x.1.frame.length ≤ 200000

set_option maxHeartbeats 8000000 in
set_option maxRecDepth 100000 in
theorem SameGrams.yes (A0 A1 : Option Addr) (c0 c1 : Nat) (l m : List (Gr × Value)) (w : World) (hl : GramsAt w A0 l) (hm : GramsAt w A1 m) (he : l.map Prod.fst = m.map Prod.fst) (hn : l.length ≤ 100000) :
    Calls Try.prog 25 #[.slice A0 l.length c0, .slice A1 m.length c1] w fun e w' => e = .returned (.bool true) ∧ Drawn0 w w' := by
  have hlen : l.length = m.length := by have := congrArg List.length he; simpa using this
  rw [← hlen]
  have HLEN := Aside0.mk hlen
  clear hlen
  go_enter Try.func25, Try.ntmps25
  have HL := Aside0.mk hl
  have HMm := Aside0.mk hm
  have HE := Aside0.mk he
  clear hl hm he
  go_wp2
  go_loopw [5] (fun i wr => ∃ j : Nat, j ≤ l.length ∧ i = .int .i64 (j : Int) ∧ Aside0 (Drawn0 w wr)) (fun i _ => l.length - (intOf i).toNat)
  case atStart => exact ⟨0, by omega, rfl, ⟨Drawn0.refl _⟩⟩
  case round =>
    obtain ⟨j, hj, rfl, HD⟩ := hrel
    by_cases hlt : j < l.length
    · have hjI : (j : Int) < (l.length : Int) := by omega
      obtain ⟨nd, rfl⟩ := HD.out
      obtain ⟨g0, rfl, hr0⟩ := HL.out.row (by omega)
      obtain ⟨g1, rfl, hr1⟩ := HMm.out.row (by have := HLEN.out; omega)
      obtain ⟨⟨X, fx⟩, hx⟩ : ∃ x, l[j]? = some x := ⟨_, List.getElem?_eq_getElem hlt⟩
      obtain ⟨⟨Y, fy⟩, hy⟩ : ∃ y, m[j]? = some y := ⟨_, List.getElem?_eq_getElem (by have := HLEN.out; omega)⟩
      have hxy : X = Y := by
        have h1 := congrArg (fun z => z[j]?) HE.out
        simp only [List.getElem?_map, hx, hy, Option.map_some, Option.some.injEq] at h1
        exact h1
      subst hxy
      obtain ⟨F0, d0, e0, k0, C0⟩ := HL.out.frames _ (List.mem_of_getElem? hx)
      obtain ⟨F1, d1, e1, k1, C1⟩ := HMm.out.frames _ (List.mem_of_getElem? hy)
      have hsh := HL.out.short _ (List.mem_of_getElem? hx)
      dsimp only at e0 e1 k0 k1 C0 C1 hsh
      subst e0
      subst e1
      have r0 := hr0 j _ hx
      have r1 := hr1 j _ hy
      have q00 : (w.drewN nd).cell? ⟨g0, j * 5, none⟩ = some (.int .i64 X.id) := r0 0 _ rfl
      have q01 : (w.drewN nd).cell? ⟨g0, j * 5 + 1, none⟩ = some (.int .i64 X.src) := r0 1 _ rfl
      have q02 : (w.drewN nd).cell? ⟨g0, j * 5 + 2, none⟩ = some (.int .i64 X.dst) := r0 2 _ rfl
      have q03 : (w.drewN nd).cell? ⟨g0, j * 5 + 3, none⟩ = some (.slice F0 X.frame.length d0) := r0 3 _ rfl
      have q04 : (w.drewN nd).cell? ⟨g0, j * 5 + 4, none⟩ = some (.bool X.spoilt) := r0 4 _ rfl
      have q10 : (w.drewN nd).cell? ⟨g1, j * 5, none⟩ = some (.int .i64 X.id) := r1 0 _ rfl
      have q11 : (w.drewN nd).cell? ⟨g1, j * 5 + 1, none⟩ = some (.int .i64 X.src) := r1 1 _ rfl
      have q12 : (w.drewN nd).cell? ⟨g1, j * 5 + 2, none⟩ = some (.int .i64 X.dst) := r1 2 _ rfl
      have q13 : (w.drewN nd).cell? ⟨g1, j * 5 + 3, none⟩ = some (.slice F1 X.frame.length d1) := r1 3 _ rfl
      have q14 : (w.drewN nd).cell? ⟨g1, j * 5 + 4, none⟩ = some (.bool X.spoilt) := r1 4 _ rfl
      have HC0 := Aside0.mk (Kd.C_drewN C0 nd)
      have HC1 := Aside0.mk (Kd.C_drewN C1 nd)
      have HK0 := Aside0.mk k0
      have HK1 := Aside0.mk k1
      have HSH := Aside0.mk hsh
      clear r0 r1 hr0 hr1 hx hy C0 C1 k0 k1 hsh
      clear HL HMm HE
      generalize w.drewN nd = W at *
      go_wp2_with fail
      refine wp_region_quiet_lit (by kernel_rfl) (by kernel_rfl) ?_
      repeat (quiet_step (fail))
      refine wpQuiet_step (fun K hK => ?_)
      go_simp
      refine ⟨.bool true, fun nn => ?_, hK _ ?_⟩
      · refine Calls.quiet_of ((SameBytes.eq F0 d0 X.frame F1 d1 X.frame _ (Kd.C_drewN HC0.out _) HK0.out (Kd.C_drewN HC1.out _) HK1.out HSH.out).mono ?_)
        rintro e w' ⟨rfl, hd⟩
        exact ⟨by simp, hd.out⟩
      clear hK K
      repeat (quiet_step (fail))
      refine wpQuiet_nil ?_
      intro _ hw'
      obtain ⟨nq, hw''⟩ := hw'
      subst hw''
      go_wp2_with fail
      go_roundw
      case rel => exact ⟨j + 1, by omega, by go_num, ⟨HD.out.step _⟩⟩
      case measure => simp [intOf]; omega
    · have e : j = l.length := by omega
      subst e
      go_wp2
      go_ret
      exact ⟨rfl, HD.out⟩
end Go.Proofs.Ytkomemnalpmbcaa.Nt
