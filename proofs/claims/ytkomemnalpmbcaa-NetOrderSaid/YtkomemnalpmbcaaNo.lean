/- The walk of NetOrder. -/
import Derived.Test.YtkomemnalpmbcaaNe
import Derived.Test.YtkomemnalpmbcaaNl
set_option linter.unusedVariables false
set_option linter.unusedSimpArgs false
namespace Go.Proofs.Ytkomemnalpmbcaa.Nt
open Go.Proofs.Ytkomemnalpmbcaa.PNetScript Go.RowKit Go.Proofs.YtkomemnalpmbcaaW.PrintWords Go.Proofs.YtkomemnalpmbcaaW.PrintLast Go.Proofs.YtkomemnalpmbcaaW.PrintMore
attribute [local go_sem] max2_int min2_int max_two min_two max_three min_three max_four min_four

def grO (i : Nat) : Gr := ⟨i, i, 1, [(i : Int)], false⟩
structure OrdIs (w : World) (B p : Nat) (most : Int) (next : Nat) (c j : Nat) : Prop where
  ex : ∃ l v, NetAt w B p most next l v ∧ l.map Prod.fst = ((List.range c).drop j).map grO
set_option maxHeartbeats 8000000 in
set_option maxRecDepth 100000 in
theorem NetOrder.calls (a0 a1 : Int) (w : World) : Calls Try.prog 3 #[.int .i64 a0, .int .i64 a1] w fun e w' => e = .returned (.bool true) ∧ Below w.heap.size w w' := by
  obtain ⟨m, hm, hm0, hm1⟩ := Low_some a0 64 (by decide) (by decide)
  obtain ⟨n, hn, hn0, hn1⟩ := Low_some a1 100 (by decide) (by decide)
  obtain ⟨M, rfl⟩ := Int.eq_ofNat_of_zero_le hm0
  obtain ⟨N, rfl⟩ := Int.eq_ofNat_of_zero_le hn0
  have HM := Aside0.mk hm
  have HN := Aside0.mk hn
  clear hm hn
  go_enter Try.func3, Try.ntmps3
  go_wp2_with (first | ((with_reducible refine gate_callee (f := 7) rfl ?_); refine goesL_ _ rfl rfl Try.func7 (by kernel_rfl) rfl #[.int .i64 a0, .int .i64 64] rfl (by (try simp only [List.map_toArray, List.map_cons, List.map_nil]); first | done | rfl) ?_; refine (inkhornlaw0_Low.calls a0 64 M _ HM.out).mono ?_; rintro e w1 ⟨rfl, ⟨n1, rfl⟩⟩; refine ⟨_, rfl, ?_⟩) | ((with_reducible refine gate_callee (f := 7) rfl ?_); refine goesL_ _ rfl rfl Try.func7 (by kernel_rfl) rfl #[.int .i64 a1, .int .i64 100] rfl (by (try simp only [List.map_toArray, List.map_cons, List.map_nil]); first | done | rfl) ?_; refine (inkhornlaw0_Low.calls a1 100 N _ HN.out).mono ?_; rintro e w1 ⟨rfl, ⟨n2, rfl⟩⟩; refine ⟨_, rfl, ?_⟩) | ((with_reducible refine gate_callee (f := 8) rfl ?_); refine goesL_ _ rfl rfl Try.func8 (by kernel_rfl) rfl #[.int .i64 (1 + (M : Int))] rfl (by (try simp only [List.map_toArray, List.map_cons, List.map_nil]); first | done | rfl) ?_; refine (New.yes (1 + (M : Int)) _ w w.heap.size (by omega) (by omega) (pw_below_drewN (Below.refl _ _) _) (by simp)).mono ?_; rintro e w1 ⟨p, rfl, hn, hb, hb2, hp⟩; have HN0 := Aside0.mk hn; have HB0 := Aside0.mk hb; clear hn hb hb2 hp; refine ⟨_, rfl, ?_⟩))
  go_loopw [7] (fun i wr => ∃ k : Nat, k ≤ N ∧ i = .int .i64 (k : Int) ∧ Aside0 (OrdIs wr w.heap.size p (1 + (M : Int)) k (min k (M + 1)) 0) ∧ Aside0 (Below w.heap.size w wr)) (fun i _ => N - (intOf i).toNat)
  case atStart => exact ⟨0, by omega, rfl, ⟨⟨[], _, HN0.out, by simp⟩⟩, HB0⟩
  case round =>
    obtain ⟨k, hk, rfl, HO, HB⟩ := hrel
    clear HN0 HB0
    by_cases hlt : k < N
    · obtain ⟨l, v, hnet, hlm⟩ := HO.out.ex
      have hlen : l.length = min k (M + 1) := by have := congrArg List.length hlm; simpa using this
      have HNt := Aside0.mk hnet
      have HLM := Aside0.mk hlm
      clear hnet hlm HO
      by_cases hkm : k < M + 1
      · have hlk : l.length = k := by omega
        have hkI : (k : Int) < 1 + (M : Int) := by omega
        have HLK := Aside0.mk hlk
        clear hlen hlk
        go_wp2_with (first | ((with_reducible refine gate_callee (f := 9) rfl ?_); refine goesL_ _ rfl rfl Try.func9 (by kernel_rfl) rfl #[.pointer (some ⟨p, 0, none⟩), .int .i64 (k : Int), .int .i64 1, .slice (some ⟨wr.heap.size, 0, none⟩) 1 1] rfl (by (try simp only [List.map_toArray, List.map_cons, List.map_nil]); first | done | rfl) ?_; refine (Send.room w (below_alloc HB.out _) (HNt.out.below (below_alloc (Below.refl _ _) _)) (k : Int) 1 (some ⟨wr.heap.size, 0, none⟩) [(k : Int)] 1 (lent_keep (lit_own wr (k : Int)) (fun k hk hf => by have h1 := HNt.out.foot_lt k hf; injection hk with hk; dsimp only at hk; omega)) (by simp) (by simp) (by have := HLK.out; omega) (by have := HLK.out; omega) (by omega) (by omega)).mono ?_; rintro e w2 ⟨v2, fv2, rfl, hn, hk, hb, hf⟩; have HS : Aside0 (NetAt w2 w.heap.size p (1 + (M : Int)) ((k + 1 : Nat) : Int) (l ++ [(grO k, fv2)]) v2) := ⟨hn⟩; have HB2 := Aside0.mk hb; clear hn hk hb hf; refine ⟨_, rfl, ?_⟩))
        go_roundw
        case rel =>
          refine ⟨k + 1, by omega, by go_num, ⟨⟨_, _, HS.out, ?_⟩⟩, HB2⟩
          have e : min (k + 1) (M + 1) = min k (M + 1) + 1 := by omega
          have e2 : min k (M + 1) = k := by omega
          rw [List.map_append, HLM.out, e, e2, List.drop_zero, List.drop_zero, List.range_succ, List.map_append]
          rfl
        case measure => simp [intOf]; omega
      · have hlk : (l.length : Int) = 1 + (M : Int) := by omega
        have hkI : ¬ (k : Int) < 1 + (M : Int) := by omega
        have HLK := Aside0.mk hlk
        clear hlen hlk
        go_wp2_with (first | ((with_reducible refine gate_callee (f := 9) rfl ?_); refine goesL_ _ rfl rfl Try.func9 (by kernel_rfl) rfl #[.pointer (some ⟨p, 0, none⟩), .int .i64 (k : Int), .int .i64 1, .slice (some ⟨wr.heap.size, 0, none⟩) 1 1] rfl (by (try simp only [List.map_toArray, List.map_cons, List.map_nil]); first | done | rfl) ?_; refine (Send.full w (below_alloc HB.out _) (HNt.out.below (below_alloc (Below.refl _ _) _)) (k : Int) 1 (some ⟨wr.heap.size, 0, none⟩) 1 1 HLK.out (by omega) (by omega)).mono ?_; rintro e w2 ⟨rfl, hn, hk, hb⟩; have HS : Aside0 (NetAt w2 w.heap.size p (1 + (M : Int)) ((k + 1 : Nat) : Int) l v) := ⟨hn⟩; have HB2 := Aside0.mk hb; clear hn hk hb; refine ⟨_, rfl, ?_⟩))
        go_roundw
        case rel =>
          refine ⟨k + 1, by omega, by go_num, ⟨⟨_, _, HS.out, ?_⟩⟩, HB2⟩
          have e : min (k + 1) (M + 1) = min k (M + 1) := by omega
          rw [e]
          exact HLM.out
        case measure => simp [intOf]; omega
    · have e : k = N := by omega
      subst e
      clear hk hlt
      obtain ⟨c, hc⟩ : ∃ c, c = min k (M + 1) := ⟨_, rfl⟩
      rw [← hc] at HO
      have hmn : (if (k : Int) < 1 + (M : Int) then (k : Int) else 1 + (M : Int)) = (c : Int) := by split <;> omega
      have hck : c ≤ 100 := by omega
      clear hc
      go_wp2_with fail
      go_loopw [10] (fun i wr => ∃ j : Nat, j ≤ c ∧ i = .int .i64 (j : Int) ∧ Aside0 (OrdIs wr w.heap.size p (1 + (M : Int)) k c j) ∧ Aside0 (Below w.heap.size w wr)) (fun i _ => c - (intOf i).toNat)
      case atStart => exact ⟨0, by omega, rfl, HO, HB⟩
      case round =>
        obtain ⟨j, hj, rfl, HO, HB⟩ := hrel
        obtain ⟨l, v, hnet, hlm⟩ := HO.out.ex
        have HNt := Aside0.mk hnet
        clear hnet HO
        by_cases hlt : j < c
        · have hjI : (j : Int) < (c : Int) := by omega
          obtain ⟨x, l', rfl⟩ : ∃ x l', l = x :: l' := by
            cases l with
            | cons x l' => exact ⟨x, l', rfl⟩
            | nil =>
              have := congrArg List.length hlm
              simp at this
              omega
          have hd : (List.range c).drop j = j :: (List.range c).drop (j + 1) := by
            rw [List.drop_eq_getElem_cons (by simpa using hlt)]
            simp
          rw [hd] at hlm
          simp only [List.map_cons, List.cons.injEq] at hlm
          obtain ⟨hx, hl'⟩ := hlm
          obtain ⟨x, fx⟩ := x
          dsimp only at hx
          subst hx
          have HL := Aside0.mk hl'
          have hlen := congrArg List.length hl'
          simp only [List.length_map, List.length_drop, List.length_range] at hlen
          have HE := Aside0.mk hlen
          clear hl' hlen hd
          go_wp2_with (first | ((with_reducible refine gate_callee (f := 10) rfl ?_); refine goesL_ _ rfl rfl Try.func10 (by kernel_rfl) rfl #[.pointer (some ⟨p, 0, none⟩), .int .i64 0] rfl (by (try simp only [List.map_toArray, List.map_cons, List.map_nil]); first | done | rfl) ?_; refine (Deliver.yes w HB.out HNt.out 0 (grO j, fx) rfl (by have := HE.out; simp only [List.length_cons]; omega)).mono ?_; rintro e w5 ⟨v5, rfl, hn, hk, hb, hf, ho1⟩; have ho : w5.ownsRow w.heap.size 5 1 fx 1 (nums .u8 [(j : Int)]) := ho1; clear ho1; obtain ⟨Af, cf, rfl⟩ := own_slice ho; have HN4 : Aside0 (NetAt w5 w.heap.size p (1 + (M : Int)) k l' v5) := ⟨hn⟩; have HB4 := Aside0.mk hb; have HO := Aside0.mk ho; clear hn hk hb hf ho; refine ⟨.tuple #[.agg #[.int .i64 (j : Int), .int .i64 (j : Int), .int .i64 1, .slice Af 1 cf, .bool false], .bool true], rfl, ?_⟩) | (go_at_call 11; refine (SameBytes.eq Af cf [(j : Int)] (some ⟨w5.heap.size + 1, 0, none⟩) 1 [(j : Int)] _ (Kd.C_alloc (Kd.C_alloc (C_own HO.out) _) _) (own_le HO.out) (C_own (lit_own2 w5 _ (j : Int))) (by simp) (by simp)).mono ?_; rintro e w6 ⟨rfl, ⟨nd, rfl⟩⟩))
          go_roundw
          case rel =>
            refine ⟨j + 1, by omega, by go_num, ⟨⟨l', v5, (HN4.out.below (below_alloc (below_alloc (Below.refl _ _) _) _)).drewN _, HL.out⟩⟩, ⟨pw_below_drewN (below_alloc (below_alloc HB4.out _) _) _⟩⟩
          case measure => simp [intOf]; omega
        · have e : j = c := by omega
          have hjI : ¬ (j : Int) < (c : Int) := by omega
          have hl0 : l = [] := by
            have := congrArg List.length hlm
            simp at this
            exact List.eq_nil_of_length_eq_zero (by omega)
          subst hl0
          clear hlm
          go_wp2_with (first | ((with_reducible refine gate_callee (f := 10) rfl ?_); refine goesL_ _ rfl rfl Try.func10 (by kernel_rfl) rfl #[.pointer (some ⟨p, 0, none⟩), .int .i64 0] rfl (by (try simp only [List.map_toArray, List.map_cons, List.map_nil]); first | done | rfl) ?_; refine (Deliver.no HNt.out 0 (by simp)).mono ?_; rintro e w5 ⟨rfl, hb⟩; have HN4 := Aside0.mk (HNt.out.below hb); have HB4 := Aside0.mk (below_step HB.out hb); clear hb; refine ⟨.tuple #[.agg #[.int .i64 0, .int .i64 0, .int .i64 0, .slice none 0 0, .bool false], .bool false], rfl, ?_⟩) | (go_at_call 12; refine (Len.eq (HN4.out.below (below_alloc (Below.refl _ _) _))).mono ?_; rintro e w7 ⟨rfl, rfl⟩) | (go_at_call 13; refine (awake.calls _).mono ?_; rintro e w8 ⟨rfl, hb⟩; have HB5 := Aside0.mk (below_step (below_alloc HB4.out _) hb); clear hb))
          go_ret
          exact ⟨rfl, HB5.out⟩
end Go.Proofs.Ytkomemnalpmbcaa.Nt
