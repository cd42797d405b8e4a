/- Drop of a net. -/
import Derived.Test.YtkomemnalpmbcaaNd
import Derived.Test.YtkomemnalpmbcaaNf
set_option linter.unusedVariables false
set_option linter.unusedSimpArgs false
namespace Go.Proofs.Ytkomemnalpmbcaa.Nt
open Go.RowKit Go.Proofs.YtkomemnalpmbcaaW.PrintWords Go.Proofs.YtkomemnalpmbcaaW.PrintLast Go.Proofs.YtkomemnalpmbcaaW.PrintMore
attribute [local go_sem] max2_int min2_int max_two min_two max_three min_three max_four min_four
set_option maxHeartbeats 8000000 in
set_option maxRecDepth 100000 in
theorem Drop.no {w : World} {B p : Nat} {most next : Int} {l : List (Gr × Value)} {v : Value} (h : NetAt w B p most next l v) (i : Int) (hi : ¬ (0 ≤ i ∧ i < (l.length : Int))) :
    Calls Try.prog 15 #[.pointer (some ⟨p, 0, none⟩), .int .i64 i] w fun e w' => e = .returned (.tuple #[.int .i64 0, .bool false]) ∧ Below w.heap.size w w' := by
  have HN := Aside0.mk h
  have HI := Aside0.mk hi
  clear h hi
  go_enter Try.func15, Try.ntmps15
  go_wp2_with (first | ((with_reducible refine gate_callee (f := 10) rfl ?_); refine goesL_ _ rfl rfl Try.func10 (by kernel_rfl) rfl #[.pointer (some ⟨p, 0, none⟩), .int .i64 i] rfl (by (try simp only [List.map_toArray, List.map_cons, List.map_nil]); first | done | rfl) ?_; refine (Deliver.no HN.out i HI.out).mono ?_; rintro e w1 ⟨rfl, hb⟩; have HB1 := Aside0.mk hb; clear hb; refine ⟨.tuple #[.agg #[.int .i64 0, .int .i64 0, .int .i64 0, .slice none 0 0, .bool false], .bool false], rfl, ?_⟩))
  go_ret2
  first | exact ⟨rfl, below_alloc HB1.out _⟩ | exact below_alloc HB1.out _
set_option maxHeartbeats 8000000 in
set_option maxRecDepth 100000 in
theorem Drop.yes {w : World} {B p : Nat} {most next : Int} {l : List (Gr × Value)} {v : Value} (w0 : World) (hB : Below B w0 w) (h : NetAt w B p most next l v) (k : Nat) (x : Gr × Value) (hx : l[k]? = some x) (hl : l.length ≤ 100000) :
    Calls Try.prog 15 #[.pointer (some ⟨p, 0, none⟩), .int .i64 k] w fun e w' => ∃ v', e = .returned (.tuple #[.int .i64 x.1.id, .bool true]) ∧ NetAt w' B p most next (l.eraseIdx k) v' ∧ Kept w w' (foot p v l) ∧ Below B w0 w' ∧ v'.ownBlock = v.ownBlock := by
  have hc := Deliver.yes w0 hB h k x hx hl
  obtain ⟨Ax, cx, hxs⟩ := own_slice (h.frames x (List.mem_of_getElem? hx))
  simp only [aggG, hxs] at hc
  have HC := Aside0.mk hc
  have HN := Aside0.mk h
  have hBs : B ≤ w.heap.size := Nat.le_trans h.low (Nat.le_of_lt (h.foot_lt p (.inl rfl)))
  clear h hx hl hc hxs hB
  go_enter Try.func15, Try.ntmps15
  go_wp2_with (first | ((with_reducible refine gate_callee (f := 10) rfl ?_); refine goesL_ _ rfl rfl Try.func10 (by kernel_rfl) rfl #[.pointer (some ⟨p, 0, none⟩), .int .i64 k] rfl (by (try simp only [List.map_toArray, List.map_cons, List.map_nil]); first | done | rfl) ?_; refine HC.out.mono ?_; rintro e w1 ⟨v1, rfl, hn, hk, hb, ho, _⟩; have HN1 := Aside0.mk hn; have HK1 := Aside0.mk hk; have HB1 := Aside0.mk hb; have HO1 := Aside0.mk ho; have hz1 : B ≤ w1.heap.size := Nat.le_trans hBs hk.1; clear hn hk hb ho; refine ⟨.tuple #[.agg #[.int .i64 x.1.id, .int .i64 x.1.src, .int .i64 x.1.dst, .slice Ax x.1.frame.length cx, .bool x.1.spoilt], .bool true], rfl, ?_⟩))
  go_ret2
  refine ⟨v1, rfl, HN1.out.below (below_alloc (Below.refl _ _) _), HK1.out.below (below_alloc (Below.refl _ _) _), ?_, HO1.out⟩
  exact below_then HB1.out hz1 (below_alloc (Below.refl _ _) _)
end Go.Proofs.Ytkomemnalpmbcaa.Nt
