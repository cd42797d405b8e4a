/- EditRenamed: with other runes in their place (each one's bits turned by the same number, so unlike ones for unlike ones) two lists are as far from one another; on every two lists (of at most 25 runes each; longer ones are answered by the fixed probe) and every number. -/
import Derived.Test.YtlbddbbmomjljaaPAx6
import Derived.Test.YtlbddbbmomjljaaPv
namespace Go.Proofs.Ytlbddbbmomjljaa.Pure
open Go.RowKit Go.Proofs.Ytlbddbbmomjljaa.PA Go.Proofs.YtlbddbbmomjljaaW.PrintWords Go.Proofs.YtlbddbbmomjljaaW.PrintLast Go.Proofs.YtlbddbbmomjljaaW.PrintMore
open Go.Proofs.Ytlbddbbmomjljaa.Ed

theorem i32_bounds {x : Int} (h : (Lit.int .i32 x).wf = true) : -2147483648 ≤ x ∧ x ≤ 2147483647 := by
  simp [Lit.wf] at h
  have e1 : IntKind.i32.min = -2147483648 := by decide
  have e2 : IntKind.i32.max = 2147483647 := by decide
  omega
theorem xor_inj (x y c : Int) (hx : (Lit.int .i32 x).wf = true) (hy : (Lit.int .i32 y).wf = true) (h : Go.bits .xor .i32 x c = Go.bits .xor .i32 y c) : x = y := by
  have bx := i32_bounds hx
  have by_ := i32_bounds hy
  simp only [Go.bits, IntKind.wrap_i32] at h
  have e : ∀ u v : BitVec 32, ((u.toNat : Int) + 2147483648) % 4294967296 - 2147483648 = ((v.toNat : Int) + 2147483648) % 4294967296 - 2147483648 → u = v := by
    intro u v huv
    apply BitVec.eq_of_toNat_eq
    have hu := u.isLt
    have hv := v.isLt
    omega
  have e1 := e _ _ h
  have e2 : BitVec.ofInt 32 x = BitVec.ofInt 32 y := by
    have e3 : (BitVec.ofInt 32 x ^^^ BitVec.ofInt 32 c) ^^^ BitVec.ofInt 32 c = (BitVec.ofInt 32 y ^^^ BitVec.ofInt 32 c) ^^^ BitVec.ofInt 32 c := congrArg (fun z => z ^^^ BitVec.ofInt 32 c) e1
    rw [BitVec.xor_assoc, BitVec.xor_assoc, BitVec.xor_self, BitVec.xor_zero, BitVec.xor_zero] at e3
    exact e3
  have e3 := congrArg BitVec.toInt e2
  rw [BitVec.toInt_ofInt, BitVec.toInt_ofInt] at e3
  simp only [Int.bmod_def] at e3
  omega

theorem other_l (x : List Int) (c : Int) (hx : x.length ≤ 1000) (d : Nat) : ∀ (i : Nat), i ≤ x.length → x.length - i = d → Ev (fun k => inkhornlaw5_other.l0 k x c ((x.take i).map fun z => Go.bits .xor .i32 z c) (i : Int)) (x.map fun z => Go.bits .xor .i32 z c) := by
  induction d with
  | zero =>
    intro i hi hd
    obtain rfl : i = x.length := by omega
    rw [List.take_length]
    refine Ev.step (f := fun _ => some (x.map fun z => Go.bits .xor .i32 z c)) (fun k => ?_) (Ev.now _)
    simp only [inkhornlaw5_other.l0]
    rw [if_neg (by omega)]
  | succ d ih =>
    intro i hi hd
    have hlt : i < x.length := by omega
    have hw : wrap64 ((i : Int) + 1) = ((i + 1 : Nat) : Int) := by rw [wrap_id _ (by omega) (by omega)]; rfl
    have h := ih (i + 1) (by omega) (by omega)
    rw [List.take_succ_eq_append_getElem hlt, List.map_append, List.map_cons, List.map_nil] at h
    refine Ev.step (fun k => ?_) h
    simp only [inkhornlaw5_other.l0, hw, rd_nat]
    rw [if_pos (by omega), if_pos (by omega), if_pos (by rw [List.length_map, List.length_take]; omega), getD_get x i hlt]
theorem other_ev (x : List Int) (c : Int) (hx : x.length ≤ 1000) : Ev (fun k => inkhornlaw5_other.f k x c) (x.map fun z => Go.bits .xor .i32 z c) := by
  have h := other_l x c hx x.length 0 (by omega) rfl
  exact h

theorem renamed_ev (a b : List Int) (c : Int) (ha : a.length ≤ 25) (hb : b.length ≤ 25) (wa : ∀ x ∈ a, (Lit.int .i32 x).wf = true) (wb : ∀ x ∈ b, (Lit.int .i32 x).wf = true) : Ev (fun k => inkhornlaw5_EditRenamed.j0 k a b c false) true := by
  refine Ev.step (fun k => by simp only [inkhornlaw5_EditRenamed.j0, Bool.false_eq_true, if_false]; rfl) ?_
  refine Ev.bind (Runes_ev a b (by omega) (by omega)) ?_
  refine Ev.bind (other_ev a c (by omega)) ?_
  refine Ev.bind (other_ev b c (by omega)) ?_
  refine Ev.bind (Runes_ev _ _ (by rw [List.length_map]; omega) (by rw [List.length_map]; omega)) ?_
  refine Ev.congr (f := fun k => (inkhornlaw5_awake.f k).bind fun t => some t) (fun k => ?_) (Ev.bind awake_ev (Ev.now _))
  rw [lev_map _ a b (fun x hx y hy h => xor_inj x y c (wa x hx) (wb y hy) h), if_pos rfl]

theorem EditRenamed : inkhornlaw5_EditRenamed.Pure := by
  intro a b c _ _ wa _ _ wb _
  apply Ev.rounds
  simp only [inkhornlaw5_EditRenamed.f]
  have hlong : Ev (fun k => inkhornlaw5_EditRenamed.j0 k a b c true) true :=
    Ev.step (f := fun k => (inkhornlaw5_awake.f k).bind fun t => some t) (fun k => by simp only [inkhornlaw5_EditRenamed.j0, if_true]) (Ev.bind awake_ev (Ev.now _))
  by_cases ha : (a.length : Int) > 25
  · simpa [ha] using hlong
  · by_cases hb : (b.length : Int) > 25
    · simpa [ha, hb] using hlong
    · simpa [ha, hb] using renamed_ev a b c (by omega) (by omega) wa wb

end Go.Proofs.Ytlbddbbmomjljaa.Pure
