/- EditTells: the distance of any runes, and its rows, are the document's own, also of slices lent with marked spare room, which stay as they were; on every two lists (of at most 30 runes each; longer ones are answered by the fixed probe). -/
import Derived.Test.YtlbddbbmomjljaaTw
set_option linter.unusedVariables false
set_option linter.unusedSimpArgs false
namespace Go.Proofs.Ytlbddbbmomjljaa.PureT
open Go.RowKit Go.Proofs.Ytlbddbbmomjljaa.PT Go.Proofs.YtlbddbbmomjljaaW.PrintWords Go.Proofs.YtlbddbbmomjljaaW.PrintLast Go.Proofs.YtlbddbbmomjljaaW.PrintMore
open Go.Proofs.Ytlbddbbmomjljaa.Ed

theorem SameRunes_l0 (k : Nat) : ∀ (x y : List Int) (i : Int), inkhornlaw0_SameRunes.l0 k x y i = inkhornlaw0_SameInts.l0 k x y i := by
  induction k with
  | zero => intro x y i; rfl
  | succ k ih =>
    intro x y i
    simp only [inkhornlaw0_SameRunes.l0, inkhornlaw0_SameInts.l0, ih]
theorem SameRunes_ev (x y : List Int) (hx : x.length ≤ 1000) : Ev (fun k => inkhornlaw0_SameRunes.f k x y) (decide (x = y)) := by
  refine Ev.congr (fun k => ?_) (SameInts_ev x y hx)
  simp only [inkhornlaw0_SameRunes.f, inkhornlaw0_SameInts.f, SameRunes_l0]

def colTo (a b : List Int) (n : Nat) : List Int := (List.range n).map fun j => (D a b j b.length : Int)
theorem colTo_length (a b : List Int) (n : Nat) : (colTo a b n).length = n := by simp [colTo]
theorem colTo_succ (a b : List Int) (n : Nat) : colTo a b (n + 1) = colTo a b n ++ [(D a b n b.length : Int)] := by simp [colTo, List.range_succ]

theorem refRows_l (a b : List Int) (ha : a.length ≤ 1000) (hb : b.length ≤ 1000) (d : Nat) : ∀ i : Nat, i ≤ a.length + 1 → a.length + 1 - i = d →
    Ev (fun k => inkhornref5_Rows.l0 k a b (tabTo a b (a.length + 1)) (colTo a b i) (i : Int)) (colList a b) := by
  induction d with
  | zero =>
    intro i hi hd
    obtain rfl : i = a.length + 1 := by omega
    refine Ev.step (f := fun _ => some (colList a b)) (fun k => ?_) (Ev.now _)
    simp only [inkhornref5_Rows.l0]
    rw [if_neg (by omega)]
    rfl
  | succ d ih =>
    intro i hi hd
    have h := ih (i + 1) (by omega) (by omega)
    rw [colTo_succ] at h
    have c1 : (i : Int) ≤ (a.length : Int) := by omega
    have c2 : (0 : Int) ≤ (i : Int) := by omega
    have c3 : (i : Int) < ((a.length + 1 : Nat) : Int) := by omega
    have c4 : (0 : Int) ≤ (b.length : Int) := by omega
    have c5 : (b.length : Int) < ((b.length + 1 : Nat) : Int) := by omega
    have c6 : i < 17592186044416 := by omega
    have hlt : i < a.length + 1 := by omega
    have hw : wrap64 ((i : Int) + 1) = ((i + 1 : Nat) : Int) := by rw [wrap_id _ (by omega) (by omega)]; rfl
    refine Ev.step (fun k => ?_) h
    simp only [inkhornref5_Rows.l0, tabTo_length, tabTo_at a b _ i hlt, rowTo_length, colTo_length, hw]
    rw [if_pos c1, if_pos c2, if_pos c3, if_pos c4, if_pos c5, if_pos c6, rd_nat, rowTo_at a b i _ b.length (Nat.lt_succ_self _)]
theorem refRows_ev (a b : List Int) (ha : a.length ≤ 1000) (hb : b.length ≤ 1000) : Ev (fun k => inkhornref5_Rows.f k a b) (colList a b) := by
  have h := refRows_l a b ha hb (a.length + 1) 0 (by omega) rfl
  have e0 : ((0 : Nat) : Int) = 0 := rfl
  have e1 : colTo a b 0 = [] := rfl
  rw [e0, e1] at h
  exact Ev.bind (Table_ev a b ha hb) h

theorem Over_l (d : Nat) : ∀ (i : Nat) (x : List Int), x.length ≤ 1001 → i ≤ x.length → x.length - i = d → Ev (fun k => inkhornlaw0_OverInts.l0 k x (i : Int)) () := by
  induction d with
  | zero =>
    intro i x hx hi hd
    refine Ev.step (f := fun _ => some ()) (fun k => ?_) (Ev.now _)
    simp only [inkhornlaw0_OverInts.l0]
    rw [if_neg (by omega), if_pos (by omega)]
  | succ d ih =>
    intro i x hx hi hd
    have h := ih (i + 1) (x.set i (-999)) (by rw [List.length_set]; exact hx) (by rw [List.length_set]; omega) (by rw [List.length_set]; omega)
    have c1 : (i : Int) < (x.length : Int) := by omega
    have c2 : (0 : Int) ≤ (i : Int) := by omega
    have hw : wrap64 ((i : Int) + 1) = ((i + 1 : Nat) : Int) := by rw [wrap_id _ (by omega) (by omega)]; rfl
    refine Ev.step (fun k => ?_) h
    simp only [inkhornlaw0_OverInts.l0, hw, Int.toNat_natCast]
    rw [if_pos c1, if_pos c2]
theorem Over_ev (x : List Int) (hx : x.length ≤ 1001) : Ev (fun k => inkhornlaw0_OverInts.f k x) () := by
  have h := Over_l x.length 0 x hx (by omega) rfl
  have e0 : ((0 : Nat) : Int) = 0 := rfl
  rw [e0] at h
  exact Ev.congr (fun k => by simp only [inkhornlaw0_OverInts.f]) h

theorem tells (A0 : Option Addr) (c0 : Nat) (a : List Int) (A1 : Option Addr) (c1 : Nat) (b : List Int) (w : World) (hr0 : Kd.C (Kd.int .i32) w A0 a.length a) (hc0 : a.length ≤ c0) (hr1 : Kd.C (Kd.int .i32) w A1 b.length b) (hc1 : b.length ≤ c1) :
    Calls Try.prog 3 #[.slice A0 a.length c0, .slice A1 b.length c1] w fun e w' => e = .returned (.bool true) ∧ Below w.heap.size w w' := by
  obtain ⟨K0, k0⟩ := awake_ev
  by_cases hl : (a.length : Int) > 30 ∨ (b.length : Int) > 30
  · have e : inkhornlaw5_long.f a b = some true := by
      unfold inkhornlaw5_long.f
      rcases hl with h | h
      · rw [if_pos h]
      · rw [decide_eq_true h]
        split <;> rfl
    exact tells_long K0 A0 c0 a A1 c1 b w hr0 hc0 hr1 hc1 e (k0 K0 (Nat.le_refl _))
  · have ha : a.length ≤ 1000 := by omega
    have hb : b.length ≤ 1000 := by omega
    have e : inkhornlaw5_long.f a b = some false := by
      unfold inkhornlaw5_long.f
      rw [if_neg (by omega), decide_eq_false (by omega)]
    have hcl : (colList a b).length = a.length + 1 := by simp [colList]
    have e7 := SameInts_ev (colList a b) (colList a b) (by omega)
    have e8 := SameRunes_ev a a ha
    have e9 := SameRunes_ev b b hb
    rw [decide_eq_true rfl] at e7 e8 e9
    obtain ⟨K3, k3⟩ := Rows_ev a b ha hb
    obtain ⟨K4, k4⟩ := Runes_ev a b ha hb
    obtain ⟨K5, k5⟩ := refRunes_ev a b ha hb
    obtain ⟨K6, k6⟩ := refRows_ev a b ha hb
    obtain ⟨K7, k7⟩ := e7
    obtain ⟨K8, k8⟩ := e8
    obtain ⟨K9, k9⟩ := e9
    obtain ⟨K10, k10⟩ := Over_ev (colList a b) (by omega)
    obtain ⟨K, q0, q3, q4, q5, q6, q7, q8, q9, q10⟩ : ∃ K, K0 ≤ K ∧ K3 ≤ K ∧ K4 ≤ K ∧ K5 ≤ K ∧ K6 ≤ K ∧ K7 ≤ K ∧ K8 ≤ K ∧ K9 ≤ K ∧ K10 ≤ K := ⟨K0 + K3 + K4 + K5 + K6 + K7 + K8 + K9 + K10, by omega, by omega, by omega, by omega, by omega, by omega, by omega, by omega, by omega⟩
    exact tells_short K A0 c0 a A1 c1 b w hr0 hc0 hr1 hc1 ha hb e (k0 K q0) (colList a b) (k3 K q3) (lev a b : Int) (k4 K q4) (k5 K q5) (k6 K q6) (k7 K q7) (k8 K q8) (k9 K q9) (k10 K q10)

theorem tells_walk (a0 : Option Addr) (len0 cap0 : Nat) (z0 : List Int) (a1 : Option Addr) (len1 cap1 : Nat) (z1 : List Int) (w : World) (w0 : (a0 = none ∧ len0 = 0 ∧ cap0 = 0 ∧ z0 = []) ∨ ∃ x, a0 = some x ∧ len0 ≤ cap0 ∧ cap0 ≤ maxLen ∧ z0.length = cap0 ∧ (∀ i, i < z0.length → w.cell? (x.add i) = some (.int .i32 (z0.getD i 0))) ∧ ∀ n ∈ z0, (Lit.int .i32 n).wf = true) (w1 : (a1 = none ∧ len1 = 0 ∧ cap1 = 0 ∧ z1 = []) ∨ ∃ x, a1 = some x ∧ len1 ≤ cap1 ∧ cap1 ≤ maxLen ∧ z1.length = cap1 ∧ (∀ i, i < z1.length → w.cell? (x.add i) = some (.int .i32 (z1.getD i 0))) ∧ ∀ n ∈ z1, (Lit.int .i32 n).wf = true) :
    Calls Try.prog 3 #[.slice a0 len0 cap0, .slice a1 len1 cap1] w fun e w' => e = .returned (.bool true) ∧ Below w.heap.size w w' := by
  obtain ⟨l0, rfl, hr0, hm0, hw0, hc0⟩ := ReadsInt.ofRowC w0
  obtain ⟨l1, rfl, hr1, hm1, hw1, hc1⟩ := ReadsInt.ofRowC w1
  exact tells _ _ l0 _ _ l1 w (Kd.C_of_reads (d := (0 : Int)) (h1 := fun _ => rfl) hr0) hc0 (Kd.C_of_reads (d := (0 : Int)) (h1 := fun _ => rfl) hr1) hc1
end Go.Proofs.Ytlbddbbmomjljaa.PureT
