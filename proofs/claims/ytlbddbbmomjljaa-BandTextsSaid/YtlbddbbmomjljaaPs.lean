/- Both ways to take a text apart into runes come to one answer; both distances of texts are one. -/
import Derived.Test.YtlbddbbmomjljaaPu
namespace Go.Proofs.Ytlbddbbmomjljaa.Pure
open Go.RowKit Go.Proofs.Ytlbddbbmomjljaa.PA Go.Proofs.YtlbddbbmomjljaaW.PrintWords Go.Proofs.YtlbddbbmomjljaaW.PrintLast Go.Proofs.YtlbddbbmomjljaaW.PrintMore
open Go.Proofs.Ytlbddbbmomjljaa.Ed

theorem Good_eq (r : Int) : inkhornref1_Good.f r = some (decide (0 ≤ r ∧ r ≤ 1114111 ∧ (r < 55296 ∨ r > 57343) ∧ r ≠ 65533)) := by
  unfold inkhornref1_Good.f
  by_cases h0 : r ≥ 0
  · rw [if_pos h0]
    by_cases h1 : r ≤ 1114111
    · rw [if_pos h1]
      by_cases h2 : r < 55296
      · rw [if_pos h2]
        congr 1
        rw [Bool.eq_iff_iff]
        simp
        omega
      · rw [if_neg h2]
        by_cases h3 : r > 57343
        · rw [if_pos h3]
          congr 1
          rw [Bool.eq_iff_iff]
          simp
          omega
        · rw [if_neg h3, decide_eq_false (by omega)]
    · rw [if_neg h1, decide_eq_false (by omega)]
  · rw [if_neg h0, decide_eq_false (by omega)]

theorem decode_width (s : ByteArray) (i : Nat) : 1 ≤ (Utf8.decode s i).2 ∧ (Utf8.decode s i).2 ≤ 4 := by
  rcases decode_cases s i with ⟨_, e⟩ | ⟨_, _, _, e⟩ | ⟨_, _, _, _, _, _, e⟩ | ⟨_, _, _, _, _, _, e⟩ | ⟨_, _, _, _, e⟩ <;> rw [e] <;> simp

/-- One round of the reference, at a place that is no rune. -/
theorem ref_bad (s : ByteArray) (i : Nat) (acc : List Int) (hi : i < s.size) (hs : s.size ≤ 100) (h : ¬ okRune (oneAt s i)) : Ev (fun k => inkhornref1_Runes.l0 k s acc (i : Int)) ([], false) := by
  refine Ev.step (fun k => by simp only [inkhornref1_Runes.l0]; rw [if_pos (by omega)]) (Ev.bind (one_ev s i hi (by omega)) (Ev.congr (fun k => ?_) (Ev.now _)))
  generalize oneAt s i = p at *
  obtain ⟨r, m⟩ := p
  simp only [okRune] at h
  simp only [Good_eq, Option.bind_some]
  by_cases h0 : m = 0
  · rw [if_pos h0]
  · rw [if_neg h0]
    by_cases h1 : 0 ≤ r ∧ r ≤ 1114111 ∧ (r < 55296 ∨ r > 57343) ∧ r ≠ 65533
    · rw [decide_eq_true h1, if_pos rfl]
      by_cases h2 : m = 3
      · rw [if_pos h2, if_pos (by omega)]
      · rw [if_neg h2, if_pos (by omega), if_pos (by omega)]
    · rw [decide_eq_false h1, if_neg (by simp)]

/-- One round of the reference, at a rune. -/
theorem ref_good (s : ByteArray) (i : Nat) (acc : List Int) (r : List Int × Bool) (hi : i < s.size) (hs : s.size ≤ 100) (h : okRune (oneAt s i)) (hacc : acc.length ≤ 100)
    (hk : Ev (fun k => inkhornref1_Runes.l0 k s (acc ++ [((Utf8.decode s i).1 : Int)]) ((i + (Utf8.decode s i).2 : Nat) : Int)) r) : Ev (fun k => inkhornref1_Runes.l0 k s acc (i : Int)) r := by
  have he := (one_decode s i).2 h
  have hw := decode_width s i
  refine Ev.step (fun k => by simp only [inkhornref1_Runes.l0]; rw [if_pos (by omega)]) (Ev.bind (one_ev s i hi (by omega)) (Ev.congr (fun k => ?_) hk))
  rw [he] at h ⊢
  generalize Utf8.decode s i = q at *
  obtain ⟨u, v⟩ := q
  simp only [okRune] at h
  simp only [Good_eq, Option.bind_some]
  have hwr : wrap64 ((i : Int) + (v : Int)) = ((i + v : Nat) : Int) := by
    simp only at hw
    rw [wrap_id _ (by omega) (by omega)]
    omega
  rw [if_neg h.1, decide_eq_true h.2.1, if_pos rfl]
  by_cases h2 : (v : Int) = 3
  · rw [if_pos h2, if_neg (by omega), if_neg (by omega), if_pos (by omega), hwr]
  · rw [if_neg h2]
    by_cases h3 : (v : Int) = 4
    · rw [if_pos h3, if_neg (by omega), if_pos (by omega), hwr]
    · rw [if_neg h3, if_pos (by omega), hwr]

theorem runes_both (s : ByteArray) (hs : s.size ≤ 100) (b : Nat) : ∀ (i : Nat) (acc : List Int), 1 ≤ b → s.size < i + b → acc.length ≤ i → acc.length ≤ s.size →
    ∃ p : List Int × Bool, text_Runes.go s b i acc = some p ∧ Ev (fun k => inkhornref1_Runes.l0 k s acc (i : Int)) p ∧ p.1.length ≤ s.size := by
  induction b with
  | zero =>
    intro i acc hb h0 h1 h2
    omega
  | succ b ih =>
    intro i acc hb h0 h1 h2
    by_cases hi : i < s.size
    · have hd := one_decode s i
      have hw := decode_width s i
      by_cases hc : (Utf8.decode s i).1 = 65533
      · refine ⟨([], false), ?_, ref_bad s i acc hi hs (fun h => (hd.1.1 h) hc), by simp⟩
        rw [text_Runes.go, if_pos hi, if_pos (by omega)]
      · obtain ⟨p, e1, e2, e3⟩ := ih (i + (Utf8.decode s i).2) (acc ++ [((Utf8.decode s i).1 : Int)]) (by omega) (by omega) (by simp; omega) (by simp; omega)
        refine ⟨p, ?_, ref_good s i acc p hi hs (hd.1.2 hc) (by omega) e2, e3⟩
        rw [text_Runes.go, if_pos hi, if_neg (by omega), if_pos (by omega), e1]
    · refine ⟨(acc, true), ?_, Ev.step (f := fun _ => some (acc, true)) (fun k => ?_) (Ev.now _), h2⟩
      · rw [text_Runes.go, if_neg hi]
      · simp only [inkhornref1_Runes.l0]
        rw [if_neg (by omega)]

theorem runes_f (s : ByteArray) (hs : s.size ≤ 100) : ∃ p : List Int × Bool, text_Runes.f s = some p ∧ Ev (fun k => inkhornref1_Runes.f k s) p ∧ p.1.length ≤ 100 := by
  obtain ⟨p, e1, e2, e3⟩ := runes_both s hs (s.size + 1) 0 [] (by omega) (by omega) (by simp) (by simp)
  have e0 : ((0 : Nat) : Int) = 0 := rfl
  rw [e0] at e2
  exact ⟨p, e1, Ev.congr (fun k => by simp only [inkhornref1_Runes.f]) e2, by omega⟩

/-- What the distance of two texts comes to. -/
def distOf (p q : List Int × Bool) : Int := if p.2 = true then (if q.2 = true then (lev p.1 q.1 : Int) else -1) else -1
theorem Distance_ev (s t : ByteArray) (hs : s.size ≤ 100) (ht : t.size ≤ 100) : ∃ p q : List Int × Bool, text_Runes.f s = some p ∧ text_Runes.f t = some q ∧ p.1.length ≤ 100 ∧ q.1.length ≤ 100 ∧
    Ev (fun k => edit_Distance.f k s t) (distOf p q) ∧ Ev (fun k => inkhornref5_Distance.f k s t) (distOf p q) := by
  obtain ⟨p, p1, p2, p3⟩ := runes_f s hs
  obtain ⟨q, q1, q2, q3⟩ := runes_f t ht
  refine ⟨p, q, p1, q1, p3, q3, ?_, ?_⟩
  · refine Ev.congr (f := fun k => if p.2 = true then (if q.2 = true then ((edit_Runes.f k p.1 q.1).bind fun t135 => some t135) else some (-1)) else some (-1)) (fun k => ?_) ?_
    · simp only [edit_Distance.f, p1, q1, Option.bind_some]
    · unfold distOf
      by_cases h1 : p.2 = true
      · simp only [h1, if_true]
        by_cases h2 : q.2 = true
        · simp only [h2, if_true]
          exact Ev.bind (Runes_ev p.1 q.1 (by omega) (by omega)) (Ev.now _)
        · rw [if_neg h2]
          exact Ev.congr (fun k => by rw [if_neg h2]) (Ev.now _)
      · rw [if_neg h1]
        exact Ev.congr (fun k => by rw [if_neg h1]) (Ev.now _)
  · refine Ev.bind p2 (Ev.bind q2 ?_)
    unfold distOf
    by_cases h1 : p.2 = true
    · simp only [h1, if_true]
      by_cases h2 : q.2 = true
      · simp only [h2, if_true]
        exact Ev.bind (refRunes_ev p.1 q.1 (by omega) (by omega)) (Ev.now _)
      · rw [if_neg h2]
        exact Ev.congr (fun k => by rw [if_neg h2]) (Ev.now _)
    · rw [if_neg h1]
      exact Ev.congr (fun k => by rw [if_neg h1]) (Ev.now _)
end Go.Proofs.Ytlbddbbmomjljaa.Pure
