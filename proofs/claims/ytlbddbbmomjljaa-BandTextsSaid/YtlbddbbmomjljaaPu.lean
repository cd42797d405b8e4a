/- The two ways to take a text apart into runes come to the same, and so do the two distances of texts. -/
import Derived.Test.YtlbddbbmomjljaaPAx3
import Derived.Test.YtlbddbbmomjljaaPv
import Derived.Test.YtlbddbbmomjljaaPt
namespace Go.Proofs.Ytlbddbbmomjljaa.Pure
open Go.RowKit Go.Proofs.Ytlbddbbmomjljaa.PA Go.Proofs.YtlbddbbmomjljaaW.PrintWords Go.Proofs.YtlbddbbmomjljaaW.PrintLast Go.Proofs.YtlbddbbmomjljaaW.PrintMore
open Go.Proofs.Ytlbddbbmomjljaa.Ed

theorem wrap32_id (x : Int) (h0 : -2147483648 ≤ x) (h1 : x ≤ 2147483647) : wrap32 x = x := by unfold wrap32; omega

/-- Byte i + k, as a number; does it go on? -/
def B (s : ByteArray) (i : Nat) (k : Nat) : Nat := (s.get! (i + k)).toNat
def C (s : ByteArray) (i : Nat) (k : Nat) : Bool := decide (i + k < s.size) && B s i k / 64 == 2
theorem B_lt (s : ByteArray) (i k : Nat) : B s i k < 256 := (s.get! (i + k)).toNat_lt
theorem bt_B (s : ByteArray) (i k : Nat) (h : i + k < s.size) : bt s ((i + k : Nat) : Int) = (B s i k : Int) := by
  have e : s.get! (i + k) = s[i + k]'h := by
    show s.get! (i + k) = _
    simp [ByteArray.get!, getElem!_pos, h]
    rfl
  rw [← bt_at s ((i + k : Nat) : Int) (by rw [Int.toNat_natCast]; exact h)]
  unfold B
  rw [e]
  simp only [Int.toNat_natCast]

theorem more_eq (s : ByteArray) (i k : Nat) : inkhornref1_more.f s ((i + k : Nat) : Int) = some (if C s i k then ((B s i k : Int) - 128, true) else (0, false)) := by
  unfold inkhornref1_more.f
  by_cases h : i + k < s.size
  · have hb := bt_B s i k h
    have hl := B_lt s i k
    rw [if_neg (by omega), if_pos (by omega), if_pos (by omega), hb]
    by_cases hc : B s i k / 64 = 2
    · have e : C s i k = true := by simp [C, h, hc]
      rw [e, if_neg (by omega), if_neg (by omega), wrap32_id (B s i k : Int) (by omega) (by omega), wrap32_id _ (by omega) (by omega)]
      rfl
    · have e : C s i k = false := by simp [C, hc]
      rw [e]
      by_cases h1 : (B s i k : Int) < 128
      · rw [if_pos h1]
        rfl
      · rw [if_neg h1, if_pos (by omega)]
        rfl
  · have e : C s i k = false := by simp [C, h]
    rw [e, if_pos (by omega)]
    rfl

/-- What the reference tells of a place: its first byte, the low bits of the three behind it, and whether these go on. -/
def oneSpec (c a b d : Int) (x y z : Bool) : Int × Int :=
  if c < 128 then (c, 1)
  else if 194 ≤ c ∧ c ≤ 223 ∧ x = true then ((c - 192) * 64 + a, 2)
  else if 224 ≤ c ∧ c ≤ 239 ∧ x = true ∧ y = true then ((c - 224) * 4096 + a * 64 + b, 3)
  else if 240 ≤ c ∧ c ≤ 244 ∧ x = true ∧ y = true ∧ z = true then ((c - 240) * 262144 + a * 4096 + b * 64 + d, 4)
  else (0, 0)

set_option maxHeartbeats 8000000 in
theorem one_j (k : Nat) (c a b d : Int) (x y z : Bool) (hc0 : 128 ≤ c) (hc1 : c < 256) (ha0 : 0 ≤ a) (ha1 : a < 64) (hb0 : 0 ≤ b) (hb1 : b < 64) (hd0 : 0 ≤ d) (hd1 : d < 64) :
    (if c ≥ 194 then (if c ≤ 223 then inkhornref1_one.j0 (k + 2) c a x b y d z x else inkhornref1_one.j0 (k + 2) c a x b y d z false) else inkhornref1_one.j0 (k + 2) c a x b y d z false) = some (oneSpec c a b d x y z) := by
  have w1 : wrap32 (c - 192) = c - 192 := wrap32_id _ (by omega) (by omega)
  have w2 : wrap32 ((c - 192) * 64) = (c - 192) * 64 := wrap32_id _ (by omega) (by omega)
  have w3 : wrap32 ((c - 192) * 64 + a) = (c - 192) * 64 + a := wrap32_id _ (by omega) (by omega)
  have w4 : wrap32 (c - 224) = c - 224 := wrap32_id _ (by omega) (by omega)
  have w5 : wrap32 ((c - 224) * 4096) = (c - 224) * 4096 := wrap32_id _ (by omega) (by omega)
  have w6 : wrap32 (a * 64) = a * 64 := wrap32_id _ (by omega) (by omega)
  have w7 : wrap32 ((c - 224) * 4096 + a * 64) = (c - 224) * 4096 + a * 64 := wrap32_id _ (by omega) (by omega)
  have w8 : wrap32 ((c - 224) * 4096 + a * 64 + b) = (c - 224) * 4096 + a * 64 + b := wrap32_id _ (by omega) (by omega)
  have w9 : wrap32 (c - 240) = c - 240 := wrap32_id _ (by omega) (by omega)
  have w10 : wrap32 ((c - 240) * 262144) = (c - 240) * 262144 := wrap32_id _ (by omega) (by omega)
  have w11 : wrap32 (a * 4096) = a * 4096 := wrap32_id _ (by omega) (by omega)
  have w12 : wrap32 ((c - 240) * 262144 + a * 4096) = (c - 240) * 262144 + a * 4096 := wrap32_id _ (by omega) (by omega)
  have w13 : wrap32 (b * 64) = b * 64 := wrap32_id _ (by omega) (by omega)
  have w14 : wrap32 ((c - 240) * 262144 + a * 4096 + b * 64) = (c - 240) * 262144 + a * 4096 + b * 64 := wrap32_id _ (by omega) (by omega)
  have w15 : wrap32 ((c - 240) * 262144 + a * 4096 + b * 64 + d) = (c - 240) * 262144 + a * 4096 + b * 64 + d := wrap32_id _ (by omega) (by omega)
  simp only [inkhornref1_one.j0, inkhornref1_one.j1, w1, w2, w3, w4, w5, w6, w7, w8, w9, w10, w11, w12, w13, w14, w15]
  clear w1 w2 w3 w4 w5 w6 w7 w8 w9 w10 w11 w12 w13 w14 w15
  unfold oneSpec
  cases x <;> cases y <;> cases z <;> simp only [Bool.false_eq_true, if_false, if_true, and_true, and_false, ge_iff_le] <;> (repeat' split) <;> first | rfl | (exfalso; omega)

def low (s : ByteArray) (i k : Nat) : Int := if C s i k = true then (B s i k : Int) - 128 else 0
theorem low_range (s : ByteArray) (i k : Nat) : 0 ≤ low s i k ∧ low s i k < 64 := by
  unfold low
  split
  · rename_i h
    have m1 : B s i k / 64 = 2 := by simp [C] at h; exact h.2
    omega
  · omega
theorem more_eq' (s : ByteArray) (i k : Nat) : inkhornref1_more.f s ((i + k : Nat) : Int) = some (low s i k, C s i k) := by
  rw [more_eq]
  unfold low
  cases C s i k <;> rfl
def oneAt (s : ByteArray) (i : Nat) : Int × Int := oneSpec (B s i 0) (low s i 1) (low s i 2) (low s i 3) (C s i 1) (C s i 2) (C s i 3)

theorem one_f (k : Nat) (s : ByteArray) (i : Nat) (hi : i < s.size) (hs : s.size ≤ 1000) : inkhornref1_one.f k s (i : Int) = if (B s i 0 : Int) < 128 then some ((B s i 0 : Int), 1) else (if (B s i 0 : Int) ≥ 194 then (if (B s i 0 : Int) ≤ 223 then inkhornref1_one.j0 k (B s i 0) (low s i 1) (C s i 1) (low s i 2) (C s i 2) (low s i 3) (C s i 3) (C s i 1) else inkhornref1_one.j0 k (B s i 0) (low s i 1) (C s i 1) (low s i 2) (C s i 2) (low s i 3) (C s i 3) false) else inkhornref1_one.j0 k (B s i 0) (low s i 1) (C s i 1) (low s i 2) (C s i 2) (low s i 3) (C s i 3) false) := by
  have w1 : wrap64 ((i : Int) + 1) = ((i + 1 : Nat) : Int) := by rw [wrap_id _ (by omega) (by omega)]; rfl
  have w2 : wrap64 ((i : Int) + 2) = ((i + 2 : Nat) : Int) := by rw [wrap_id _ (by omega) (by omega)]; rfl
  have w3 : wrap64 ((i : Int) + 3) = ((i + 3 : Nat) : Int) := by rw [wrap_id _ (by omega) (by omega)]; rfl
  have hb : bt s (i : Int) = (B s i 0 : Int) := bt_B s i 0 (by omega)
  have l0 := B_lt s i 0
  have hw : wrap32 (B s i 0 : Int) = (B s i 0 : Int) := wrap32_id _ (by omega) (by omega)
  unfold inkhornref1_one.f
  rw [if_pos (by omega), if_pos (by omega), w1, w2, w3, more_eq', more_eq', more_eq', hb, hw]
  simp only [Option.bind_some]
theorem one_ev (s : ByteArray) (i : Nat) (hi : i < s.size) (hs : s.size ≤ 1000) : Ev (fun k => inkhornref1_one.f k s (i : Int)) (oneAt s i) := by
  have l0 := B_lt s i 0
  have l1 := low_range s i 1
  have l2 := low_range s i 2
  have l3 := low_range s i 3
  refine ⟨2, fun n hn => ?_⟩
  obtain ⟨k, rfl⟩ : ∃ k, n = k + 2 := ⟨n - 2, by omega⟩
  simp only [one_f (k + 2) s i hi hs]
  by_cases h0 : (B s i 0 : Int) < 128
  · rw [if_pos h0, oneAt, oneSpec, if_pos h0]
  · rw [if_neg h0, one_j k _ _ _ _ _ _ _ (by omega) (by omega) l1.1 l1.2 l2.1 l2.2 l3.1 l3.2, oneAt]

/-- Is what the reference reads a rune? -/
def okRune (p : Int × Int) : Prop := p.2 ≠ 0 ∧ (0 ≤ p.1 ∧ p.1 ≤ 1114111 ∧ (p.1 < 55296 ∨ p.1 > 57343) ∧ p.1 ≠ 65533) ∧ ¬(p.2 = 3 ∧ p.1 < 2048) ∧ ¬(p.2 = 4 ∧ p.1 < 65536)

theorem oneSpec_cases (c a b d : Int) (x y z : Bool) :
    (c < 128 ∧ oneSpec c a b d x y z = (c, 1)) ∨
    (194 ≤ c ∧ c ≤ 223 ∧ x.toNat = 1 ∧ oneSpec c a b d x y z = ((c - 192) * 64 + a, 2)) ∨
    (224 ≤ c ∧ c ≤ 239 ∧ x.toNat = 1 ∧ y.toNat = 1 ∧ oneSpec c a b d x y z = ((c - 224) * 4096 + a * 64 + b, 3)) ∨
    (240 ≤ c ∧ c ≤ 244 ∧ x.toNat = 1 ∧ y.toNat = 1 ∧ z.toNat = 1 ∧ oneSpec c a b d x y z = ((c - 240) * 262144 + a * 4096 + b * 64 + d, 4)) ∨
    (128 ≤ c ∧ ¬(194 ≤ c ∧ c ≤ 223 ∧ x.toNat = 1) ∧ ¬(224 ≤ c ∧ c ≤ 239 ∧ x.toNat = 1 ∧ y.toNat = 1) ∧ ¬(240 ≤ c ∧ c ≤ 244 ∧ x.toNat = 1 ∧ y.toNat = 1 ∧ z.toNat = 1) ∧ oneSpec c a b d x y z = (0, 0)) := by
  simp only [Bool.toNat_eq_one]
  unfold oneSpec
  by_cases h0 : c < 128
  · exact .inl ⟨h0, by rw [if_pos h0]⟩
  · by_cases h1 : 194 ≤ c ∧ c ≤ 223 ∧ x = true
    · exact .inr (.inl ⟨h1.1, h1.2.1, h1.2.2, by rw [if_neg h0, if_pos h1]⟩)
    · by_cases h2 : 224 ≤ c ∧ c ≤ 239 ∧ x = true ∧ y = true
      · exact .inr (.inr (.inl ⟨h2.1, h2.2.1, h2.2.2.1, h2.2.2.2, by rw [if_neg h0, if_neg h1, if_pos h2]⟩))
      · by_cases h3 : 240 ≤ c ∧ c ≤ 244 ∧ x = true ∧ y = true ∧ z = true
        · exact .inr (.inr (.inr (.inl ⟨h3.1, h3.2.1, h3.2.2.1, h3.2.2.2.1, h3.2.2.2.2, by rw [if_neg h0, if_neg h1, if_neg h2, if_pos h3]⟩)))
        · exact .inr (.inr (.inr (.inr ⟨by omega, h1, h2, h3, by rw [if_neg h0, if_neg h1, if_neg h2, if_neg h3]⟩)))

theorem valid_iff (n : Nat) : Utf8.valid (n : Int) = true ↔ (n < 55296 ∨ (57344 ≤ n ∧ n ≤ 1114111)) := by
  simp [Utf8.valid]
  omega

def v2 (s : ByteArray) (i : Nat) : Nat := B s i 0 % 32 * 64 + B s i 1 % 64
def v3 (s : ByteArray) (i : Nat) : Nat := B s i 0 % 16 * 4096 + B s i 1 % 64 * 64 + B s i 2 % 64
def v4 (s : ByteArray) (i : Nat) : Nat := B s i 0 % 8 * 262144 + B s i 1 % 64 * 4096 + B s i 2 % 64 * 64 + B s i 3 % 64
theorem decode_eq (s : ByteArray) (i : Nat) : Utf8.decode s i = (if B s i 0 < 0x80 then (B s i 0, 1)
      else if (B s i 0 / 32 == 6 && C s i 1) = true then (if v2 s i ≥ 0x80 then (v2 s i, 2) else (65533, 1))
      else if (B s i 0 / 16 == 14 && C s i 1 && C s i 2) = true then (if (decide (v3 s i ≥ 0x800) && Utf8.valid ((v3 s i : Nat) : Int)) = true then (v3 s i, 3) else (65533, 1))
      else if (B s i 0 / 8 == 30 && C s i 1 && C s i 2 && C s i 3) = true then (if (decide (v4 s i ≥ 0x10000) && Utf8.valid ((v4 s i : Nat) : Int)) = true then (v4 s i, 4) else (65533, 1))
      else (65533, 1)) := rfl
theorem decode_cases (s : ByteArray) (i : Nat) :
    (B s i 0 < 128 ∧ Utf8.decode s i = (B s i 0, 1)) ∨
    (B s i 0 / 32 = 6 ∧ (C s i 1).toNat = 1 ∧ v2 s i ≥ 128 ∧ Utf8.decode s i = (v2 s i, 2)) ∨
    (B s i 0 / 16 = 14 ∧ (C s i 1).toNat = 1 ∧ (C s i 2).toNat = 1 ∧ v3 s i ≥ 2048 ∧ (v3 s i < 55296 ∨ 57344 ≤ v3 s i) ∧ v3 s i ≤ 1114111 ∧ Utf8.decode s i = (v3 s i, 3)) ∨
    (B s i 0 / 8 = 30 ∧ (C s i 1).toNat = 1 ∧ (C s i 2).toNat = 1 ∧ (C s i 3).toNat = 1 ∧ v4 s i ≥ 65536 ∧ v4 s i ≤ 1114111 ∧ Utf8.decode s i = (v4 s i, 4)) ∨
    (128 ≤ B s i 0 ∧ ¬(B s i 0 / 32 = 6 ∧ (C s i 1).toNat = 1 ∧ v2 s i ≥ 128) ∧ ¬(B s i 0 / 16 = 14 ∧ (C s i 1).toNat = 1 ∧ (C s i 2).toNat = 1 ∧ v3 s i ≥ 2048 ∧ (v3 s i < 55296 ∨ 57344 ≤ v3 s i)) ∧ ¬(B s i 0 / 8 = 30 ∧ (C s i 1).toNat = 1 ∧ (C s i 2).toNat = 1 ∧ (C s i 3).toNat = 1 ∧ v4 s i ≥ 65536 ∧ v4 s i ≤ 1114111) ∧ Utf8.decode s i = (65533, 1)) := by
  rw [decode_eq]
  have hv3 : v3 s i ≤ 65535 := by
    unfold v3
    omega
  generalize v2 s i = a2
  generalize v3 s i = a3 at *
  generalize v4 s i = a4
  generalize B s i 0 = b0
  generalize C s i 1 = x
  generalize C s i 2 = y
  generalize C s i 3 = z
  simp only [Bool.toNat_eq_one, Bool.and_eq_true, beq_iff_eq, decide_eq_true_eq, valid_iff]
  by_cases h0 : b0 < 128
  · exact .inl ⟨h0, by rw [if_pos h0]⟩
  · rw [if_neg h0]
    by_cases h1 : b0 / 32 = 6 ∧ x = true
    · rw [if_pos h1]
      by_cases g1 : a2 ≥ 128
      · rw [if_pos g1]
        exact .inr (.inl ⟨h1.1, h1.2, g1, rfl⟩)
      · rw [if_neg g1]
        exact .inr (.inr (.inr (.inr ⟨by omega, fun h => g1 h.2.2, fun h => by have := h1.1; have := h.1; omega, fun h => by have := h1.1; have := h.1; omega, rfl⟩)))
    · rw [if_neg h1]
      by_cases h2 : (b0 / 16 = 14 ∧ x = true) ∧ y = true
      · rw [if_pos h2]
        by_cases g2 : a3 ≥ 2048 ∧ (a3 < 55296 ∨ 57344 ≤ a3 ∧ a3 ≤ 1114111)
        · rw [if_pos g2]
          exact .inr (.inr (.inl ⟨h2.1.1, h2.1.2, h2.2, g2.1, by omega, by omega, rfl⟩))
        · rw [if_neg g2]
          exact .inr (.inr (.inr (.inr ⟨by omega, fun h => h1 ⟨h.1, h.2.1⟩, fun h => g2 ⟨h.2.2.2.1, by have := h.2.2.2.2; omega⟩, fun h => by have := h2.1.1; have := h.1; omega, rfl⟩)))
      · rw [if_neg h2]
        by_cases h3 : ((b0 / 8 = 30 ∧ x = true) ∧ y = true) ∧ z = true
        · rw [if_pos h3]
          by_cases g3 : a4 ≥ 65536 ∧ (a4 < 55296 ∨ 57344 ≤ a4 ∧ a4 ≤ 1114111)
          · rw [if_pos g3]
            exact .inr (.inr (.inr (.inl ⟨h3.1.1.1, h3.1.1.2, h3.1.2, h3.2, g3.1, by omega, rfl⟩)))
          · rw [if_neg g3]
            exact .inr (.inr (.inr (.inr ⟨by omega, fun h => h1 ⟨h.1, h.2.1⟩, fun h => h2 ⟨⟨h.1, h.2.1⟩, h.2.2.1⟩, fun h => g3 ⟨h.2.2.2.2.1, .inr ⟨by omega, h.2.2.2.2.2⟩⟩, rfl⟩)))
        · rw [if_neg h3]
          exact .inr (.inr (.inr (.inr ⟨by omega, fun h => h1 ⟨h.1, h.2.1⟩, fun h => h2 ⟨⟨h.1, h.2.1⟩, h.2.2.1⟩, fun h => h3 ⟨⟨⟨h.1, h.2.1⟩, h.2.2.1⟩, h.2.2.2.1⟩, rfl⟩)))

theorem low_C (s : ByteArray) (i k : Nat) (h : (C s i k).toNat = 1) : low s i k = (B s i k : Int) - 128 ∧ B s i k / 64 = 2 := by
  rw [Bool.toNat_eq_one] at h
  refine ⟨by rw [low, if_pos h], ?_⟩
  simp [C] at h
  exact h.2

set_option maxHeartbeats 8000000 in
theorem one_plain (p0 p1 p2 p3 : Nat) (q1 q2 q3 r m : Int) (u v x y z : Nat) (l0 : p0 < 256) (l1 : p1 < 256) (l2 : p2 < 256) (l3 : p3 < 256)
    (c1 : x = 1 → q1 = (p1 : Int) - 128 ∧ p1 / 64 = 2) (c2 : y = 1 → q2 = (p2 : Int) - 128 ∧ p2 / 64 = 2) (c3 : z = 1 → q3 = (p3 : Int) - 128 ∧ p3 / 64 = 2)
    (d1 : ((p0 : Int) < 128 ∧ r = p0 ∧ m = 1) ∨ (194 ≤ (p0 : Int) ∧ (p0 : Int) ≤ 223 ∧ x = 1 ∧ r = ((p0 : Int) - 192) * 64 + q1 ∧ m = 2) ∨
      (224 ≤ (p0 : Int) ∧ (p0 : Int) ≤ 239 ∧ x = 1 ∧ y = 1 ∧ r = ((p0 : Int) - 224) * 4096 + q1 * 64 + q2 ∧ m = 3) ∨
      (240 ≤ (p0 : Int) ∧ (p0 : Int) ≤ 244 ∧ x = 1 ∧ y = 1 ∧ z = 1 ∧ r = ((p0 : Int) - 240) * 262144 + q1 * 4096 + q2 * 64 + q3 ∧ m = 4) ∨
      (128 ≤ (p0 : Int) ∧ ¬(194 ≤ (p0 : Int) ∧ (p0 : Int) ≤ 223 ∧ x = 1) ∧ ¬(224 ≤ (p0 : Int) ∧ (p0 : Int) ≤ 239 ∧ x = 1 ∧ y = 1) ∧ ¬(240 ≤ (p0 : Int) ∧ (p0 : Int) ≤ 244 ∧ x = 1 ∧ y = 1 ∧ z = 1) ∧ r = 0 ∧ m = 0))
    (d2 : (p0 < 128 ∧ u = p0 ∧ v = 1) ∨ (p0 / 32 = 6 ∧ x = 1 ∧ p0 % 32 * 64 + p1 % 64 ≥ 128 ∧ u = p0 % 32 * 64 + p1 % 64 ∧ v = 2) ∨
      (p0 / 16 = 14 ∧ x = 1 ∧ y = 1 ∧ p0 % 16 * 4096 + p1 % 64 * 64 + p2 % 64 ≥ 2048 ∧ (p0 % 16 * 4096 + p1 % 64 * 64 + p2 % 64 < 55296 ∨ 57344 ≤ p0 % 16 * 4096 + p1 % 64 * 64 + p2 % 64) ∧ p0 % 16 * 4096 + p1 % 64 * 64 + p2 % 64 ≤ 1114111 ∧ u = p0 % 16 * 4096 + p1 % 64 * 64 + p2 % 64 ∧ v = 3) ∨
      (p0 / 8 = 30 ∧ x = 1 ∧ y = 1 ∧ z = 1 ∧ p0 % 8 * 262144 + p1 % 64 * 4096 + p2 % 64 * 64 + p3 % 64 ≥ 65536 ∧ p0 % 8 * 262144 + p1 % 64 * 4096 + p2 % 64 * 64 + p3 % 64 ≤ 1114111 ∧ u = p0 % 8 * 262144 + p1 % 64 * 4096 + p2 % 64 * 64 + p3 % 64 ∧ v = 4) ∨
      (128 ≤ p0 ∧ ¬(p0 / 32 = 6 ∧ x = 1 ∧ p0 % 32 * 64 + p1 % 64 ≥ 128) ∧ ¬(p0 / 16 = 14 ∧ x = 1 ∧ y = 1 ∧ p0 % 16 * 4096 + p1 % 64 * 64 + p2 % 64 ≥ 2048 ∧ (p0 % 16 * 4096 + p1 % 64 * 64 + p2 % 64 < 55296 ∨ 57344 ≤ p0 % 16 * 4096 + p1 % 64 * 64 + p2 % 64)) ∧ ¬(p0 / 8 = 30 ∧ x = 1 ∧ y = 1 ∧ z = 1 ∧ p0 % 8 * 262144 + p1 % 64 * 4096 + p2 % 64 * 64 + p3 % 64 ≥ 65536 ∧ p0 % 8 * 262144 + p1 % 64 * 4096 + p2 % 64 * 64 + p3 % 64 ≤ 1114111) ∧ u = 65533 ∧ v = 1)) :
    ((m ≠ 0 ∧ (0 ≤ r ∧ r ≤ 1114111 ∧ (r < 55296 ∨ r > 57343) ∧ r ≠ 65533) ∧ ¬(m = 3 ∧ r < 2048) ∧ ¬(m = 4 ∧ r < 65536)) ↔ u ≠ 65533) ∧
    ((m ≠ 0 ∧ (0 ≤ r ∧ r ≤ 1114111 ∧ (r < 55296 ∨ r > 57343) ∧ r ≠ 65533) ∧ ¬(m = 3 ∧ r < 2048) ∧ ¬(m = 4 ∧ r < 65536)) → r = (u : Int) ∧ m = (v : Int)) := by
  rcases d1 with ⟨a1, e1, e2⟩ | ⟨a1, a2, a3, e1, e2⟩ | ⟨a1, a2, a3, a4, e1, e2⟩ | ⟨a1, a2, a3, a4, a5, e1, e2⟩ | ⟨a1, a2, a3, a4, e1, e2⟩ <;>
  rcases d2 with ⟨b1, f1, f2⟩ | ⟨b1, b2, b3, f1, f2⟩ | ⟨b1, b2, b3, b4, b5, b6, f1, f2⟩ | ⟨b1, b2, b3, b4, b5, b6, f1, f2⟩ | ⟨b1, b2, b3, b4, f1, f2⟩ <;> subst e2 f2 <;> omega
theorem one_decode (s : ByteArray) (i : Nat) : (okRune (oneAt s i) ↔ (Utf8.decode s i).1 ≠ 65533) ∧ (okRune (oneAt s i) → oneAt s i = (((Utf8.decode s i).1 : Int), ((Utf8.decode s i).2 : Int))) := by
  have l0 := B_lt s i 0
  have c1 := low_C s i 1
  have c2 := low_C s i 2
  have c3 := low_C s i 3
  have l1 := B_lt s i 1
  have l2 := B_lt s i 2
  have l3 := B_lt s i 3
  have d1 := oneSpec_cases (B s i 0) (low s i 1) (low s i 2) (low s i 3) (C s i 1) (C s i 2) (C s i 3)
  have d2 := decode_cases s i
  change _ at d1
  rw [show oneSpec (B s i 0) (low s i 1) (low s i 2) (low s i 3) (C s i 1) (C s i 2) (C s i 3) = oneAt s i from rfl] at d1
  generalize oneAt s i = p at *
  generalize Utf8.decode s i = q at *
  obtain ⟨r, m⟩ := p
  obtain ⟨u, v⟩ := q
  simp only [okRune, Prod.mk.injEq, v2, v3, v4] at *
  generalize B s i 0 = p0 at *
  generalize B s i 1 = p1 at *
  generalize B s i 2 = p2 at *
  generalize B s i 3 = p3 at *
  generalize low s i 1 = q1 at *
  generalize low s i 2 = q2 at *
  generalize low s i 3 = q3 at *
  generalize (C s i 1).toNat = x at *
  generalize (C s i 2).toNat = y at *
  generalize (C s i 3).toNat = z at *
  exact one_plain p0 p1 p2 p3 q1 q2 q3 r m u v x y z l0 l1 l2 l3 c1 c2 c3 d1 d2
end Go.Proofs.Ytlbddbbmomjljaa.Pure
