/- The distance of two lists of whole numbers, in plain words: what it is, and its laws. No program stands here. -/
namespace Go.Proofs.Ytlbddbbmomjljaa.Ed

def lev : List Int → List Int → Nat
  | [], b => b.length
  | a, [] => a.length
  | x :: a, y :: b => min (min (lev a b + if x = y then 0 else 1) (lev a (y :: b) + 1)) (lev (x :: a) b + 1)
termination_by a b => a.length + b.length

theorem lev_nil_left (b : List Int) : lev [] b = b.length := by simp [lev]
theorem lev_nil_right (a : List Int) : lev a [] = a.length := by cases a <;> simp [lev]
theorem lev_cons (x y : Int) (a b : List Int) : lev (x :: a) (y :: b) = min (min (lev a b + if x = y then 0 else 1) (lev a (y :: b) + 1)) (lev (x :: a) b + 1) := by rw [lev]

theorem lev_del (x : Int) (a b : List Int) : lev (x :: a) b ≤ lev a b + 1 := by
  cases b with
  | nil => rw [lev_nil_right, lev_nil_right]; simp
  | cons y b => rw [lev_cons]; omega
theorem lev_ins (y : Int) (a b : List Int) : lev a (y :: b) ≤ lev a b + 1 := by
  cases a with
  | nil => rw [lev_nil_left, lev_nil_left]; simp
  | cons x a => rw [lev_cons]; omega
theorem lev_sub (x y : Int) (a b : List Int) : lev (x :: a) (y :: b) ≤ lev a b + if x = y then 0 else 1 := by
  rw [lev_cons]; omega

/-! ### Alignments -/
abbrev Col := Option Int × Option Int
def left (al : List Col) : List Int := al.filterMap Prod.fst
def right (al : List Col) : List Int := al.filterMap Prod.snd
def colCost (c : Col) : Nat := if c.1 = c.2 then 0 else 1
def cost (al : List Col) : Nat := (al.map colCost).sum

theorem left_append (p q : List Col) : left (p ++ q) = left p ++ left q := by simp [left]
theorem right_append (p q : List Col) : right (p ++ q) = right p ++ right q := by simp [right]
theorem cost_append (p q : List Col) : cost (p ++ q) = cost p + cost q := by simp [cost]
theorem left_reverse (p : List Col) : left p.reverse = (left p).reverse := by simp [left, List.filterMap_reverse]
theorem right_reverse (p : List Col) : right p.reverse = (right p).reverse := by simp [right, List.filterMap_reverse]
theorem cost_reverse (p : List Col) : cost p.reverse = cost p := by simp [cost]
theorem left_cons (c : Col) (p : List Col) : left (c :: p) = (match c.1 with | none => left p | some x => x :: left p) := by
  cases h : c.1 <;> simp [left, h]
theorem right_cons (c : Col) (p : List Col) : right (c :: p) = (match c.2 with | none => right p | some x => x :: right p) := by
  cases h : c.2 <;> simp [right, h]
theorem cost_cons (c : Col) (p : List Col) : cost (c :: p) = colCost c + cost p := by simp [cost]

theorem ali_right : ∀ b : List Int, ∃ al, left al = [] ∧ right al = b ∧ cost al = b.length
  | [] => ⟨[], rfl, rfl, rfl⟩
  | y :: b => by
    obtain ⟨al, h1, h2, h3⟩ := ali_right b
    exact ⟨(none, some y) :: al, by simp [left_cons, h1], by simp [right_cons, h2], by simp [cost_cons, colCost, h3]; omega⟩
theorem ali_left : ∀ a : List Int, ∃ al, left al = a ∧ right al = [] ∧ cost al = a.length
  | [] => ⟨[], rfl, rfl, rfl⟩
  | x :: a => by
    obtain ⟨al, h1, h2, h3⟩ := ali_left a
    exact ⟨(some x, none) :: al, by simp [left_cons, h1], by simp [right_cons, h2], by simp [cost_cons, colCost, h3]; omega⟩

/-- There is one that costs the distance. -/
theorem ali_lev (n : Nat) : ∀ a b : List Int, a.length + b.length ≤ n → ∃ al, left al = a ∧ right al = b ∧ cost al = lev a b := by
  induction n with
  | zero =>
    intro a b h
    obtain rfl : a = [] := List.eq_nil_of_length_eq_zero (by omega)
    obtain rfl : b = [] := List.eq_nil_of_length_eq_zero (by omega)
    exact ⟨[], rfl, rfl, by rw [lev_nil_left]; rfl⟩
  | succ n ih =>
    intro a b h
    cases a with
    | nil => rw [lev_nil_left]; exact ali_right b
    | cons x a =>
      cases b with
      | nil => rw [lev_nil_right]; exact ali_left (x :: a)
      | cons y b =>
        simp only [List.length_cons] at h
        rw [lev_cons]
        have h1 := ih a b (by omega)
        have h2 := ih a (y :: b) (by simp; omega)
        have h3 := ih (x :: a) b (by simp; omega)
        by_cases m1 : lev (x :: a) b + 1 ≤ min (lev a b + if x = y then 0 else 1) (lev a (y :: b) + 1)
        · obtain ⟨al, e1, e2, e3⟩ := h3
          refine ⟨(none, some y) :: al, by simp [left_cons, e1], by simp [right_cons, e2], ?_⟩
          simp only [cost_cons, colCost, e3]
          simp
          omega
        · by_cases m2 : lev a (y :: b) + 1 ≤ lev a b + if x = y then 0 else 1
          · obtain ⟨al, e1, e2, e3⟩ := h2
            refine ⟨(some x, none) :: al, by simp [left_cons, e1], by simp [right_cons, e2], ?_⟩
            simp only [cost_cons, colCost, e3]
            simp
            omega
          · obtain ⟨al, e1, e2, e3⟩ := h1
            refine ⟨(some x, some y) :: al, by simp [left_cons, e1], by simp [right_cons, e2], ?_⟩
            simp only [cost_cons, colCost, e3, Option.some.injEq]
            omega

theorem ali_of (a b : List Int) : ∃ al, left al = a ∧ right al = b ∧ cost al = lev a b := ali_lev _ a b (Nat.le_refl _)

/-- None costs less. -/
theorem lev_le (al : List Col) : lev (left al) (right al) ≤ cost al := by
  induction al with
  | nil => simp [left, right, lev_nil_left]
  | cons c al ih =>
    obtain ⟨l, r⟩ := c
    rw [cost_cons, left_cons, right_cons]
    cases l with
    | none =>
      cases r with
      | none => exact Nat.le_trans ih (Nat.le_add_left _ _)
      | some y => simp only [colCost]; have := lev_ins y (left al) (right al); simp; omega
    | some x =>
      cases r with
      | none => simp only [colCost]; have := lev_del x (left al) (right al); simp; omega
      | some y =>
        have := lev_sub x y (left al) (right al)
        simp only [colCost, Option.some.injEq]
        omega

theorem lev_le_of {a b : List Int} {al : List Col} (h1 : left al = a) (h2 : right al = b) : lev a b ≤ cost al := by
  subst h1 h2
  exact lev_le al

/-! ### What follows -/
theorem lev_swap_le (a b : List Int) : lev b a ≤ lev a b := by
  obtain ⟨al, h1, h2, h3⟩ := ali_of a b
  have h : lev b a ≤ cost (al.map Prod.swap) := lev_le_of (by simpa [left, right, List.filterMap_map, Function.comp_def] using h2) (by simpa [left, right, List.filterMap_map, Function.comp_def] using h1)
  have e : cost (al.map Prod.swap) = cost al := by
    simp only [cost, List.map_map]
    congr 1
    apply List.map_congr_left
    intro c _
    simp [colCost, eq_comm]
  omega
theorem lev_comm (a b : List Int) : lev a b = lev b a := Nat.le_antisymm (lev_swap_le b a) (lev_swap_le a b)

theorem lev_reverse_le (a b : List Int) : lev a.reverse b.reverse ≤ lev a b := by
  obtain ⟨al, h1, h2, h3⟩ := ali_of a b
  have h : lev a.reverse b.reverse ≤ cost al.reverse := lev_le_of (by rw [left_reverse, h1]) (by rw [right_reverse, h2])
  rw [cost_reverse] at h
  omega
theorem lev_reverse (a b : List Int) : lev a.reverse b.reverse = lev a b := by
  have h := lev_reverse_le a.reverse b.reverse
  rw [List.reverse_reverse, List.reverse_reverse] at h
  exact Nat.le_antisymm (lev_reverse_le a b) h

theorem lev_append_le (a b c d : List Int) : lev (a ++ c) (b ++ d) ≤ lev a b + lev c d := by
  obtain ⟨p, p1, p2, p3⟩ := ali_of a b
  obtain ⟨q, q1, q2, q3⟩ := ali_of c d
  have h : lev (a ++ c) (b ++ d) ≤ cost (p ++ q) := lev_le_of (by rw [left_append, p1, q1]) (by rw [right_append, p2, q2])
  rw [cost_append] at h
  omega

theorem lev_snoc (x y : Int) (a b : List Int) : lev (a ++ [x]) (b ++ [y]) = min (min (lev a b + if x = y then 0 else 1) (lev a (b ++ [y]) + 1)) (lev (a ++ [x]) b + 1) := by
  rw [← lev_reverse (a ++ [x]) (b ++ [y]), ← lev_reverse a b, ← lev_reverse a (b ++ [y]), ← lev_reverse (a ++ [x]) b]
  simp only [List.reverse_append, List.reverse_cons, List.reverse_nil, List.nil_append, List.singleton_append]
  exact lev_cons ..

/-- By way of a third one. -/
theorem tri (n : Nat) : ∀ p q : List Col, p.length + q.length ≤ n → right p = left q → lev (left p) (right q) ≤ cost p + cost q := by
  induction n with
  | zero =>
    intro p q h _
    obtain rfl : p = [] := List.eq_nil_of_length_eq_zero (by omega)
    obtain rfl : q = [] := List.eq_nil_of_length_eq_zero (by omega)
    exact lev_le []
  | succ n ih =>
    intro p q h e
    cases p with
    | nil =>
      cases q with
      | nil => exact lev_le []
      | cons c q =>
        obtain ⟨l, r⟩ := c
        cases l with
        | some y => rw [left_cons] at e; simp [right] at e
        | none =>
          have e' : right [] = left q := by rw [left_cons] at e; exact e
          have h1 := ih [] q (by simp at h ⊢; omega) e'
          rw [cost_cons, right_cons]
          cases r with
          | none => exact Nat.le_trans h1 (by omega)
          | some z =>
            have h2 := lev_ins z (left []) (right q)
            simp only [colCost]
            simp at h1 h2 ⊢
            omega
    | cons c p =>
      obtain ⟨l, r⟩ := c
      cases r with
      | none =>
        have e' : right p = left q := by rw [right_cons] at e; exact e
        have h1 := ih p q (by simp at h ⊢; omega) e'
        rw [cost_cons, left_cons]
        cases l with
        | none => exact Nat.le_trans h1 (by omega)
        | some x =>
          have h2 := lev_del x (left p) (right q)
          simp only [colCost]
          simp at h1 h2 ⊢
          omega
      | some y =>
        cases q with
        | nil => rw [right_cons] at e; simp [left] at e
        | cons c' q =>
          obtain ⟨l', r'⟩ := c'
          cases l' with
          | none =>
            have e' : right ((l, some y) :: p) = left q := by rw [left_cons] at e; exact e
            have h1 := ih ((l, some y) :: p) q (by simp at h ⊢; omega) e'
            rw [cost_cons (none, r'), right_cons (none, r')]
            cases r' with
            | none => exact Nat.le_trans h1 (by omega)
            | some z =>
              have h2 := lev_ins z (left ((l, some y) :: p)) (right q)
              have h3 : colCost (none, some z) = 1 := by simp [colCost]
              simp only
              omega
          | some y' =>
            rw [right_cons, left_cons] at e
            simp only [List.cons.injEq] at e
            obtain ⟨e1, e2⟩ := e
            subst e1
            have h1 := ih p q (by simp at h ⊢; omega) e2
            rw [cost_cons, cost_cons, left_cons, right_cons]
            cases l with
            | none =>
              cases r' with
              | none => simp only; omega
              | some z =>
                have h2 := lev_ins z (left p) (right q)
                have h3 : colCost (none, some y) = 1 := by simp [colCost]
                simp only
                omega
            | some x =>
              cases r' with
              | none =>
                have h2 := lev_del x (left p) (right q)
                have h3 : colCost (some y, none) = 1 := by simp [colCost]
                simp only
                omega
              | some z =>
                have h2 := lev_sub x z (left p) (right q)
                have h3 : (if x = z then 0 else 1) ≤ colCost (some x, some y) + colCost (some y, some z) := by
                  simp only [colCost, Option.some.injEq]
                  by_cases hxy : x = y
                  · subst hxy
                    simp
                  · simp only [hxy, if_false]
                    split <;> omega
                simp only
                omega

theorem lev_triangle (a b c : List Int) : lev a c ≤ lev a b + lev b c := by
  obtain ⟨p, p1, p2, p3⟩ := ali_of a b
  obtain ⟨q, q1, q2, q3⟩ := ali_of b c
  have h := tri _ p q (Nat.le_refl _) (p2.trans q1.symm)
  rw [p1, q2, p3, q3] at h
  exact h

theorem lev_self (a : List Int) : lev a a = 0 := by
  induction a with
  | nil => rw [lev_nil_left]; rfl
  | cons x a ih => rw [lev_cons, if_pos rfl, ih]; omega
theorem lev_zero {a b : List Int} (h : lev a b = 0) : a = b := by
  induction a generalizing b with
  | nil => rw [lev_nil_left] at h; exact (List.eq_nil_of_length_eq_zero h).symm
  | cons x a ih =>
    cases b with
    | nil => rw [lev_nil_right] at h; simp at h
    | cons y b =>
      rw [lev_cons] at h
      by_cases e : x = y
      · subst e
        rw [ih (b := b) (by simp at h; omega)]
      · rw [if_neg e] at h
        omega
theorem lev_zero_iff (a b : List Int) : lev a b = 0 ↔ a = b := ⟨lev_zero, fun h => h ▸ lev_self a⟩

theorem lev_ge_right (a b : List Int) : b.length ≤ a.length + lev a b := by
  obtain ⟨al, h1, h2, h3⟩ := ali_of a b
  rw [← h1, ← h2, h1, h2] at *
  rw [← h3, ← h1, ← h2]
  clear h1 h2 h3 a b
  induction al with
  | nil => simp [left, right]
  | cons c al ih =>
    obtain ⟨l, r⟩ := c
    rw [cost_cons, left_cons, right_cons]
    cases l <;> cases r <;> simp [colCost] <;> omega
theorem lev_ge_left (a b : List Int) : a.length ≤ b.length + lev a b := by
  rw [lev_comm]
  exact lev_ge_right b a
theorem lev_le_max (a b : List Int) : lev a b ≤ max a.length b.length := by
  induction a generalizing b with
  | nil => rw [lev_nil_left]; simp
  | cons x a ih =>
    cases b with
    | nil => rw [lev_nil_right]; simp
    | cons y b =>
      have h1 := lev_sub x y a b
      have h2 := ih b
      have h3 : (if x = y then 0 else 1) ≤ 1 := by split <;> omega
      simp only [List.length_cons]
      omega

theorem lev_cons_same (x : Int) (a b : List Int) : lev (x :: a) (x :: b) = lev a b := by
  apply Nat.le_antisymm
  · have := lev_sub x x a b
    rw [if_pos rfl] at this
    omega
  · rw [lev_cons, if_pos rfl]
    have e1 : lev (x :: b) b ≤ 1 := by have := lev_del x b b; rw [lev_self] at this; omega
    have e2 : lev a (x :: a) ≤ 1 := by have := lev_ins x a a; rw [lev_self] at this; omega
    have h1 := lev_triangle a (x :: b) b
    have h2 := lev_triangle a (x :: a) b
    omega
theorem lev_append_left (p a b : List Int) : lev (p ++ a) (p ++ b) = lev a b := by
  induction p with
  | nil => rfl
  | cons x p ih => rw [List.cons_append, List.cons_append, lev_cons_same, ih]
theorem lev_append_right (s a b : List Int) : lev (a ++ s) (b ++ s) = lev a b := by
  rw [← lev_reverse (a ++ s) (b ++ s), List.reverse_append, List.reverse_append, lev_append_left, lev_reverse]

theorem lev_map (f : Int → Int) (a b : List Int) (hf : ∀ x ∈ a, ∀ y ∈ b, f x = f y → x = y) : lev (a.map f) (b.map f) = lev a b := by
  obtain ⟨n, hn⟩ : ∃ n, a.length + b.length ≤ n := ⟨_, Nat.le_refl _⟩
  induction n generalizing a b with
  | zero =>
    obtain rfl : a = [] := List.eq_nil_of_length_eq_zero (by omega)
    obtain rfl : b = [] := List.eq_nil_of_length_eq_zero (by omega)
    rfl
  | succ n ih =>
    cases a with
    | nil => rw [List.map_nil, lev_nil_left, lev_nil_left, List.length_map]
    | cons x a =>
      cases b with
      | nil => rw [List.map_nil, lev_nil_right, lev_nil_right, List.length_map]
      | cons y b =>
        simp only [List.length_cons] at hn
        have e1 := ih a b (fun u hu v hv => hf u (List.mem_cons_of_mem _ hu) v (List.mem_cons_of_mem _ hv)) (by omega)
        have e2 := ih a (y :: b) (fun u hu => hf u (List.mem_cons_of_mem _ hu)) (by simp; omega)
        have e3 := ih (x :: a) b (fun u hu v hv => hf u hu v (List.mem_cons_of_mem _ hv)) (by simp; omega)
        rw [List.map_cons] at e2 e3
        rw [List.map_cons, List.map_cons, lev_cons, lev_cons, e1, e2, e3]
        have e4 : (if f x = f y then 0 else 1) = (if x = y then 0 else 1) := by
          by_cases h : x = y
          · rw [if_pos h, if_pos (by rw [h])]
          · rw [if_neg h, if_neg (fun h' => h (hf x List.mem_cons_self y List.mem_cons_self h'))]
        rw [e4]
theorem lev_apart (a b : List Int) (h : ∀ x ∈ a, x ∉ b) : lev a b = max a.length b.length := by
  obtain ⟨n, hn⟩ : ∃ n, a.length + b.length ≤ n := ⟨_, Nat.le_refl _⟩
  induction n generalizing a b with
  | zero =>
    obtain rfl : a = [] := List.eq_nil_of_length_eq_zero (by omega)
    obtain rfl : b = [] := List.eq_nil_of_length_eq_zero (by omega)
    rw [lev_nil_left]; rfl
  | succ n ih =>
    cases a with
    | nil => rw [lev_nil_left]; simp
    | cons x a =>
      cases b with
      | nil => rw [lev_nil_right]; simp
      | cons y b =>
        simp only [List.length_cons] at hn
        have e1 := ih a b (fun z hz hb => h z (List.mem_cons_of_mem _ hz) (List.mem_cons_of_mem _ hb)) (by omega)
        have e2 := ih a (y :: b) (fun z hz => h z (List.mem_cons_of_mem _ hz)) (by simp; omega)
        have e3 := ih (x :: a) b (fun z hz hb => h z hz (List.mem_cons_of_mem _ hb)) (by simp; omega)
        have hne : ¬ x = y := fun e => h x List.mem_cons_self (e ▸ List.mem_cons_self)
        rw [lev_cons, e1, e2, e3, if_neg hne]
        simp only [List.length_cons]
        omega
/-- A rune that both have saves a step. -/
theorem lev_common (a b : List Int) (x : Int) (ha : x ∈ a) (hb : x ∈ b) : lev a b < a.length + b.length := by
  obtain ⟨a1, a2, rfl⟩ := List.append_of_mem ha
  obtain ⟨b1, b2, rfl⟩ := List.append_of_mem hb
  have h1 := lev_append_le a1 b1 (x :: a2) (x :: b2)
  have h2 := lev_le_max a1 b1
  have h3 := lev_le_max a2 b2
  rw [lev_cons_same] at h1
  simp only [List.length_append, List.length_cons]
  omega

/-! ### The table -/
def D (a b : List Int) (i k : Nat) : Nat := lev (a.take i) (b.take k)
theorem D_zero_left (a b : List Int) (k : Nat) (hk : k ≤ b.length) : D a b 0 k = k := by
  unfold D
  rw [List.take_zero, lev_nil_left, List.length_take]
  omega
theorem D_zero_right (a b : List Int) (i : Nat) (hi : i ≤ a.length) : D a b i 0 = i := by
  unfold D
  rw [List.take_zero, lev_nil_right, List.length_take]
  omega
theorem D_succ (a b : List Int) (i k : Nat) (hi : i < a.length) (hk : k < b.length) :
    D a b (i + 1) (k + 1) = min (min (D a b i k + if a[i] = b[k] then 0 else 1) (D a b i (k + 1) + 1)) (D a b (i + 1) k + 1) := by
  unfold D
  rw [List.take_succ_eq_append_getElem hi, List.take_succ_eq_append_getElem hk]
  exact lev_snoc ..
theorem lev_step (a b : List Int) (x : Int) : lev (a ++ [x]) b ≤ lev a b + 1 ∧ lev a b ≤ lev (a ++ [x]) b + 1 := by
  have h1 := lev_append_le a b [x] []
  rw [List.append_nil, lev_nil_right] at h1
  have h2 := lev_triangle a (a ++ [x]) b
  have h3 : lev a (a ++ [x]) = 1 := by
    have := lev_append_left a [] [x]
    rw [List.append_nil, lev_nil_left] at this
    exact this
  simp at h1
  omega
theorem D_step (a b : List Int) (i k : Nat) : D a b (i + 1) k ≤ D a b i k + 1 ∧ D a b i k ≤ D a b (i + 1) k + 1 := by
  unfold D
  by_cases hi : i < a.length
  · rw [List.take_succ_eq_append_getElem hi]
    exact lev_step _ _ _
  · rw [List.take_of_length_le (by omega : a.length ≤ i + 1), List.take_of_length_le (by omega : a.length ≤ i)]
    omega
theorem D_full (a b : List Int) : D a b a.length b.length = lev a b := by
  unfold D
  rw [List.take_length, List.take_length]
theorem D_ge (a b : List Int) (i k : Nat) (hi : i ≤ a.length) (hk : k ≤ b.length) : i ≤ k + D a b i k ∧ k ≤ i + D a b i k := by
  unfold D
  have h1 := lev_ge_left (a.take i) (b.take k)
  have h2 := lev_ge_right (a.take i) (b.take k)
  rw [List.length_take, List.length_take] at h1 h2
  omega
theorem D_le (a b : List Int) (i k : Nat) : D a b i k ≤ max i k := by
  unfold D
  have h1 := lev_le_max (a.take i) (b.take k)
  rw [List.length_take, List.length_take] at h1
  omega
end Go.Proofs.Ytlbddbbmomjljaa.Ed
