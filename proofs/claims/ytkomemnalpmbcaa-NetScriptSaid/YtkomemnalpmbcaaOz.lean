/- NetScript. -/
import Derived.Test.YtkomemnalpmbcaaOu
set_option linter.unusedVariables false
set_option linter.unusedSimpArgs false
namespace Go.Proofs.Ytkomemnalpmbcaa.Nt
open Go.RowKit Go.Proofs.YtkomemnalpmbcaaW.PrintWords Go.Proofs.YtkomemnalpmbcaaW.PrintLast Go.Proofs.YtkomemnalpmbcaaW.PrintMore
attribute [local go_sem] max2_int min2_int max_two min_two max_three min_three max_four min_four
theorem pair_q {w W : World} {p q : Nat} {most N M : Int} {Lg Lr : List Gr} {PF : Nat → Prop} (h : PairAt w W p q most N Lg M Lr PF) : q < W.heap.size := by
  obtain ⟨g, v, rl, rv, ht, _⟩ := h.ex
  exact ht.ref.foot_lt q (.inl rfl)
theorem kept_blk {w w' : World} {S : Nat → Prop} {g : Nat} {o : Obj} (h : w.heap[g]? = some o) (hk : Kept w w' S) (hn : ¬ S g) : w'.heap[g]? = some o := (hk.2 g (blk_lt h) hn).trans h
theorem atG_mem {L : List Gr} {i : Int} (h : inR L.length i = true) : atG L i ∈ L := by
  have h1 := of_decide_eq_true h
  unfold atG
  rw [List.getD_eq_getElem?_getD, List.getElem?_eq_getElem (by omega)]
  exact List.getElem_mem _
theorem mid_of {w wr W : World} {p q : Nat} {most N : Int} {L L2 : List Gr} {PF : Nat → Prop} (h : Mid w wr p q most N L) (hp : PairAt w W p q most N L2 N L2 PF) (hr : (L2.length : Int) ≤ most) (hs : ∀ x ∈ L2, x.frame.length ≤ 100) : Mid w W p q most N L2 :=
  ⟨hp.wider (fun j hj _ => hj), h.n0, h.n1, hr, hs⟩
theorem mid_dbl {w wr W : World} {p q : Nat} {most N i : Int} {L : List Gr} {PF : Nat → Prop} (h : Mid w wr p q most N L) (hp : PairAt w W p q most N (dblL L most i) N (dblL L most i) PF) : Mid w W p q most N (dblL L most i) := by
  refine mid_of h hp ?_ ?_
  · unfold dblL
    split
    · rename_i ho
      have := of_decide_eq_true (Bool.and_eq_true _ _ ▸ ho : inR L.length i = true ∧ decide ((L.length : Int) < most) = true).2
      rw [List.length_append, List.length_singleton]; omega
    · exact h.room
  · unfold dblL
    split
    · rename_i ho
      intro x hx
      rcases List.mem_append.1 hx with hx | hx
      · exact h.short x hx
      · rw [List.mem_singleton.1 hx]
        exact h.short _ (atG_mem (Bool.and_eq_true _ _ ▸ ho : inR L.length i = true ∧ decide ((L.length : Int) < most) = true).1)
    · exact h.short
theorem mid_spo {w wr W : World} {p q : Nat} {most N i at_ x : Int} {L : List Gr} {PF : Nat → Prop} (h : Mid w wr p q most N L) (hp : PairAt w W p q most N (spoL L i at_ x) N (spoL L i at_ x) PF) : Mid w W p q most N (spoL L i at_ x) := by
  refine mid_of h hp ?_ ?_
  · unfold spoL
    split
    · rw [List.length_set]; exact h.room
    · exact h.room
  · unfold spoL
    split
    · rename_i ho
      have hi := (Bool.and_eq_true _ _ ▸ ho : inR L.length i = true ∧ (!(atG L i).frame.isEmpty && !(atG L i).spoilt) = true).1
      intro y hy
      rcases List.mem_or_eq_of_mem_set hy with hy | rfl
      · exact h.short y hy
      · unfold turnG
        dsimp only
        rw [List.length_set]
        exact h.short _ (atG_mem hi)
    · exact h.short
theorem mid_del {w wr W : World} {p q : Nat} {most N i : Int} {L : List Gr} {PF : Nat → Prop} (h : Mid w wr p q most N L) (hp : PairAt w W p q most N (delL L i) N (delL L i) PF) : Mid w W p q most N (delL L i) := by
  refine mid_of h hp ?_ ?_
  · unfold delL
    split
    · have := List.length_eraseIdx_le L i.toNat; have := h.room; omega
    · exact h.room
  · unfold delL
    split
    · exact fun y hy => h.short y (List.mem_of_mem_eraseIdx hy)
    · exact h.short
theorem gramsOne {w : World} {B g t : Nat} {z : Gr × Value} (h : w.heap[g]? = some (.cells (cellsG z).toArray t (0, 0))) (ho : w.ownsRow B 5 1 z.2 z.1.frame.length (nums .u8 z.1.frame)) (hs : z.1.frame.length ≤ 200000) : GramsAt w (some ⟨g, 0, none⟩) [z] := by
  refine ⟨fun _ => ⟨g, rfl, ?_⟩, ?_, ?_⟩
  · intro j x hx i u hu
    cases j with
    | succ j => simp at hx
    | zero =>
      simp only [List.getElem?_cons_zero, Option.some.injEq] at hx
      subst hx
      rw [Nat.zero_mul, Nat.zero_add, blk_cell h, List.getElem?_toArray]
      exact hu
  · intro x hx
    rw [List.mem_singleton.1 hx]
    obtain ⟨F, c, e⟩ := own_slice ho
    rw [e] at ho
    exact ⟨F, c, e, own_le ho, C_own ho⟩
  · intro x hx
    rw [List.mem_singleton.1 hx]
    exact hs
theorem own_pair {w W w' : World} {p q B n : Nat} {most N M : Int} {Lg Lr : List Gr} {PF : Nat → Prop} {u : Value} {xs : List Value} (h : PairAt w W p q most N Lg M Lr PF) (ho : W.ownsRow B 5 1 u n xs) (hk : Kept W w' (fun k => k = q)) : w'.ownsRow B 5 1 u n xs := by
  obtain ⟨g, v, rl, rv, ht, _⟩ := h.ex
  exact own_move ho (fun k hk' => hk.2 k (own_lt ho k hk') (fun e => own_ne ho ht.ref.cell (by decide) (by rw [hk', e])))
theorem delG_short {w W : World} {p q : Nat} {most N i : Int} {L : List Gr} (h : Mid w W p q most N L) : (delG L i).frame.length ≤ 200000 := by
  unfold delG
  split
  · rename_i hi
    exact Nat.le_trans (h.short _ (atG_mem hi)) (by decide)
  · decide
theorem heap_new3 (w : World) (o1 o2 o3 : Obj) : (((w.alloc o1).alloc o2).alloc o3).heap[w.heap.size + 1]? = some o2 ∧ (((w.alloc o1).alloc o2).alloc o3).heap[w.heap.size + 1 + 1]? = some o3 := by
  have h2 := heap_alloc_new (w.alloc o1) o2
  have h3 := heap_alloc_new ((w.alloc o1).alloc o2) o3
  rw [show (w.alloc o1).heap.size = w.heap.size + 1 by simp] at h2
  rw [show ((w.alloc o1).alloc o2).heap.size = w.heap.size + 1 + 1 by simp] at h3
  exact ⟨bk_keep (below_alloc (Below.refl _ _) _) h2, h3⟩
theorem Lent.kept {w w' : World} {S : Nat → Prop} {g : Nat} {l : List Int} (h : Lent w g l) (hk : Kept w w' S) (hn : ¬ S g) : Lent w' g l := by
  obtain ⟨cur, hc, hl⟩ := h
  exact ⟨cur, kept_blk hc hk hn, hl⟩
theorem Lent.own {w : World} {B g : Nat} {l : List Int} (h : Lent w g l) (hB : B ≤ g) (hl : l.length ≤ 1000) : w.ownsRow B 5 1 (.slice (some ⟨g, 0, none⟩) l.length (l.length + 3)) l.length (nums .u8 l) := by
  obtain ⟨cur, hc, hcl⟩ := h
  have hsz : cur.size = l.length + 3 := by rw [← Array.length_toList, hcl, nums_length, List.length_append]; rfl
  refine ⟨by rw [nums_length, Nat.mul_one], .inr ⟨g, _, cur, rfl, hB, hc, by omega, ?_, by omega, ?_⟩⟩
  · first | omega | (unfold maxLen; omega) | (simp [maxLen]; omega)
  · rw [Nat.mul_one, hcl, nums, List.map_append, List.take_append_of_le_length (by simp), List.take_of_length_le (by simp)]
    rfl
theorem mid_snd {w wr W : World} {p q : Nat} {most N : Int} {L : List Gr} {PF : Nat → Prop} {y : Gr} (h : Mid w wr p q most N L) (hp : PairAt w W p q most (N + 1) (sndL L most y) (N + 1) (sndL L most y) PF) (hN : N + 1 ≤ 1000) (hy : y.frame.length ≤ 100) : Mid w W p q most (N + 1) (sndL L most y) := by
  refine ⟨hp.wider (fun j hj _ => hj), by have := h.n0; omega, hN, ?_, ?_⟩
  · unfold sndL
    split
    · rename_i ho
      have := of_decide_eq_true ho
      rw [List.length_append, List.length_singleton]; omega
    · exact h.room
  · unfold sndL
    split
    · intro x hx
      rcases List.mem_append.1 hx with hx | hx
      · exact h.short x hx
      · rw [List.mem_singleton.1 hx]; exact hy
    · exact h.short
theorem pair_low {w W : World} {p q : Nat} {most N M : Int} {Lg Lr : List Gr} {PF : Nat → Prop} (h : PairAt w W p q most N Lg M Lr PF) : w.heap.size ≤ q := by
  obtain ⟨g, v, rl, rv, ht, _⟩ := h.ex
  exact ht.ref.low
theorem mid_later {w W W' : World} {p q : Nat} {most N : Int} {L : List Gr} (h : Mid w W p q most N L) (hb : Below W.heap.size W W') : Mid w W' p q most N L :=
  ⟨(h.pair.later hb).wider (fun j hj _ => hj), h.n0, h.n1, h.room, h.short⟩
theorem SameGrams.two (A0 A1 : Option Addr) (c0 c1 : Nat) (l m : List (Gr × Value)) (n : Nat) (w : World) (hl : GramsAt w A0 l) (hm : GramsAt w A1 m) (he : l.map Prod.fst = m.map Prod.fst) (hn : l.length ≤ 100000) (h1 : m.length = n) :
    Calls Try.prog 25 #[.slice A0 l.length c0, .slice A1 n c1] w fun e w' => e = .returned (.bool true) ∧ Drawn0 w w' := by
  subst h1
  exact SameGrams.yes A0 A1 c0 c1 l m w hl hm he hn
theorem GramsAt.of {w : World} {B c : Nat} {A : Option Addr} {m : List (Gr × Value)} (h : GivenG w B (.slice A m.length c) m) (hs : ∀ x ∈ m, x.1.frame.length ≤ 200000) : GramsAt w A m := grams_own h.row h.frames hs
theorem mid_none {w wr : World} {o : Obj} {p q : Nat} {most N N2 : Int} {L L2 : List Gr} (h : Mid w wr p q most N L) (h1 : N2 = N) (h2 : L2 = L) : Mid w (wr.alloc o) p q most N2 L2 := by
  subst h1 h2
  exact ⟨(h.pair.later (below_alloc (Below.refl _ _) _)).wider (fun j hj _ => hj), h.n0, h.n1, h.room, h.short⟩
theorem sc_start {w w1 w2 : World} {p q : Nat} {most : Int} (hn : NetAt w1 w.heap.size p most 0 [] (.slice none 0 0)) (hr : RefAt w2 w.heap.size q most 0 [] (.slice none 0 0)) (hb : Below w.heap.size w w2) (hb2 : Below w1.heap.size w1 w2) (hq : w1.heap.size ≤ q) (hm : 0 ≤ most) : ScInv w w2 p q most 0 := by
  have hn2 := hn.below hb2
  have hpl := hn.foot_lt p (.inl rfl)
  refine ⟨0, [], ⟨⟨hb, [], _, [], _, ⟨hn2, hr, ?_, fun k hk => hn2.foot_lt k hk, fun k hk => hr.foot_lt k hk⟩, rfl, rfl⟩, Int.le_refl _, by decide, hm, by simp⟩, Int.le_refl _⟩
  rintro k (rfl | hk | ⟨x, hx, _⟩) h2
  · have := hn.foot_lt k h2; omega
  · cases hk
  · cases hx
set_option maxHeartbeats 8000000 in
set_option maxRecDepth 100000 in
theorem NetScript.calls (a0 : Int) (A : Option Addr) (c : Nat) (l : List (Ac × Value)) (w : World) (h : ActsAt w A l) (hl : l.length ≤ 9223372036854775807) :
    Calls Try.prog 5 #[.int .i64 a0, .slice A l.length c] w fun e w' => e = .returned (.bool true) ∧ Below w.heap.size w w' := by
  by_cases hG : Great l 100
  · have HG := Aside0.mk hG
    have H := Aside0.mk h
    have HL := Aside0.mk hl
    clear h hG hl
    go_enter Try.func5, Try.ntmps5
    go_wp2_with (first | (go_at_call 14; refine (great.eq A l c 100 _ H.out HL.out (by decide) true ⟨fun _ => HG.out, fun _ => rfl⟩).mono ?_; rintro e w1 ⟨rfl, rfl⟩) | (go_at_call 13; refine (awake.calls _).mono ?_; rintro e w8 ⟨rfl, hb⟩; have HB5 := Aside0.mk (below_step (Below.refl _ _) hb); clear hb))
    go_ret
    exact ⟨rfl, HB5.out⟩
  have hlen : l.length ≤ 100 := by
    refine Nat.le_of_not_lt fun h1 => hG (.inl (by omega))
  have hb100 : ∀ x ∈ l, x.1.b.length ≤ 100 := fun x hx => Nat.le_of_not_lt fun h1 => hG (.inr ⟨x, hx, h1⟩)
  have HG := Aside0.mk hG
  have H := Aside0.mk h
  have HL := Aside0.mk hl
  have HB100 := Aside0.mk hb100
  clear h hG hl hb100
  by_cases hm : a0 < 1 ∨ a0 > 64
  · have HM := Aside0.mk hm
    clear hm
    go_enter Try.func5, Try.ntmps5
    go_wp2_with (first | (go_at_call 14; refine (great.eq A l c 100 _ H.out HL.out (by decide) false ⟨(fun h => by cases h), (fun h => absurd h HG.out)⟩).mono ?_; rintro e w1 ⟨rfl, rfl⟩) | ((with_reducible refine gate_callee (f := 8) rfl ?_); refine goesL_ _ rfl rfl Try.func8 (by kernel_rfl) rfl #[.int .i64 a0] rfl (by (try simp only [List.map_toArray, List.map_cons, List.map_nil]); first | done | rfl) ?_; refine (New.no a0 _ HM.out).mono ?_; rintro e w1 ⟨rfl, hd⟩; have HD1 := Aside0.mk hd; clear hd; refine ⟨_, rfl, ?_⟩) | ((with_reducible refine gate_callee (f := 18) rfl ?_); refine goesL_ _ rfl rfl Try.func18 (by kernel_rfl) rfl #[.int .i64 a0] rfl (by (try simp only [List.map_toArray, List.map_cons, List.map_nil]); first | done | rfl) ?_; refine (RNew.no a0 _ HM.out).mono ?_; rintro e w2 ⟨rfl, hd⟩; have HD2 := Aside0.mk hd; clear hd; refine ⟨_, rfl, ?_⟩) | (go_at_call 19; refine (Num.calls 2 _).mono ?_; rintro e w5 ⟨rfl, rfl⟩) | (go_at_call 13; refine (awake.calls _).mono ?_; rintro e w8 ⟨rfl, hb⟩; have HB5 := Aside0.mk (below_step (below_step HD1.out.below HD2.out.below) hb); clear hb))
    go_ret
    exact ⟨rfl, HB5.out⟩
  · have HM1 : Aside0 (1 ≤ a0) := ⟨by omega⟩
    have HM2 : Aside0 (a0 ≤ 64) := ⟨by omega⟩
    clear hm
    go_enter Try.func5, Try.ntmps5
    go_wp2_with (first | (go_at_call 14; refine (great.eq A l c 100 _ H.out HL.out (by decide) false ⟨(fun h => by cases h), (fun h => absurd h HG.out)⟩).mono ?_; rintro e w1 ⟨rfl, rfl⟩) | ((with_reducible refine gate_callee (f := 8) rfl ?_); refine goesL_ _ rfl rfl Try.func8 (by kernel_rfl) rfl #[.int .i64 a0] rfl (by (try simp only [List.map_toArray, List.map_cons, List.map_nil]); first | done | rfl) ?_; refine (New.yes a0 _ w w.heap.size HM1.out HM2.out (Below.refl _ _) (by simp)).mono ?_; rintro e w1 ⟨p, rfl, hn, hb, hb2, hp⟩; have HN1 := Aside0.mk hn; have HB1 := Aside0.mk hb; clear hn hb hb2 hp; refine ⟨_, rfl, ?_⟩) | ((with_reducible refine gate_callee (f := 18) rfl ?_); refine goesL_ _ rfl rfl Try.func18 (by kernel_rfl) rfl #[.int .i64 a0] rfl (by (try simp only [List.map_toArray, List.map_cons, List.map_nil]); first | done | rfl) ?_; refine (RNew.yes a0 _ w w.heap.size HM1.out HM2.out HB1.out HB1.out.size).mono ?_; rintro e w2 ⟨q, rfl, hr, hb, hb2, hq⟩; have HI : Aside0 (ScInv w w2 p q a0 0) := ⟨sc_start HN1.out hr hb hb2 hq (by have := HM1.out; omega)⟩; clear hr hb hb2 hq; refine ⟨_, rfl, ?_⟩) | (go_at_call 19; refine (Num.calls 0 _).mono ?_; rintro e w5 ⟨rfl, rfl⟩))
    go_loopw [9] (fun i wr => ∃ k : Nat, k ≤ l.length ∧ i = .int .i64 (k : Int) ∧ Aside0 (ScInv w wr p q a0 k)) (fun i _ => l.length - (intOf i).toNat)
    case atStart => exact ⟨0, by omega, rfl, HI⟩
    case round =>
      obtain ⟨k, hk, rfl, HK⟩ := hrel
      clear HI HN1 HB1
      obtain ⟨N, L, hmid, hNk⟩ := HK.out.ex
      have HMid := Aside0.mk hmid
      have HNk := Aside0.mk hNk
      clear hmid hNk
      by_cases hlt : k < l.length
      · obtain ⟨x, hx⟩ : ∃ x, l[k]? = some x := ⟨_, List.getElem?_eq_getElem hlt⟩
        have hkI : (k : Int) < (l.length : Int) := by omega
        have hkn : ((k : Int)).toNat = k := by omega
        obtain ⟨a, rfl, hc⟩ := (H.out.below HMid.out.pair.below).cell hx
        obtain ⟨Ab, cb, hv, hcb, _, hC, _⟩ := H.out.bytes x (List.mem_of_getElem? hx)
        have hx100 := HB100.out x (List.mem_of_getElem? hx)
        have q0 : wr.cell? (a.add (k * 5)) = some (.int .i64 x.1.act) := by have := hc 0 _ rfl; rwa [show (a.add (k * 5)).add 0 = a.add (k * 5) from rfl] at this
        have q1 : wr.cell? ⟨(a.add (k * 5)).block, (a.add (k * 5)).off + 1, none⟩ = some (.int .i64 x.1.i) := hc 1 _ rfl
        have q2 : wr.cell? ⟨(a.add (k * 5)).block, (a.add (k * 5)).off + 2, none⟩ = some (.int .i64 x.1.j) := hc 2 _ rfl
        have q3 : wr.cell? ⟨(a.add (k * 5)).block, (a.add (k * 5)).off + 3, none⟩ = some (.int .i64 x.1.x) := hc 3 _ rfl
        have q4 : wr.cell? ⟨(a.add (k * 5)).block, (a.add (k * 5)).off + 4, none⟩ = some (.slice Ab x.1.b.length cb) := hv ▸ hc 4 _ rfl
        have HX := Aside0.mk hx
        have HCB := Aside0.mk hcb
        have HCC := Aside0.mk hC
        have HX100 := Aside0.mk hx100
        have HAC : Aside0 ((wr.alloc (.cells #[.int .i64 x.1.act, .int .i64 x.1.i, .int .i64 x.1.j, .int .i64 x.1.x, .slice Ab x.1.b.length cb] 42)).heap[wr.heap.size]? = some (.cells #[.int .i64 x.1.act, .int .i64 x.1.i, .int .i64 x.1.j, .int .i64 x.1.x, .slice Ab x.1.b.length cb] 42 (0, 0))) := ⟨heap_alloc_new wr _⟩
        have HPA : Aside0 (PairAt w (wr.alloc (.cells #[.int .i64 x.1.act, .int .i64 x.1.i, .int .i64 x.1.j, .int .i64 x.1.x, .slice Ab x.1.b.length cb] 42)) p q a0 N L N L (fun k => k < wr.heap.size)) := ⟨HMid.out.pair.later (below_alloc (Below.refl _ _) _)⟩
        clear hx hv hcb hC hc hx100
        by_cases d0 : x.1.act = 0
        · have e0 : (x.1.act == 0) = true := beq_iff_eq.2 d0
          clear d0
          -- CASE d0
          have hqw := pair_q HMid.out.pair
          have HB1 : Aside0 (Below w.heap.size w (wr.alloc (.cells #[.int .i64 x.1.act, .int .i64 x.1.i, .int .i64 x.1.j, .int .i64 x.1.x, .slice Ab x.1.b.length cb] 42))) := ⟨HPA.out.below⟩
          go_wp2_with (first | (go_at_call 20; refine (LendBytes.calls Ab cb x.1.b _ (bytes_same HCC.out (fun k hk => HB1.out.block k hk)) HCB.out (by have := HX100.out; omega)).mono ?_; rintro e w2 ⟨g0, rfl, hle, hge, hb2⟩; have hac2 := bk_keep hb2 HAC.out; have tw2_1 : w2.cell? ⟨wr.heap.size, 1, none⟩ = some (.int .i64 x.1.i) := blk_cell hac2 1; have tw2_2 : w2.cell? ⟨wr.heap.size, 2, none⟩ = some (.int .i64 x.1.j) := blk_cell hac2 2; have tw2_4 : w2.cell? ⟨wr.heap.size, 4, none⟩ = some (.slice Ab x.1.b.length cb) := blk_cell hac2 4; have HA2 := Aside0.mk hac2; have HL2 := Aside0.mk hle; have HG0 := Aside0.mk hge; have HP2 := Aside0.mk (HPA.out.later hb2); have HG2 : Aside0 (g0 < w2.heap.size) := ⟨(by obtain ⟨cur, hc, _⟩ := hle; exact blk_lt hc)⟩; have HS2 := Aside0.mk hb2.size; clear hac2 hle hge hb2) | (go_at_call 9; refine (PSend HP2.out x.1.i x.1.j (some ⟨g0, 0, none⟩) x.1.b (x.1.b.length + 3) (fun w' hk => (HL2.out.kept hk (by have := HG0.out; simp only [World.alloc, Array.size_push] at this; omega)).reads (by have := HX100.out; omega)) (by omega) (by have := HX100.out; omega) HMid.out.room (by have := HMid.out.room; have := HM2.out; omega) HMid.out.n0 (by have := HMid.out.n1; omega)).mono ?_; rintro e w3 ⟨rfl, hp3, hk3⟩; have hac3 := kept_blk HA2.out hk3 (Nat.lt_irrefl _); have tw3_1 : w3.cell? ⟨wr.heap.size, 1, none⟩ = some (.int .i64 x.1.i) := blk_cell hac3 1; have tw3_2 : w3.cell? ⟨wr.heap.size, 2, none⟩ = some (.int .i64 x.1.j) := blk_cell hac3 2; have tw3_4 : w3.cell? ⟨wr.heap.size, 4, none⟩ = some (.slice Ab x.1.b.length cb) := blk_cell hac3 4; have HA3 := Aside0.mk hac3; have HP3 := Aside0.mk hp3; have HL3 := Aside0.mk (HL2.out.kept hk3 (by have := HG0.out; simp only [World.alloc, Array.size_push] at this; omega)); have HS3 := Aside0.mk hk3.1; clear hac3 hp3 hk3) | (go_at_call 21; refine (PRSend HP3.out x.1.i x.1.j Ab x.1.b cb (fun w' hk => bytes_same HCC.out (fun k hk' => (hk.2 k (Nat.lt_of_lt_of_le hk' HP3.out.below.size) (fun e => Nat.lt_irrefl _ (e ▸ Nat.lt_of_lt_of_le hk' (pair_low HP3.out)))).trans (HP3.out.below.block k hk'))) (by have := HX100.out; omega) HMid.out.room (by have := HMid.out.room; have := HM2.out; omega) HMid.out.n0 (by have := HMid.out.n1; omega)).mono ?_; rintro e w4 ⟨rfl, hp4, hk4⟩; have hgq : ¬ g0 = q := (by have := HG0.out; simp only [World.alloc, Array.size_push] at this; omega); have hac4 := kept_blk HA3.out hk4 (by omega); have tw4_1 : w4.cell? ⟨wr.heap.size, 1, none⟩ = some (.int .i64 x.1.i) := blk_cell hac4 1; have tw4_2 : w4.cell? ⟨wr.heap.size, 2, none⟩ = some (.int .i64 x.1.j) := blk_cell hac4 2; have tw4_4 : w4.cell? ⟨wr.heap.size, 4, none⟩ = some (.slice Ab x.1.b.length cb) := blk_cell hac4 4; have HP4 := Aside0.mk hp4; have HL4 := Aside0.mk (HL3.out.kept hk4 hgq); clear hac4 hp4 hk4) | (go_at_call 22; refine (KeptBytes.calls g0 x.1.b Ab cb _ HL4.out (bytes_same HCC.out (fun k hk => HP4.out.below.block k hk)) HCB.out (by have := HX100.out; omega)).mono ?_; rintro e w5 ⟨rfl, hb5⟩; have HP5 := Aside0.mk (HP4.out.later hb5); have HL5 := Aside0.mk (HL4.out.below hb5); clear hb5) | (go_at_call 23; refine (OverBytes.own (w0 := w) HP5.out.below (HL5.out.own (Nat.le_trans HPA.out.below.size HG0.out) (by have := HX100.out; omega)) (by have := HX100.out; omega)).mono ?_; rintro e w6 ⟨rfl, hb6, hk6⟩; have hp6 := HP5.out.kept hk6 hb6 (fun j hj e => (by injection e with e; dsimp only at e; have := HS3.out; have := HG2.out; have := HG0.out; simp only [World.alloc, Array.size_push] at this; omega)); obtain ⟨N2, L2, HT, HN2⟩ : ∃ N2 L2, Aside0 (Mid w w6 p q a0 N2 L2) ∧ Aside0 (N2 ≤ ((k + 1 : Nat) : Int)) := ⟨N + 1, _, ⟨mid_snd HMid.out hp6 (by have := HNk.out; omega) HX100.out⟩, ⟨(by have := HNk.out; omega)⟩⟩; clear hb6 hk6 hp6) | (go_at_call 28; refine (PList HT.out.pair (by have := HT.out.room; have := HM2.out; omega) (fun y hy => Nat.le_trans (HT.out.short y hy) (by decide))).mono ?_; rintro e w7 ⟨A7, c7, m, rfl, hm7, hg7, hb7⟩; have HM7 := Aside0.mk hm7; have HG7 := Aside0.mk hg7; have HB7 := Aside0.mk hb7; have hlm : m.length = L2.length := (by have := congrArg List.length hm7; simpa using this); have HLM := Aside0.mk hlm; clear hm7 hg7 hb7 hlm))
          have HP7 : Aside0 (PairAt w w7.drew p q a0 N2 L2 N2 L2 _) := ⟨(HT.out.pair.later HB7.out).later (Below.refl _ _).drew⟩
          have HB8 := Aside0.mk (HB7.out.drew)
          have HG8 := Aside0.mk (HG7.out.below (Below.refl _ _).drew)
          have HSm : Aside0 (∀ y ∈ m, y.1.frame.length ≤ 200000) := ⟨fun y hy => Nat.le_trans (HT.out.short y.1 (HM7.out ▸ List.mem_map_of_mem hy)) (by decide)⟩
          obtain ⟨Ar, cr, hq0, hrd⟩ := PRef HP7.out (fun y hy => Nat.le_trans (HT.out.short y hy) (by decide))
          obtain ⟨rl, hrl, hgr⟩ := hrd _ (Below.refl _ _)
          have HRL := Aside0.mk hgr
          have HEq : Aside0 (m.map Prod.fst = rl.map Prod.fst) := ⟨HM7.out.trans hrl.symm⟩
          have HLn : Aside0 (m.length ≤ 100000) := ⟨by have := HLM.out; have := HT.out.room; have := HM2.out; omega⟩
          have HLr : Aside0 (rl.length = L2.length) := ⟨by have := congrArg List.length hrl; simpa using this⟩
          clear hrd hrl hgr HB7 HG7
          refine start_ (n := 21) (S := fun w' => w'.cell? ⟨q, 0, none⟩ = some (.slice Ar L2.length cr)) (ds := []) #[false, false, false, false, false, false, false, false, false, false, false, false, false, false, false, false, false, false, false, false, false] (by kernel_rfl) rfl rfl hq0 (fun hHeld => ?_)
          clear hq0
          generalize w7.drew = W7 at *
          refine pure_ (i := 0) (N := (some 190)) (v := ?_) (a' := ?_) #[true, false, false, false, false, false, false, false, false, false, false, false, false, false, false, false, false, false, false, false, false] rfl rfl (by kernel_rfl) (fun _ _ _ h => h) (Or.inl ⟨by rfl, ?_⟩) ?_ ?_
          rotate_left
          · intro w'
            go_simp
            with_reducible rfl
          rotate_left
          · simp only [Act.put, List.setIfInBounds_toArray, List.set_cons_zero, List.set_cons_succ, i64_w, i32_w]
            rfl
          refine pure_ (i := 1) (N := (some 191)) (v := ?_) (a' := ?_) #[true, true, false, false, false, false, false, false, false, false, false, false, false, false, false, false, false, false, false, false, false] rfl rfl (by kernel_rfl) (fun _ _ _ h => h) (Or.inl ⟨by rfl, ?_⟩) ?_ ?_
          rotate_left
          · intro w'
            go_simp
            with_reducible rfl
          rotate_left
          · simp only [Act.put, List.setIfInBounds_toArray, List.set_cons_zero, List.set_cons_succ, i64_w, i32_w]
            rfl
          refine pure_ (i := 2) (N := (some 192)) (v := ?_) (a' := ?_) #[true, true, true, false, false, false, false, false, false, false, false, false, false, false, false, false, false, false, false, false, false] rfl rfl (by kernel_rfl) (fun _ _ _ h => h) (Or.inl ⟨by rfl, ?_⟩) ?_ ?_
          rotate_left
          · intro w'
            go_simp
            with_reducible rfl
          rotate_left
          · simp only [Act.put, List.setIfInBounds_toArray, List.set_cons_zero, List.set_cons_succ, i64_w, i32_w]
            rfl
          refine pure_ (i := 3) (N := (some 193)) (v := ?_) (a' := ?_) #[true, true, true, true, false, false, false, false, false, false, false, false, false, false, false, false, false, false, false, false, false] rfl rfl (by kernel_rfl) (fun _ _ _ h => h) (Or.inl ⟨by rfl, ?_⟩) ?_ ?_
          rotate_left
          · intro w'
            go_simp
            with_reducible rfl
          rotate_left
          · simp only [Act.put, List.setIfInBounds_toArray, List.set_cons_zero, List.set_cons_succ, i64_w, i32_w]
            rfl
          refine pure_ (i := 5) (N := (some 195)) (v := ?_) (a' := ?_) #[true, true, true, true, false, true, false, false, false, false, false, false, false, false, false, false, false, false, false, false, false] rfl rfl (by kernel_rfl) (fun _ _ _ h => h) (Or.inl ⟨by rfl, ?_⟩) ?_ ?_
          rotate_left
          · intro w'
            go_simp
            with_reducible rfl
          rotate_left
          · simp only [Act.put, List.setIfInBounds_toArray, List.set_cons_zero, List.set_cons_succ, i64_w, i32_w]
            rfl
          refine pure_ (i := 6) (N := (some 196)) (v := ?_) (a' := ?_) #[true, true, true, true, false, true, true, false, false, false, false, false, false, false, false, false, false, false, false, false, false] rfl rfl (by kernel_rfl) (fun _ _ _ h => h) (Or.inl ⟨by rfl, ?_⟩) ?_ ?_
          rotate_left
          · intro w'
            go_simp
            with_reducible rfl
          rotate_left
          · simp only [Act.put, List.setIfInBounds_toArray, List.set_cons_zero, List.set_cons_succ, i64_w, i32_w]
            rfl
          refine pure_ (i := 7) (N := (some 197)) (v := ?_) (a' := ?_) #[true, true, true, true, false, true, true, true, false, false, false, false, false, false, false, false, false, false, false, false, false] rfl rfl (by kernel_rfl) (fun _ _ _ h => h) (Or.inl ⟨by rfl, ?_⟩) ?_ ?_
          rotate_left
          · intro w'
            go_simp
            with_reducible rfl
          rotate_left
          · simp only [Act.put, List.setIfInBounds_toArray, List.set_cons_zero, List.set_cons_succ, i64_w, i32_w]
            rfl
          refine take_ (i := 8) (N := (some 198)) (v := ?_) (a' := ?_) #[true, true, true, true, false, true, true, true, true, false, false, false, false, false, false, false, false, false, false, false, false] rfl rfl (by kernel_rfl) (fun _ _ _ h => h) (Or.inl ⟨by rfl, ?_⟩) hHeld ?_ ?_
          rotate_left
          · rintro w' s0
            go_simp
            with_reducible rfl
          rotate_left
          · simp only [Act.put, List.setIfInBounds_toArray, List.set_cons_zero, List.set_cons_succ, i64_w, i32_w]
            rfl
          refine pure_ (i := 9) (N := (some 199)) (v := ?_) (a' := ?_) #[true, true, true, true, false, true, true, true, true, true, false, false, false, false, false, false, false, false, false, false, false] rfl rfl (by kernel_rfl) (fun _ _ _ h => h) (Or.inl ⟨by rfl, ?_⟩) ?_ ?_
          rotate_left
          · intro w'
            go_simp
            with_reducible rfl
          rotate_left
          · simp only [Act.put, List.setIfInBounds_toArray, List.set_cons_zero, List.set_cons_succ, i64_w, i32_w]
            rfl
          refine one_ (i := 4) (N := (some 194)) #[true, true, true, true, true, true, true, true, true, true, false, false, false, false, false, false, false, false, false, false, false] rfl rfl (by kernel_rfl) (by decide) (fun K hK => ?_)
          refine goes_ Try.func12 (by kernel_rfl) rfl #[.pointer (some ⟨p, 0, none⟩)] (by rfl) rfl rfl (by (try simp only [List.map_toArray, List.map_cons, List.map_nil]); first | done | rfl) ?_
          refine (PLen HP7.out).mono ?_
          rintro e w9 ⟨rfl, rfl⟩
          refine ⟨_, rfl, ?_⟩
          refine hK.out _ _ hHeld (fun hHeld => ?_)
          clear hK K
          refine norm_ (a' := ?_) ?_ ?_
          rotate_left
          · show Act.put _ (some 194) _ = _
            simp only [Act.put, List.setIfInBounds_toArray, List.set_cons_zero, List.set_cons_succ, i64_w, i32_w]
            rfl
          refine pure_ (i := 10) (N := (some 200)) (v := ?_) (a' := ?_) #[true, true, true, true, true, true, true, true, true, true, true, false, false, false, false, false, false, false, false, false, false] rfl rfl (by kernel_rfl) (fun _ _ _ h => h) (Or.inl ⟨by rfl, ?_⟩) ?_ ?_
          rotate_left
          · intro w'
            go_simp
            with_reducible rfl
          rotate_left
          · simp only [Act.put, List.setIfInBounds_toArray, List.set_cons_zero, List.set_cons_succ, i64_w, i32_w]
            rfl
          refine pure_ (i := 11) (N := (some 201)) (v := ?_) (a' := ?_) #[true, true, true, true, true, true, true, true, true, true, true, true, false, false, false, false, false, false, false, false, false] rfl rfl (by kernel_rfl) (fun _ _ _ h => h) (Or.inl ⟨by rfl, ?_⟩) ?_ ?_
          rotate_left
          · intro w'
            go_simp
            with_reducible rfl
          rotate_left
          · simp only [Act.put, List.setIfInBounds_toArray, List.set_cons_zero, List.set_cons_succ, i64_w, i32_w]
            rfl
          refine pure_ (i := 12) (N := (some 202)) (v := ?_) (a' := ?_) #[true, true, true, true, true, true, true, true, true, true, true, true, true, false, false, false, false, false, false, false, false] rfl rfl (by kernel_rfl) (fun _ _ _ h => h) (Or.inl ⟨by rfl, ?_⟩) ?_ ?_
          rotate_left
          · intro w'
            go_simp
            with_reducible rfl
          rotate_left
          · simp only [Act.put, List.setIfInBounds_toArray, List.set_cons_zero, List.set_cons_succ, i64_w, i32_w]
            rfl
          refine pure_ (i := 13) (N := (some 203)) (v := ?_) (a' := ?_) #[true, true, true, true, true, true, true, true, true, true, true, true, true, true, false, false, false, false, false, false, false] rfl rfl (by kernel_rfl) (fun _ _ _ h => h) (Or.inl ⟨by rfl, ?_⟩) ?_ ?_
          rotate_left
          · intro w'
            go_simp
            with_reducible rfl
          rotate_left
          · simp only [Act.put, List.setIfInBounds_toArray, List.set_cons_zero, List.set_cons_succ, i64_w, i32_w]
            rfl
          refine pure_ (i := 14) (N := (some 204)) (v := ?_) (a' := ?_) #[true, true, true, true, true, true, true, true, true, true, true, true, true, true, true, false, false, false, false, false, false] rfl rfl (by kernel_rfl) (fun _ _ _ h => h) (Or.inl ⟨by rfl, ?_⟩) ?_ ?_
          rotate_left
          · intro w'
            go_simp
            with_reducible rfl
          rotate_left
          · simp only [Act.put, List.setIfInBounds_toArray, List.set_cons_zero, List.set_cons_succ, i64_w, i32_w]
            rfl
          refine pure_ (i := 15) (N := (some 205)) (v := ?_) (a' := ?_) #[true, true, true, true, true, true, true, true, true, true, true, true, true, true, true, true, false, false, false, false, false] rfl rfl (by kernel_rfl) (fun _ _ _ h => h) (Or.inl ⟨by rfl, ?_⟩) ?_ ?_
          rotate_left
          · intro w'
            go_simp
            with_reducible rfl
          rotate_left
          · simp only [Act.put, List.setIfInBounds_toArray, List.set_cons_zero, List.set_cons_succ, i64_w, i32_w]
            rfl
          refine pure_ (i := 16) (N := (some 206)) (v := ?_) (a' := ?_) #[true, true, true, true, true, true, true, true, true, true, true, true, true, true, true, true, true, false, false, false, false] rfl rfl (by kernel_rfl) (fun _ _ _ h => h) (Or.inl ⟨by rfl, ?_⟩) ?_ ?_
          rotate_left
          · intro w'
            go_simp
            with_reducible rfl
          rotate_left
          · simp only [Act.put, List.setIfInBounds_toArray, List.set_cons_zero, List.set_cons_succ, i64_w, i32_w]
            rfl
          refine take_ (i := 17) (N := (some 207)) (v := ?_) (a' := ?_) #[true, true, true, true, true, true, true, true, true, true, true, true, true, true, true, true, true, true, false, false, false] rfl rfl (by kernel_rfl) (fun _ _ _ h => h) (Or.inl ⟨by rfl, ?_⟩) hHeld ?_ ?_
          rotate_left
          · rintro w' s0
            go_simp
            with_reducible rfl
          rotate_left
          · simp only [Act.put, List.setIfInBounds_toArray, List.set_cons_zero, List.set_cons_succ, i64_w, i32_w]
            rfl
          refine one_ (i := 18) (N := (some 208)) #[true, true, true, true, true, true, true, true, true, true, true, true, true, true, true, true, true, true, true, false, false] rfl rfl (by kernel_rfl) (by decide) (fun K hK => ?_)
          refine goes_ Try.func25 (by kernel_rfl) rfl #[.slice A7 m.length c7, .slice Ar L2.length cr] (by rfl) rfl rfl (by (try simp only [List.map_toArray, List.map_cons, List.map_nil]); first | done | rfl) ?_
          refine (SameGrams.two A7 Ar c7 cr m rl L2.length _ (GramsAt.of HG8.out HSm.out) HRL.out HEq.out HLn.out HLr.out).mono ?_
          rintro e w9 ⟨rfl, ⟨ndd, rfl⟩⟩
          refine ⟨_, rfl, ?_⟩
          refine hK.out _ _ hHeld (fun hHeld => ?_)
          clear hK K
          refine norm_ (a' := ?_) ?_ ?_
          rotate_left
          · show Act.put _ (some 208) _ = _
            simp only [Act.put, List.setIfInBounds_toArray, List.set_cons_zero, List.set_cons_succ, i64_w, i32_w]
            rfl
          refine pure_ (i := 19) (N := (some 209)) (v := ?_) (a' := ?_) #[true, true, true, true, true, true, true, true, true, true, true, true, true, true, true, true, true, true, true, true, false] rfl rfl (by kernel_rfl) (fun _ _ _ h => h) (Or.inl ⟨by rfl, ?_⟩) ?_ ?_
          rotate_left
          · intro w'
            go_simp
            with_reducible rfl
          rotate_left
          · simp only [Act.put, List.setIfInBounds_toArray, List.set_cons_zero, List.set_cons_succ, i64_w, i32_w]
            rfl
          refine pure_ (i := 20) (N := (some 210)) (v := ?_) (a' := ?_) #[true, true, true, true, true, true, true, true, true, true, true, true, true, true, true, true, true, true, true, true, true] rfl rfl (by kernel_rfl) (fun _ _ _ h => h) (Or.inl ⟨by rfl, ?_⟩) ?_ ?_
          rotate_left
          · intro w'
            go_simp
            with_reducible rfl
          rotate_left
          · simp only [Act.put, List.setIfInBounds_toArray, List.set_cons_zero, List.set_cons_succ, i64_w, i32_w]
            rfl
          refine done_ (by kernel_rfl) ?_
          go_wp2_with (first | (go_at_call 29; refine (OverGrams.calls w _ (.slice A7 m.length c7) m (pw_below_drewN HP7.out.below _) ((HG8.out.below (pw_below_drewN (Below.refl _ _) _)).weaken HT.out.pair.below.size) HLn.out (fun y hy => Nat.le_trans (HT.out.short y.1 (HM7.out ▸ List.mem_map_of_mem hy)) (by decide))).mono ?_; rintro e w10 ⟨rfl, hb10, hk10⟩; have HK2 := Aside0.mk (Mid.over HT.out (pw_below_drewN HB8.out _) HG8.out.foot hk10 hb10 HN2.out); clear hb10 hk10))
          go_roundw
          case rel => exact ⟨k + 1, by omega, by go_num, HK2⟩
          case measure => simp [intOf]; omega

          -- END d0
        have e0 : (x.1.act == 0) = false := beq_eq_false_iff_ne.2 (by omega)
        by_cases d1 : x.1.act = 1
        · have e1 : (x.1.act == 1) = true := beq_iff_eq.2 d1
          clear d0 d1
          -- CASE d1
          have hqw := pair_q HMid.out.pair
          go_wp2_with (first | ((with_reducible refine gate_callee (f := 10) rfl ?_); refine goesL_ _ rfl rfl Try.func10 (by kernel_rfl) rfl #[.pointer (some ⟨p, 0, none⟩), .int .i64 x.1.i] rfl (by (try simp only [List.map_toArray, List.map_cons, List.map_nil]); first | done | rfl) ?_; refine (PDeliver HPA.out (by have := HMid.out.room; have := HM2.out; omega) x.1.i).mono ?_; rintro e w3 ⟨Ay1, cy1, rfl, how, hp3, hk3⟩; have hac3 := kept_blk HAC.out hk3 (Nat.lt_irrefl _); have t31 : w3.cell? ⟨wr.heap.size, 1, none⟩ = some (.int .i64 x.1.i) := blk_cell hac3 1; have lt3 : wr.heap.size < w3.heap.size := blk_lt hac3; have HP3 := Aside0.mk hp3; have HOW3 := Aside0.mk how; clear hp3 hk3 hac3 how; refine ⟨.tuple #[.agg #[.int .i64 (delG L x.1.i).id, .int .i64 (delG L x.1.i).src, .int .i64 (delG L x.1.i).dst, .slice Ay1 (delG L x.1.i).frame.length cy1, .bool (delG L x.1.i).spoilt], .bool (inR L.length x.1.i)], rfl, ?_⟩) | ((with_reducible refine gate_callee (f := 24) rfl ?_); refine goesL_ _ rfl rfl Try.func24 (by kernel_rfl) rfl #[.pointer (some ⟨q, 0, none⟩), .int .i64 x.1.i] rfl (by (try simp only [List.map_toArray, List.map_cons, List.map_nil]); first | done | rfl) ?_; refine (PRDeliver (HP3.out.later (below_alloc (Below.refl _ _) _)) (by have := HMid.out.room; have := HM2.out; omega) x.1.i).mono ?_; rintro e w5 ⟨Ay2, cy2, rfl, how2, hp5, hk5⟩; have hb17 := kept_blk (heap_alloc_new w3 (.cells #[.int .i64 (delG L x.1.i).id, .int .i64 (delG L x.1.i).src, .int .i64 (delG L x.1.i).dst, .slice Ay1 (delG L x.1.i).frame.length cy1, .bool (delG L x.1.i).spoilt] 31)) hk5 (fun e => Nat.lt_irrefl _ (e ▸ Nat.lt_of_lt_of_le hqw (Nat.le_of_lt lt3))); have v17_0 : w5.cell? ⟨w3.heap.size, 0, none⟩ = some (.int .i64 (delG L x.1.i).id) := blk_cell hb17 0; have v17_1 : w5.cell? ⟨w3.heap.size, 1, none⟩ = some (.int .i64 (delG L x.1.i).src) := blk_cell hb17 1; have v17_2 : w5.cell? ⟨w3.heap.size, 2, none⟩ = some (.int .i64 (delG L x.1.i).dst) := blk_cell hb17 2; have v17_3 : w5.cell? ⟨w3.heap.size, 3, none⟩ = some (.slice Ay1 (delG L x.1.i).frame.length cy1) := blk_cell hb17 3; have v17_4 : w5.cell? ⟨w3.heap.size, 4, none⟩ = some (.bool (delG L x.1.i).spoilt) := blk_cell hb17 4; have lt5 : w3.heap.size < w5.heap.size := blk_lt hb17; have HOW5 := Aside0.mk (own_pair (HP3.out.later (below_alloc (Below.refl _ _) _)) (own_alloc HOW3.out (.cells #[.int .i64 (delG L x.1.i).id, .int .i64 (delG L x.1.i).src, .int .i64 (delG L x.1.i).dst, .slice Ay1 (delG L x.1.i).frame.length cy1, .bool (delG L x.1.i).spoilt] 31)) hk5); have HOW6 := Aside0.mk how2; obtain ⟨N2, L2, HT, HN2⟩ : ∃ N2 L2, Aside0 (PairAt w w5 p q a0 N2 L2 N2 L2 _ ∧ Mid w w5 p q a0 N2 L2) ∧ Aside0 (N2 ≤ ((k + 1 : Nat) : Int)) := ⟨N, _, ⟨hp5, mid_del HMid.out hp5⟩, ⟨(by have := HNk.out; omega)⟩⟩; clear hb17 how2 hp5 hk5; refine ⟨.tuple #[.agg #[.int .i64 (delG L x.1.i).id, .int .i64 (delG L x.1.i).src, .int .i64 (delG L x.1.i).dst, .slice Ay2 (delG L x.1.i).frame.length cy2, .bool (delG L x.1.i).spoilt], .bool (inR L.length x.1.i)], rfl, ?_⟩) | (go_at_call 25; refine (SameGrams.yes (some ⟨w5.heap.size + 1, 0, none⟩) (some ⟨w5.heap.size + 1 + 1, 0, none⟩) 1 1 [((delG L x.1.i), Value.slice Ay1 (delG L x.1.i).frame.length cy1)] [((delG L x.1.i), Value.slice Ay2 (delG L x.1.i).frame.length cy2)] _ (gramsOne (z := ((delG L x.1.i), Value.slice Ay1 (delG L x.1.i).frame.length cy1)) (heap_new3 w5 _ _ _).1 (own_alloc (own_alloc (own_alloc HOW5.out _) _) _) (delG_short HMid.out)) (gramsOne (z := ((delG L x.1.i), Value.slice Ay2 (delG L x.1.i).frame.length cy2)) (heap_new3 w5 _ _ _).2 (own_alloc (own_alloc (own_alloc HOW6.out _) _) _) (delG_short HMid.out)) rfl (by simp)).mono ?_; rintro e w6 ⟨rfl, ⟨n6, rfl⟩⟩; have HT2 := HT; clear HT; have HT : Aside0 (Mid w ((((w5.alloc (.cells #[.int .i64 (delG L x.1.i).id, .int .i64 (delG L x.1.i).src, .int .i64 (delG L x.1.i).dst, .slice Ay2 (delG L x.1.i).frame.length cy2, .bool (delG L x.1.i).spoilt] 31)).alloc (.cells #[.int .i64 (delG L x.1.i).id, .int .i64 (delG L x.1.i).src, .int .i64 (delG L x.1.i).dst, .slice Ay1 (delG L x.1.i).frame.length cy1, .bool (delG L x.1.i).spoilt] 31)).alloc (.cells #[.int .i64 (delG L x.1.i).id, .int .i64 (delG L x.1.i).src, .int .i64 (delG L x.1.i).dst, .slice Ay2 (delG L x.1.i).frame.length cy2, .bool (delG L x.1.i).spoilt] 31)).drewN n6) p q a0 N2 L2) := ⟨mid_later HT2.out.2 (pw_below_drewN (below_alloc (below_alloc (below_alloc (Below.refl _ _) _) _) _) _)⟩; clear HT2) | (go_at_call 28; refine (PList HT.out.pair (by have := HT.out.room; have := HM2.out; omega) (fun y hy => Nat.le_trans (HT.out.short y hy) (by decide))).mono ?_; rintro e w7 ⟨A7, c7, m, rfl, hm7, hg7, hb7⟩; have HM7 := Aside0.mk hm7; have HG7 := Aside0.mk hg7; have HB7 := Aside0.mk hb7; have hlm : m.length = L2.length := (by have := congrArg List.length hm7; simpa using this); have HLM := Aside0.mk hlm; clear hm7 hg7 hb7 hlm))
          have HP7 : Aside0 (PairAt w w7.drew p q a0 N2 L2 N2 L2 _) := ⟨(HT.out.pair.later HB7.out).later (Below.refl _ _).drew⟩
          have HB8 := Aside0.mk (HB7.out.drew)
          have HG8 := Aside0.mk (HG7.out.below (Below.refl _ _).drew)
          have HSm : Aside0 (∀ y ∈ m, y.1.frame.length ≤ 200000) := ⟨fun y hy => Nat.le_trans (HT.out.short y.1 (HM7.out ▸ List.mem_map_of_mem hy)) (by decide)⟩
          obtain ⟨Ar, cr, hq0, hrd⟩ := PRef HP7.out (fun y hy => Nat.le_trans (HT.out.short y hy) (by decide))
          obtain ⟨rl, hrl, hgr⟩ := hrd _ (Below.refl _ _)
          have HRL := Aside0.mk hgr
          have HEq : Aside0 (m.map Prod.fst = rl.map Prod.fst) := ⟨HM7.out.trans hrl.symm⟩
          have HLn : Aside0 (m.length ≤ 100000) := ⟨by have := HLM.out; have := HT.out.room; have := HM2.out; omega⟩
          have HLr : Aside0 (rl.length = L2.length) := ⟨by have := congrArg List.length hrl; simpa using this⟩
          clear hrd hrl hgr HB7 HG7
          refine start_ (n := 21) (S := fun w' => w'.cell? ⟨q, 0, none⟩ = some (.slice Ar L2.length cr)) (ds := []) #[false, false, false, false, false, false, false, false, false, false, false, false, false, false, false, false, false, false, false, false, false] (by kernel_rfl) rfl rfl hq0 (fun hHeld => ?_)
          clear hq0
          generalize w7.drew = W7 at *
          refine pure_ (i := 0) (N := (some 190)) (v := ?_) (a' := ?_) #[true, false, false, false, false, false, false, false, false, false, false, false, false, false, false, false, false, false, false, false, false] rfl rfl (by kernel_rfl) (fun _ _ _ h => h) (Or.inl ⟨by rfl, ?_⟩) ?_ ?_
          rotate_left
          · intro w'
            go_simp
            with_reducible rfl
          rotate_left
          · simp only [Act.put, List.setIfInBounds_toArray, List.set_cons_zero, List.set_cons_succ, i64_w, i32_w]
            rfl
          refine pure_ (i := 1) (N := (some 191)) (v := ?_) (a' := ?_) #[true, true, false, false, false, false, false, false, false, false, false, false, false, false, false, false, false, false, false, false, false] rfl rfl (by kernel_rfl) (fun _ _ _ h => h) (Or.inl ⟨by rfl, ?_⟩) ?_ ?_
          rotate_left
          · intro w'
            go_simp
            with_reducible rfl
          rotate_left
          · simp only [Act.put, List.setIfInBounds_toArray, List.set_cons_zero, List.set_cons_succ, i64_w, i32_w]
            rfl
          refine pure_ (i := 2) (N := (some 192)) (v := ?_) (a' := ?_) #[true, true, true, false, false, false, false, false, false, false, false, false, false, false, false, false, false, false, false, false, false] rfl rfl (by kernel_rfl) (fun _ _ _ h => h) (Or.inl ⟨by rfl, ?_⟩) ?_ ?_
          rotate_left
          · intro w'
            go_simp
            with_reducible rfl
          rotate_left
          · simp only [Act.put, List.setIfInBounds_toArray, List.set_cons_zero, List.set_cons_succ, i64_w, i32_w]
            rfl
          refine pure_ (i := 3) (N := (some 193)) (v := ?_) (a' := ?_) #[true, true, true, true, false, false, false, false, false, false, false, false, false, false, false, false, false, false, false, false, false] rfl rfl (by kernel_rfl) (fun _ _ _ h => h) (Or.inl ⟨by rfl, ?_⟩) ?_ ?_
          rotate_left
          · intro w'
            go_simp
            with_reducible rfl
          rotate_left
          · simp only [Act.put, List.setIfInBounds_toArray, List.set_cons_zero, List.set_cons_succ, i64_w, i32_w]
            rfl
          refine pure_ (i := 5) (N := (some 195)) (v := ?_) (a' := ?_) #[true, true, true, true, false, true, false, false, false, false, false, false, false, false, false, false, false, false, false, false, false] rfl rfl (by kernel_rfl) (fun _ _ _ h => h) (Or.inl ⟨by rfl, ?_⟩) ?_ ?_
          rotate_left
          · intro w'
            go_simp
            with_reducible rfl
          rotate_left
          · simp only [Act.put, List.setIfInBounds_toArray, List.set_cons_zero, List.set_cons_succ, i64_w, i32_w]
            rfl
          refine pure_ (i := 6) (N := (some 196)) (v := ?_) (a' := ?_) #[true, true, true, true, false, true, true, false, false, false, false, false, false, false, false, false, false, false, false, false, false] rfl rfl (by kernel_rfl) (fun _ _ _ h => h) (Or.inl ⟨by rfl, ?_⟩) ?_ ?_
          rotate_left
          · intro w'
            go_simp
            with_reducible rfl
          rotate_left
          · simp only [Act.put, List.setIfInBounds_toArray, List.set_cons_zero, List.set_cons_succ, i64_w, i32_w]
            rfl
          refine pure_ (i := 7) (N := (some 197)) (v := ?_) (a' := ?_) #[true, true, true, true, false, true, true, true, false, false, false, false, false, false, false, false, false, false, false, false, false] rfl rfl (by kernel_rfl) (fun _ _ _ h => h) (Or.inl ⟨by rfl, ?_⟩) ?_ ?_
          rotate_left
          · intro w'
            go_simp
            with_reducible rfl
          rotate_left
          · simp only [Act.put, List.setIfInBounds_toArray, List.set_cons_zero, List.set_cons_succ, i64_w, i32_w]
            rfl
          refine take_ (i := 8) (N := (some 198)) (v := ?_) (a' := ?_) #[true, true, true, true, false, true, true, true, true, false, false, false, false, false, false, false, false, false, false, false, false] rfl rfl (by kernel_rfl) (fun _ _ _ h => h) (Or.inl ⟨by rfl, ?_⟩) hHeld ?_ ?_
          rotate_left
          · rintro w' s0
            go_simp
            with_reducible rfl
          rotate_left
          · simp only [Act.put, List.setIfInBounds_toArray, List.set_cons_zero, List.set_cons_succ, i64_w, i32_w]
            rfl
          refine pure_ (i := 9) (N := (some 199)) (v := ?_) (a' := ?_) #[true, true, true, true, false, true, true, true, true, true, false, false, false, false, false, false, false, false, false, false, false] rfl rfl (by kernel_rfl) (fun _ _ _ h => h) (Or.inl ⟨by rfl, ?_⟩) ?_ ?_
          rotate_left
          · intro w'
            go_simp
            with_reducible rfl
          rotate_left
          · simp only [Act.put, List.setIfInBounds_toArray, List.set_cons_zero, List.set_cons_succ, i64_w, i32_w]
            rfl
          refine one_ (i := 4) (N := (some 194)) #[true, true, true, true, true, true, true, true, true, true, false, false, false, false, false, false, false, false, false, false, false] rfl rfl (by kernel_rfl) (by decide) (fun K hK => ?_)
          refine goes_ Try.func12 (by kernel_rfl) rfl #[.pointer (some ⟨p, 0, none⟩)] (by rfl) rfl rfl (by (try simp only [List.map_toArray, List.map_cons, List.map_nil]); first | done | rfl) ?_
          refine (PLen HP7.out).mono ?_
          rintro e w9 ⟨rfl, rfl⟩
          refine ⟨_, rfl, ?_⟩
          refine hK.out _ _ hHeld (fun hHeld => ?_)
          clear hK K
          refine norm_ (a' := ?_) ?_ ?_
          rotate_left
          · show Act.put _ (some 194) _ = _
            simp only [Act.put, List.setIfInBounds_toArray, List.set_cons_zero, List.set_cons_succ, i64_w, i32_w]
            rfl
          refine pure_ (i := 10) (N := (some 200)) (v := ?_) (a' := ?_) #[true, true, true, true, true, true, true, true, true, true, true, false, false, false, false, false, false, false, false, false, false] rfl rfl (by kernel_rfl) (fun _ _ _ h => h) (Or.inl ⟨by rfl, ?_⟩) ?_ ?_
          rotate_left
          · intro w'
            go_simp
            with_reducible rfl
          rotate_left
          · simp only [Act.put, List.setIfInBounds_toArray, List.set_cons_zero, List.set_cons_succ, i64_w, i32_w]
            rfl
          refine pure_ (i := 11) (N := (some 201)) (v := ?_) (a' := ?_) #[true, true, true, true, true, true, true, true, true, true, true, true, false, false, false, false, false, false, false, false, false] rfl rfl (by kernel_rfl) (fun _ _ _ h => h) (Or.inl ⟨by rfl, ?_⟩) ?_ ?_
          rotate_left
          · intro w'
            go_simp
            with_reducible rfl
          rotate_left
          · simp only [Act.put, List.setIfInBounds_toArray, List.set_cons_zero, List.set_cons_succ, i64_w, i32_w]
            rfl
          refine pure_ (i := 12) (N := (some 202)) (v := ?_) (a' := ?_) #[true, true, true, true, true, true, true, true, true, true, true, true, true, false, false, false, false, false, false, false, false] rfl rfl (by kernel_rfl) (fun _ _ _ h => h) (Or.inl ⟨by rfl, ?_⟩) ?_ ?_
          rotate_left
          · intro w'
            go_simp
            with_reducible rfl
          rotate_left
          · simp only [Act.put, List.setIfInBounds_toArray, List.set_cons_zero, List.set_cons_succ, i64_w, i32_w]
            rfl
          refine pure_ (i := 13) (N := (some 203)) (v := ?_) (a' := ?_) #[true, true, true, true, true, true, true, true, true, true, true, true, true, true, false, false, false, false, false, false, false] rfl rfl (by kernel_rfl) (fun _ _ _ h => h) (Or.inl ⟨by rfl, ?_⟩) ?_ ?_
          rotate_left
          · intro w'
            go_simp
            with_reducible rfl
          rotate_left
          · simp only [Act.put, List.setIfInBounds_toArray, List.set_cons_zero, List.set_cons_succ, i64_w, i32_w]
            rfl
          refine pure_ (i := 14) (N := (some 204)) (v := ?_) (a' := ?_) #[true, true, true, true, true, true, true, true, true, true, true, true, true, true, true, false, false, false, false, false, false] rfl rfl (by kernel_rfl) (fun _ _ _ h => h) (Or.inl ⟨by rfl, ?_⟩) ?_ ?_
          rotate_left
          · intro w'
            go_simp
            with_reducible rfl
          rotate_left
          · simp only [Act.put, List.setIfInBounds_toArray, List.set_cons_zero, List.set_cons_succ, i64_w, i32_w]
            rfl
          refine pure_ (i := 15) (N := (some 205)) (v := ?_) (a' := ?_) #[true, true, true, true, true, true, true, true, true, true, true, true, true, true, true, true, false, false, false, false, false] rfl rfl (by kernel_rfl) (fun _ _ _ h => h) (Or.inl ⟨by rfl, ?_⟩) ?_ ?_
          rotate_left
          · intro w'
            go_simp
            with_reducible rfl
          rotate_left
          · simp only [Act.put, List.setIfInBounds_toArray, List.set_cons_zero, List.set_cons_succ, i64_w, i32_w]
            rfl
          refine pure_ (i := 16) (N := (some 206)) (v := ?_) (a' := ?_) #[true, true, true, true, true, true, true, true, true, true, true, true, true, true, true, true, true, false, false, false, false] rfl rfl (by kernel_rfl) (fun _ _ _ h => h) (Or.inl ⟨by rfl, ?_⟩) ?_ ?_
          rotate_left
          · intro w'
            go_simp
            with_reducible rfl
          rotate_left
          · simp only [Act.put, List.setIfInBounds_toArray, List.set_cons_zero, List.set_cons_succ, i64_w, i32_w]
            rfl
          refine take_ (i := 17) (N := (some 207)) (v := ?_) (a' := ?_) #[true, true, true, true, true, true, true, true, true, true, true, true, true, true, true, true, true, true, false, false, false] rfl rfl (by kernel_rfl) (fun _ _ _ h => h) (Or.inl ⟨by rfl, ?_⟩) hHeld ?_ ?_
          rotate_left
          · rintro w' s0
            go_simp
            with_reducible rfl
          rotate_left
          · simp only [Act.put, List.setIfInBounds_toArray, List.set_cons_zero, List.set_cons_succ, i64_w, i32_w]
            rfl
          refine one_ (i := 18) (N := (some 208)) #[true, true, true, true, true, true, true, true, true, true, true, true, true, true, true, true, true, true, true, false, false] rfl rfl (by kernel_rfl) (by decide) (fun K hK => ?_)
          refine goes_ Try.func25 (by kernel_rfl) rfl #[.slice A7 m.length c7, .slice Ar L2.length cr] (by rfl) rfl rfl (by (try simp only [List.map_toArray, List.map_cons, List.map_nil]); first | done | rfl) ?_
          refine (SameGrams.two A7 Ar c7 cr m rl L2.length _ (GramsAt.of HG8.out HSm.out) HRL.out HEq.out HLn.out HLr.out).mono ?_
          rintro e w9 ⟨rfl, ⟨ndd, rfl⟩⟩
          refine ⟨_, rfl, ?_⟩
          refine hK.out _ _ hHeld (fun hHeld => ?_)
          clear hK K
          refine norm_ (a' := ?_) ?_ ?_
          rotate_left
          · show Act.put _ (some 208) _ = _
            simp only [Act.put, List.setIfInBounds_toArray, List.set_cons_zero, List.set_cons_succ, i64_w, i32_w]
            rfl
          refine pure_ (i := 19) (N := (some 209)) (v := ?_) (a' := ?_) #[true, true, true, true, true, true, true, true, true, true, true, true, true, true, true, true, true, true, true, true, false] rfl rfl (by kernel_rfl) (fun _ _ _ h => h) (Or.inl ⟨by rfl, ?_⟩) ?_ ?_
          rotate_left
          · intro w'
            go_simp
            with_reducible rfl
          rotate_left
          · simp only [Act.put, List.setIfInBounds_toArray, List.set_cons_zero, List.set_cons_succ, i64_w, i32_w]
            rfl
          refine pure_ (i := 20) (N := (some 210)) (v := ?_) (a' := ?_) #[true, true, true, true, true, true, true, true, true, true, true, true, true, true, true, true, true, true, true, true, true] rfl rfl (by kernel_rfl) (fun _ _ _ h => h) (Or.inl ⟨by rfl, ?_⟩) ?_ ?_
          rotate_left
          · intro w'
            go_simp
            with_reducible rfl
          rotate_left
          · simp only [Act.put, List.setIfInBounds_toArray, List.set_cons_zero, List.set_cons_succ, i64_w, i32_w]
            rfl
          refine done_ (by kernel_rfl) ?_
          go_wp2_with (first | (go_at_call 29; refine (OverGrams.calls w _ (.slice A7 m.length c7) m (pw_below_drewN HP7.out.below _) ((HG8.out.below (pw_below_drewN (Below.refl _ _) _)).weaken HT.out.pair.below.size) HLn.out (fun y hy => Nat.le_trans (HT.out.short y.1 (HM7.out ▸ List.mem_map_of_mem hy)) (by decide))).mono ?_; rintro e w10 ⟨rfl, hb10, hk10⟩; have HK2 := Aside0.mk (Mid.over HT.out (pw_below_drewN HB8.out _) HG8.out.foot hk10 hb10 HN2.out); clear hb10 hk10))
          go_roundw
          case rel => exact ⟨k + 1, by omega, by go_num, HK2⟩
          case measure => simp [intOf]; omega

          -- END d1
        have e1 : (x.1.act == 1) = false := beq_eq_false_iff_ne.2 (by omega)
        by_cases d2 : x.1.act = 2
        · have e2 : (x.1.act == 2) = true := beq_iff_eq.2 d2
          clear d0 d1 d2
          -- CASE d2
          go_wp2_with (first | (go_at_call 15; refine (PDrop HPA.out (by have := HMid.out.room; have := HM2.out; omega) x.1.i).mono ?_; rintro e w3 ⟨rfl, hp3, hk3⟩; have hac3 := kept_blk HAC.out hk3 (Nat.lt_irrefl _); have t31 : w3.cell? ⟨wr.heap.size, 1, none⟩ = some (.int .i64 x.1.i) := blk_cell hac3 1; have HP3 := Aside0.mk hp3; have HA3 := Aside0.mk hac3; clear hp3 hk3 hac3) | ((with_reducible refine gate_callee (f := 24) rfl ?_); refine goesL_ _ rfl rfl Try.func24 (by kernel_rfl) rfl #[.pointer (some ⟨q, 0, none⟩), .int .i64 x.1.i] rfl (by (try simp only [List.map_toArray, List.map_cons, List.map_nil]); first | done | rfl) ?_; refine (PRDeliver HP3.out (by have := HMid.out.room; have := HM2.out; omega) x.1.i).mono ?_; rintro e w4 ⟨Ay, cy, rfl, how, hp4, hk4⟩; obtain ⟨N2, L2, HT, HN2⟩ : ∃ N2 L2, Aside0 (Mid w (w4.alloc (.cells #[.int .i64 (delG L x.1.i).id, .int .i64 (delG L x.1.i).src, .int .i64 (delG L x.1.i).dst, .slice Ay (delG L x.1.i).frame.length cy, .bool (delG L x.1.i).spoilt] 31)) p q a0 N2 L2) ∧ Aside0 (N2 ≤ ((k + 1 : Nat) : Int)) := ⟨N, _, ⟨mid_del HMid.out (hp4.later (below_alloc (Below.refl _ _) _))⟩, ⟨(by have := HNk.out; omega)⟩⟩; clear hp4 hk4 how; refine ⟨.tuple #[.agg #[.int .i64 (delG L x.1.i).id, .int .i64 (delG L x.1.i).src, .int .i64 (delG L x.1.i).dst, .slice Ay (delG L x.1.i).frame.length cy, .bool (delG L x.1.i).spoilt], .bool (inR L.length x.1.i)], rfl, ?_⟩) | (go_at_call 28; refine (PList HT.out.pair (by have := HT.out.room; have := HM2.out; omega) (fun y hy => Nat.le_trans (HT.out.short y hy) (by decide))).mono ?_; rintro e w7 ⟨A7, c7, m, rfl, hm7, hg7, hb7⟩; have HM7 := Aside0.mk hm7; have HG7 := Aside0.mk hg7; have HB7 := Aside0.mk hb7; have hlm : m.length = L2.length := (by have := congrArg List.length hm7; simpa using this); have HLM := Aside0.mk hlm; clear hm7 hg7 hb7 hlm))
          have HP7 : Aside0 (PairAt w w7.drew p q a0 N2 L2 N2 L2 _) := ⟨(HT.out.pair.later HB7.out).later (Below.refl _ _).drew⟩
          have HB8 := Aside0.mk (HB7.out.drew)
          have HG8 := Aside0.mk (HG7.out.below (Below.refl _ _).drew)
          have HSm : Aside0 (∀ y ∈ m, y.1.frame.length ≤ 200000) := ⟨fun y hy => Nat.le_trans (HT.out.short y.1 (HM7.out ▸ List.mem_map_of_mem hy)) (by decide)⟩
          obtain ⟨Ar, cr, hq0, hrd⟩ := PRef HP7.out (fun y hy => Nat.le_trans (HT.out.short y hy) (by decide))
          obtain ⟨rl, hrl, hgr⟩ := hrd _ (Below.refl _ _)
          have HRL := Aside0.mk hgr
          have HEq : Aside0 (m.map Prod.fst = rl.map Prod.fst) := ⟨HM7.out.trans hrl.symm⟩
          have HLn : Aside0 (m.length ≤ 100000) := ⟨by have := HLM.out; have := HT.out.room; have := HM2.out; omega⟩
          have HLr : Aside0 (rl.length = L2.length) := ⟨by have := congrArg List.length hrl; simpa using this⟩
          clear hrd hrl hgr HB7 HG7
          refine start_ (n := 21) (S := fun w' => w'.cell? ⟨q, 0, none⟩ = some (.slice Ar L2.length cr)) (ds := []) #[false, false, false, false, false, false, false, false, false, false, false, false, false, false, false, false, false, false, false, false, false] (by kernel_rfl) rfl rfl hq0 (fun hHeld => ?_)
          clear hq0
          generalize w7.drew = W7 at *
          refine pure_ (i := 0) (N := (some 190)) (v := ?_) (a' := ?_) #[true, false, false, false, false, false, false, false, false, false, false, false, false, false, false, false, false, false, false, false, false] rfl rfl (by kernel_rfl) (fun _ _ _ h => h) (Or.inl ⟨by rfl, ?_⟩) ?_ ?_
          rotate_left
          · intro w'
            go_simp
            with_reducible rfl
          rotate_left
          · simp only [Act.put, List.setIfInBounds_toArray, List.set_cons_zero, List.set_cons_succ, i64_w, i32_w]
            rfl
          refine pure_ (i := 1) (N := (some 191)) (v := ?_) (a' := ?_) #[true, true, false, false, false, false, false, false, false, false, false, false, false, false, false, false, false, false, false, false, false] rfl rfl (by kernel_rfl) (fun _ _ _ h => h) (Or.inl ⟨by rfl, ?_⟩) ?_ ?_
          rotate_left
          · intro w'
            go_simp
            with_reducible rfl
          rotate_left
          · simp only [Act.put, List.setIfInBounds_toArray, List.set_cons_zero, List.set_cons_succ, i64_w, i32_w]
            rfl
          refine pure_ (i := 2) (N := (some 192)) (v := ?_) (a' := ?_) #[true, true, true, false, false, false, false, false, false, false, false, false, false, false, false, false, false, false, false, false, false] rfl rfl (by kernel_rfl) (fun _ _ _ h => h) (Or.inl ⟨by rfl, ?_⟩) ?_ ?_
          rotate_left
          · intro w'
            go_simp
            with_reducible rfl
          rotate_left
          · simp only [Act.put, List.setIfInBounds_toArray, List.set_cons_zero, List.set_cons_succ, i64_w, i32_w]
            rfl
          refine pure_ (i := 3) (N := (some 193)) (v := ?_) (a' := ?_) #[true, true, true, true, false, false, false, false, false, false, false, false, false, false, false, false, false, false, false, false, false] rfl rfl (by kernel_rfl) (fun _ _ _ h => h) (Or.inl ⟨by rfl, ?_⟩) ?_ ?_
          rotate_left
          · intro w'
            go_simp
            with_reducible rfl
          rotate_left
          · simp only [Act.put, List.setIfInBounds_toArray, List.set_cons_zero, List.set_cons_succ, i64_w, i32_w]
            rfl
          refine pure_ (i := 5) (N := (some 195)) (v := ?_) (a' := ?_) #[true, true, true, true, false, true, false, false, false, false, false, false, false, false, false, false, false, false, false, false, false] rfl rfl (by kernel_rfl) (fun _ _ _ h => h) (Or.inl ⟨by rfl, ?_⟩) ?_ ?_
          rotate_left
          · intro w'
            go_simp
            with_reducible rfl
          rotate_left
          · simp only [Act.put, List.setIfInBounds_toArray, List.set_cons_zero, List.set_cons_succ, i64_w, i32_w]
            rfl
          refine pure_ (i := 6) (N := (some 196)) (v := ?_) (a' := ?_) #[true, true, true, true, false, true, true, false, false, false, false, false, false, false, false, false, false, false, false, false, false] rfl rfl (by kernel_rfl) (fun _ _ _ h => h) (Or.inl ⟨by rfl, ?_⟩) ?_ ?_
          rotate_left
          · intro w'
            go_simp
            with_reducible rfl
          rotate_left
          · simp only [Act.put, List.setIfInBounds_toArray, List.set_cons_zero, List.set_cons_succ, i64_w, i32_w]
            rfl
          refine pure_ (i := 7) (N := (some 197)) (v := ?_) (a' := ?_) #[true, true, true, true, false, true, true, true, false, false, false, false, false, false, false, false, false, false, false, false, false] rfl rfl (by kernel_rfl) (fun _ _ _ h => h) (Or.inl ⟨by rfl, ?_⟩) ?_ ?_
          rotate_left
          · intro w'
            go_simp
            with_reducible rfl
          rotate_left
          · simp only [Act.put, List.setIfInBounds_toArray, List.set_cons_zero, List.set_cons_succ, i64_w, i32_w]
            rfl
          refine take_ (i := 8) (N := (some 198)) (v := ?_) (a' := ?_) #[true, true, true, true, false, true, true, true, true, false, false, false, false, false, false, false, false, false, false, false, false] rfl rfl (by kernel_rfl) (fun _ _ _ h => h) (Or.inl ⟨by rfl, ?_⟩) hHeld ?_ ?_
          rotate_left
          · rintro w' s0
            go_simp
            with_reducible rfl
          rotate_left
          · simp only [Act.put, List.setIfInBounds_toArray, List.set_cons_zero, List.set_cons_succ, i64_w, i32_w]
            rfl
          refine pure_ (i := 9) (N := (some 199)) (v := ?_) (a' := ?_) #[true, true, true, true, false, true, true, true, true, true, false, false, false, false, false, false, false, false, false, false, false] rfl rfl (by kernel_rfl) (fun _ _ _ h => h) (Or.inl ⟨by rfl, ?_⟩) ?_ ?_
          rotate_left
          · intro w'
            go_simp
            with_reducible rfl
          rotate_left
          · simp only [Act.put, List.setIfInBounds_toArray, List.set_cons_zero, List.set_cons_succ, i64_w, i32_w]
            rfl
          refine one_ (i := 4) (N := (some 194)) #[true, true, true, true, true, true, true, true, true, true, false, false, false, false, false, false, false, false, false, false, false] rfl rfl (by kernel_rfl) (by decide) (fun K hK => ?_)
          refine goes_ Try.func12 (by kernel_rfl) rfl #[.pointer (some ⟨p, 0, none⟩)] (by rfl) rfl rfl (by (try simp only [List.map_toArray, List.map_cons, List.map_nil]); first | done | rfl) ?_
          refine (PLen HP7.out).mono ?_
          rintro e w9 ⟨rfl, rfl⟩
          refine ⟨_, rfl, ?_⟩
          refine hK.out _ _ hHeld (fun hHeld => ?_)
          clear hK K
          refine norm_ (a' := ?_) ?_ ?_
          rotate_left
          · show Act.put _ (some 194) _ = _
            simp only [Act.put, List.setIfInBounds_toArray, List.set_cons_zero, List.set_cons_succ, i64_w, i32_w]
            rfl
          refine pure_ (i := 10) (N := (some 200)) (v := ?_) (a' := ?_) #[true, true, true, true, true, true, true, true, true, true, true, false, false, false, false, false, false, false, false, false, false] rfl rfl (by kernel_rfl) (fun _ _ _ h => h) (Or.inl ⟨by rfl, ?_⟩) ?_ ?_
          rotate_left
          · intro w'
            go_simp
            with_reducible rfl
          rotate_left
          · simp only [Act.put, List.setIfInBounds_toArray, List.set_cons_zero, List.set_cons_succ, i64_w, i32_w]
            rfl
          refine pure_ (i := 11) (N := (some 201)) (v := ?_) (a' := ?_) #[true, true, true, true, true, true, true, true, true, true, true, true, false, false, false, false, false, false, false, false, false] rfl rfl (by kernel_rfl) (fun _ _ _ h => h) (Or.inl ⟨by rfl, ?_⟩) ?_ ?_
          rotate_left
          · intro w'
            go_simp
            with_reducible rfl
          rotate_left
          · simp only [Act.put, List.setIfInBounds_toArray, List.set_cons_zero, List.set_cons_succ, i64_w, i32_w]
            rfl
          refine pure_ (i := 12) (N := (some 202)) (v := ?_) (a' := ?_) #[true, true, true, true, true, true, true, true, true, true, true, true, true, false, false, false, false, false, false, false, false] rfl rfl (by kernel_rfl) (fun _ _ _ h => h) (Or.inl ⟨by rfl, ?_⟩) ?_ ?_
          rotate_left
          · intro w'
            go_simp
            with_reducible rfl
          rotate_left
          · simp only [Act.put, List.setIfInBounds_toArray, List.set_cons_zero, List.set_cons_succ, i64_w, i32_w]
            rfl
          refine pure_ (i := 13) (N := (some 203)) (v := ?_) (a' := ?_) #[true, true, true, true, true, true, true, true, true, true, true, true, true, true, false, false, false, false, false, false, false] rfl rfl (by kernel_rfl) (fun _ _ _ h => h) (Or.inl ⟨by rfl, ?_⟩) ?_ ?_
          rotate_left
          · intro w'
            go_simp
            with_reducible rfl
          rotate_left
          · simp only [Act.put, List.setIfInBounds_toArray, List.set_cons_zero, List.set_cons_succ, i64_w, i32_w]
            rfl
          refine pure_ (i := 14) (N := (some 204)) (v := ?_) (a' := ?_) #[true, true, true, true, true, true, true, true, true, true, true, true, true, true, true, false, false, false, false, false, false] rfl rfl (by kernel_rfl) (fun _ _ _ h => h) (Or.inl ⟨by rfl, ?_⟩) ?_ ?_
          rotate_left
          · intro w'
            go_simp
            with_reducible rfl
          rotate_left
          · simp only [Act.put, List.setIfInBounds_toArray, List.set_cons_zero, List.set_cons_succ, i64_w, i32_w]
            rfl
          refine pure_ (i := 15) (N := (some 205)) (v := ?_) (a' := ?_) #[true, true, true, true, true, true, true, true, true, true, true, true, true, true, true, true, false, false, false, false, false] rfl rfl (by kernel_rfl) (fun _ _ _ h => h) (Or.inl ⟨by rfl, ?_⟩) ?_ ?_
          rotate_left
          · intro w'
            go_simp
            with_reducible rfl
          rotate_left
          · simp only [Act.put, List.setIfInBounds_toArray, List.set_cons_zero, List.set_cons_succ, i64_w, i32_w]
            rfl
          refine pure_ (i := 16) (N := (some 206)) (v := ?_) (a' := ?_) #[true, true, true, true, true, true, true, true, true, true, true, true, true, true, true, true, true, false, false, false, false] rfl rfl (by kernel_rfl) (fun _ _ _ h => h) (Or.inl ⟨by rfl, ?_⟩) ?_ ?_
          rotate_left
          · intro w'
            go_simp
            with_reducible rfl
          rotate_left
          · simp only [Act.put, List.setIfInBounds_toArray, List.set_cons_zero, List.set_cons_succ, i64_w, i32_w]
            rfl
          refine take_ (i := 17) (N := (some 207)) (v := ?_) (a' := ?_) #[true, true, true, true, true, true, true, true, true, true, true, true, true, true, true, true, true, true, false, false, false] rfl rfl (by kernel_rfl) (fun _ _ _ h => h) (Or.inl ⟨by rfl, ?_⟩) hHeld ?_ ?_
          rotate_left
          · rintro w' s0
            go_simp
            with_reducible rfl
          rotate_left
          · simp only [Act.put, List.setIfInBounds_toArray, List.set_cons_zero, List.set_cons_succ, i64_w, i32_w]
            rfl
          refine one_ (i := 18) (N := (some 208)) #[true, true, true, true, true, true, true, true, true, true, true, true, true, true, true, true, true, true, true, false, false] rfl rfl (by kernel_rfl) (by decide) (fun K hK => ?_)
          refine goes_ Try.func25 (by kernel_rfl) rfl #[.slice A7 m.length c7, .slice Ar L2.length cr] (by rfl) rfl rfl (by (try simp only [List.map_toArray, List.map_cons, List.map_nil]); first | done | rfl) ?_
          refine (SameGrams.two A7 Ar c7 cr m rl L2.length _ (GramsAt.of HG8.out HSm.out) HRL.out HEq.out HLn.out HLr.out).mono ?_
          rintro e w9 ⟨rfl, ⟨ndd, rfl⟩⟩
          refine ⟨_, rfl, ?_⟩
          refine hK.out _ _ hHeld (fun hHeld => ?_)
          clear hK K
          refine norm_ (a' := ?_) ?_ ?_
          rotate_left
          · show Act.put _ (some 208) _ = _
            simp only [Act.put, List.setIfInBounds_toArray, List.set_cons_zero, List.set_cons_succ, i64_w, i32_w]
            rfl
          refine pure_ (i := 19) (N := (some 209)) (v := ?_) (a' := ?_) #[true, true, true, true, true, true, true, true, true, true, true, true, true, true, true, true, true, true, true, true, false] rfl rfl (by kernel_rfl) (fun _ _ _ h => h) (Or.inl ⟨by rfl, ?_⟩) ?_ ?_
          rotate_left
          · intro w'
            go_simp
            with_reducible rfl
          rotate_left
          · simp only [Act.put, List.setIfInBounds_toArray, List.set_cons_zero, List.set_cons_succ, i64_w, i32_w]
            rfl
          refine pure_ (i := 20) (N := (some 210)) (v := ?_) (a' := ?_) #[true, true, true, true, true, true, true, true, true, true, true, true, true, true, true, true, true, true, true, true, true] rfl rfl (by kernel_rfl) (fun _ _ _ h => h) (Or.inl ⟨by rfl, ?_⟩) ?_ ?_
          rotate_left
          · intro w'
            go_simp
            with_reducible rfl
          rotate_left
          · simp only [Act.put, List.setIfInBounds_toArray, List.set_cons_zero, List.set_cons_succ, i64_w, i32_w]
            rfl
          refine done_ (by kernel_rfl) ?_
          go_wp2_with (first | (go_at_call 29; refine (OverGrams.calls w _ (.slice A7 m.length c7) m (pw_below_drewN HP7.out.below _) ((HG8.out.below (pw_below_drewN (Below.refl _ _) _)).weaken HT.out.pair.below.size) HLn.out (fun y hy => Nat.le_trans (HT.out.short y.1 (HM7.out ▸ List.mem_map_of_mem hy)) (by decide))).mono ?_; rintro e w10 ⟨rfl, hb10, hk10⟩; have HK2 := Aside0.mk (Mid.over HT.out (pw_below_drewN HB8.out _) HG8.out.foot hk10 hb10 HN2.out); clear hb10 hk10))
          go_roundw
          case rel => exact ⟨k + 1, by omega, by go_num, HK2⟩
          case measure => simp [intOf]; omega

          -- END d2
        have e2 : (x.1.act == 2) = false := beq_eq_false_iff_ne.2 (by omega)
        by_cases d3 : x.1.act = 3
        · have e3 : (x.1.act == 3) = true := beq_iff_eq.2 d3
          clear d0 d1 d2 d3
          -- CASE d3
          have HPD : Aside0 (PairAt w (wr.alloc (.cells #[.int .i64 x.1.act, .int .i64 x.1.i, .int .i64 x.1.j, .int .i64 x.1.x, .slice Ab x.1.b.length cb] 42)).drew p q a0 N L N L (fun k => k < wr.heap.size)) := ⟨HPA.out.later (Below.refl _ _).drew⟩
          have HAD : Aside0 ((wr.alloc (.cells #[.int .i64 x.1.act, .int .i64 x.1.i, .int .i64 x.1.j, .int .i64 x.1.x, .slice Ab x.1.b.length cb] 42)).drew.heap[wr.heap.size]? = some (.cells #[.int .i64 x.1.act, .int .i64 x.1.i, .int .i64 x.1.j, .int .i64 x.1.x, .slice Ab x.1.b.length cb] 42 (0, 0))) := ⟨HAC.out⟩
          have hqw := pair_q HMid.out.pair
          have hS0 : (wr.alloc (.cells #[.int .i64 x.1.act, .int .i64 x.1.i, .int .i64 x.1.j, .int .i64 x.1.x, .slice Ab x.1.b.length cb] 42)).drew.cell? ⟨wr.heap.size, 1, none⟩ = some (.int .i64 x.1.i) := (blk_cell HAD.out 1)
          go_wp2_with fail
          refine start_ (n := 10) (S := fun w' => w'.cell? ⟨wr.heap.size, 1, none⟩ = some (.int .i64 x.1.i)) (ds := []) #[false, false, false, false, false, false, false, false, false, false] (by kernel_rfl) rfl rfl hS0 (fun hHeld => ?_)
          clear hS0
          generalize (wr.alloc (.cells #[.int .i64 x.1.act, .int .i64 x.1.i, .int .i64 x.1.j, .int .i64 x.1.x, .slice Ab x.1.b.length cb] 42)).drew = W2 at *
          refine pure_ (i := 0) (N := (some 160)) (v := ?_) (a' := ?_) #[true, false, false, false, false, false, false, false, false, false] rfl rfl (by kernel_rfl) (fun _ _ _ h => h) (Or.inl ⟨by rfl, ?_⟩) ?_ ?_
          rotate_left
          · intro w'
            go_simp
            with_reducible rfl
          rotate_left
          · simp only [Act.put, List.setIfInBounds_toArray, List.set_cons_zero, List.set_cons_succ, i64_w, i32_w]
            rfl
          refine pure_ (i := 1) (N := (some 161)) (v := ?_) (a' := ?_) #[true, true, false, false, false, false, false, false, false, false] rfl rfl (by kernel_rfl) (fun _ _ _ h => h) (Or.inl ⟨by rfl, ?_⟩) ?_ ?_
          rotate_left
          · intro w'
            go_simp
            with_reducible rfl
          rotate_left
          · simp only [Act.put, List.setIfInBounds_toArray, List.set_cons_zero, List.set_cons_succ, i64_w, i32_w]
            rfl
          refine pure_ (i := 4) (N := (some 164)) (v := ?_) (a' := ?_) #[true, true, false, false, true, false, false, false, false, false] rfl rfl (by kernel_rfl) (fun _ _ _ h => h) (Or.inl ⟨by rfl, ?_⟩) ?_ ?_
          rotate_left
          · intro w'
            go_simp
            with_reducible rfl
          rotate_left
          · simp only [Act.put, List.setIfInBounds_toArray, List.set_cons_zero, List.set_cons_succ, i64_w, i32_w]
            rfl
          refine pure_ (i := 5) (N := (some 165)) (v := ?_) (a' := ?_) #[true, true, false, false, true, true, false, false, false, false] rfl rfl (by kernel_rfl) (fun _ _ _ h => h) (Or.inl ⟨by rfl, ?_⟩) ?_ ?_
          rotate_left
          · intro w'
            go_simp
            with_reducible rfl
          rotate_left
          · simp only [Act.put, List.setIfInBounds_toArray, List.set_cons_zero, List.set_cons_succ, i64_w, i32_w]
            rfl
          refine take_ (i := 2) (N := (some 162)) (v := ?_) (a' := ?_) #[true, true, true, false, true, true, false, false, false, false] rfl rfl (by kernel_rfl) (fun _ _ _ h => h) (Or.inl ⟨by rfl, ?_⟩) hHeld ?_ ?_
          rotate_left
          · rintro w' s0
            go_simp
            with_reducible rfl
          rotate_left
          · simp only [Act.put, List.setIfInBounds_toArray, List.set_cons_zero, List.set_cons_succ, i64_w, i32_w]
            rfl
          refine take_ (i := 6) (N := (some 166)) (v := ?_) (a' := ?_) #[true, true, true, false, true, true, true, false, false, false] rfl rfl (by kernel_rfl) (fun _ _ _ h => h) (Or.inl ⟨by rfl, ?_⟩) hHeld ?_ ?_
          rotate_left
          · rintro w' s0
            go_simp
            with_reducible rfl
          rotate_left
          · simp only [Act.put, List.setIfInBounds_toArray, List.set_cons_zero, List.set_cons_succ, i64_w, i32_w]
            rfl
          refine one_ (i := 3) (N := (some 163)) #[true, true, true, true, true, true, true, false, false, false] rfl rfl (by kernel_rfl) (by decide) (fun K hK => ?_)
          refine goes_ Try.func16 (by kernel_rfl) rfl #[.pointer (some ⟨p, 0, none⟩), .int .i64 x.1.i] (by rfl) rfl rfl (by (try simp only [List.map_toArray, List.map_cons, List.map_nil]); first | done | rfl) ?_
          refine (PDouble HPD.out (by have := HMid.out.room; have := HM2.out; omega) HMid.out.room (fun y hy => Nat.le_trans (HMid.out.short y hy) (by decide)) x.1.i).mono ?_
          rintro e w3 ⟨rfl, hp3, hk3⟩
          have hac3 := kept_blk HAD.out hk3 (Nat.lt_irrefl _)
          refine ⟨_, rfl, ?_⟩
          refine hK.out _ _ (blk_cell hac3 1) (fun hHeld => ?_)
          clear hK K
          refine norm_ (a' := ?_) ?_ ?_
          rotate_left
          · show Act.put _ (some 163) _ = _
            simp only [Act.put, List.setIfInBounds_toArray, List.set_cons_zero, List.set_cons_succ, i64_w, i32_w]
            rfl
          refine one_ (i := 7) (N := (some 167)) #[true, true, true, true, true, true, true, true, false, false] rfl rfl (by kernel_rfl) (by decide) (fun K hK => ?_)
          refine goes_ Try.func26 (by kernel_rfl) rfl #[.pointer (some ⟨q, 0, none⟩), .int .i64 x.1.i] (by rfl) rfl rfl (by (try simp only [List.map_toArray, List.map_cons, List.map_nil]); first | done | rfl) ?_
          refine (PRDouble hp3 (by have := HMid.out.room; have := HM2.out; omega) x.1.i).mono ?_
          rintro e w4 ⟨rfl, hp4, hk4⟩
          have hac4 := kept_blk hac3 hk4 (by omega)
          obtain ⟨N2, L2, HT, HN2⟩ : ∃ N2 L2, Aside0 (Mid w w4 p q a0 N2 L2) ∧ Aside0 (N2 ≤ ((k + 1 : Nat) : Int)) := ⟨N, _, ⟨mid_dbl HMid.out hp4⟩, ⟨by have := HNk.out; omega⟩⟩
          clear hp4 hp3 hk3 hk4
          refine ⟨_, rfl, ?_⟩
          refine hK.out _ _ (blk_cell hac4 1) (fun hHeld => ?_)
          clear hK K
          refine norm_ (a' := ?_) ?_ ?_
          rotate_left
          · show Act.put _ (some 167) _ = _
            simp only [Act.put, List.setIfInBounds_toArray, List.set_cons_zero, List.set_cons_succ, i64_w, i32_w]
            rfl
          refine pure_ (i := 8) (N := (some 168)) (v := ?_) (a' := ?_) #[true, true, true, true, true, true, true, true, true, false] rfl rfl (by kernel_rfl) (fun _ _ _ h => h) (Or.inl ⟨by rfl, ?_⟩) ?_ ?_
          rotate_left
          · intro w'
            go_simp
            with_reducible rfl
          rotate_left
          · simp only [Act.put, List.setIfInBounds_toArray, List.set_cons_zero, List.set_cons_succ, i64_w, i32_w]
            rfl
          refine pure_ (i := 9) (N := (some 11)) (v := ?_) (a' := ?_) #[true, true, true, true, true, true, true, true, true, true] rfl rfl (by kernel_rfl) (fun _ _ _ h => h) (Or.inl ⟨by rfl, ?_⟩) ?_ ?_
          rotate_left
          · intro w'
            go_simp
            with_reducible rfl
          rotate_left
          · simp only [Act.put, List.setIfInBounds_toArray, List.set_cons_zero, List.set_cons_succ, i64_w, i32_w]
            rfl
          refine done_ (by kernel_rfl) ?_
          clear hac3 hac4
          go_wp2_with (first | (go_at_call 28; refine (PList HT.out.pair (by have := HT.out.room; have := HM2.out; omega) (fun y hy => Nat.le_trans (HT.out.short y hy) (by decide))).mono ?_; rintro e w7 ⟨A7, c7, m, rfl, hm7, hg7, hb7⟩; have HM7 := Aside0.mk hm7; have HG7 := Aside0.mk hg7; have HB7 := Aside0.mk hb7; have hlm : m.length = L2.length := (by have := congrArg List.length hm7; simpa using this); have HLM := Aside0.mk hlm; clear hm7 hg7 hb7 hlm))
          have HP7 : Aside0 (PairAt w w7.drew p q a0 N2 L2 N2 L2 _) := ⟨(HT.out.pair.later HB7.out).later (Below.refl _ _).drew⟩
          have HB8 := Aside0.mk (HB7.out.drew)
          have HG8 := Aside0.mk (HG7.out.below (Below.refl _ _).drew)
          have HSm : Aside0 (∀ y ∈ m, y.1.frame.length ≤ 200000) := ⟨fun y hy => Nat.le_trans (HT.out.short y.1 (HM7.out ▸ List.mem_map_of_mem hy)) (by decide)⟩
          obtain ⟨Ar, cr, hq0, hrd⟩ := PRef HP7.out (fun y hy => Nat.le_trans (HT.out.short y hy) (by decide))
          obtain ⟨rl, hrl, hgr⟩ := hrd _ (Below.refl _ _)
          have HRL := Aside0.mk hgr
          have HEq : Aside0 (m.map Prod.fst = rl.map Prod.fst) := ⟨HM7.out.trans hrl.symm⟩
          have HLn : Aside0 (m.length ≤ 100000) := ⟨by have := HLM.out; have := HT.out.room; have := HM2.out; omega⟩
          have HLr : Aside0 (rl.length = L2.length) := ⟨by have := congrArg List.length hrl; simpa using this⟩
          clear hrd hrl hgr HB7 HG7
          refine start_ (n := 21) (S := fun w' => w'.cell? ⟨q, 0, none⟩ = some (.slice Ar L2.length cr)) (ds := []) #[false, false, false, false, false, false, false, false, false, false, false, false, false, false, false, false, false, false, false, false, false] (by kernel_rfl) rfl rfl hq0 (fun hHeld => ?_)
          clear hq0
          generalize w7.drew = W7 at *
          refine pure_ (i := 0) (N := (some 190)) (v := ?_) (a' := ?_) #[true, false, false, false, false, false, false, false, false, false, false, false, false, false, false, false, false, false, false, false, false] rfl rfl (by kernel_rfl) (fun _ _ _ h => h) (Or.inl ⟨by rfl, ?_⟩) ?_ ?_
          rotate_left
          · intro w'
            go_simp
            with_reducible rfl
          rotate_left
          · simp only [Act.put, List.setIfInBounds_toArray, List.set_cons_zero, List.set_cons_succ, i64_w, i32_w]
            rfl
          refine pure_ (i := 1) (N := (some 191)) (v := ?_) (a' := ?_) #[true, true, false, false, false, false, false, false, false, false, false, false, false, false, false, false, false, false, false, false, false] rfl rfl (by kernel_rfl) (fun _ _ _ h => h) (Or.inl ⟨by rfl, ?_⟩) ?_ ?_
          rotate_left
          · intro w'
            go_simp
            with_reducible rfl
          rotate_left
          · simp only [Act.put, List.setIfInBounds_toArray, List.set_cons_zero, List.set_cons_succ, i64_w, i32_w]
            rfl
          refine pure_ (i := 2) (N := (some 192)) (v := ?_) (a' := ?_) #[true, true, true, false, false, false, false, false, false, false, false, false, false, false, false, false, false, false, false, false, false] rfl rfl (by kernel_rfl) (fun _ _ _ h => h) (Or.inl ⟨by rfl, ?_⟩) ?_ ?_
          rotate_left
          · intro w'
            go_simp
            with_reducible rfl
          rotate_left
          · simp only [Act.put, List.setIfInBounds_toArray, List.set_cons_zero, List.set_cons_succ, i64_w, i32_w]
            rfl
          refine pure_ (i := 3) (N := (some 193)) (v := ?_) (a' := ?_) #[true, true, true, true, false, false, false, false, false, false, false, false, false, false, false, false, false, false, false, false, false] rfl rfl (by kernel_rfl) (fun _ _ _ h => h) (Or.inl ⟨by rfl, ?_⟩) ?_ ?_
          rotate_left
          · intro w'
            go_simp
            with_reducible rfl
          rotate_left
          · simp only [Act.put, List.setIfInBounds_toArray, List.set_cons_zero, List.set_cons_succ, i64_w, i32_w]
            rfl
          refine pure_ (i := 5) (N := (some 195)) (v := ?_) (a' := ?_) #[true, true, true, true, false, true, false, false, false, false, false, false, false, false, false, false, false, false, false, false, false] rfl rfl (by kernel_rfl) (fun _ _ _ h => h) (Or.inl ⟨by rfl, ?_⟩) ?_ ?_
          rotate_left
          · intro w'
            go_simp
            with_reducible rfl
          rotate_left
          · simp only [Act.put, List.setIfInBounds_toArray, List.set_cons_zero, List.set_cons_succ, i64_w, i32_w]
            rfl
          refine pure_ (i := 6) (N := (some 196)) (v := ?_) (a' := ?_) #[true, true, true, true, false, true, true, false, false, false, false, false, false, false, false, false, false, false, false, false, false] rfl rfl (by kernel_rfl) (fun _ _ _ h => h) (Or.inl ⟨by rfl, ?_⟩) ?_ ?_
          rotate_left
          · intro w'
            go_simp
            with_reducible rfl
          rotate_left
          · simp only [Act.put, List.setIfInBounds_toArray, List.set_cons_zero, List.set_cons_succ, i64_w, i32_w]
            rfl
          refine pure_ (i := 7) (N := (some 197)) (v := ?_) (a' := ?_) #[true, true, true, true, false, true, true, true, false, false, false, false, false, false, false, false, false, false, false, false, false] rfl rfl (by kernel_rfl) (fun _ _ _ h => h) (Or.inl ⟨by rfl, ?_⟩) ?_ ?_
          rotate_left
          · intro w'
            go_simp
            with_reducible rfl
          rotate_left
          · simp only [Act.put, List.setIfInBounds_toArray, List.set_cons_zero, List.set_cons_succ, i64_w, i32_w]
            rfl
          refine take_ (i := 8) (N := (some 198)) (v := ?_) (a' := ?_) #[true, true, true, true, false, true, true, true, true, false, false, false, false, false, false, false, false, false, false, false, false] rfl rfl (by kernel_rfl) (fun _ _ _ h => h) (Or.inl ⟨by rfl, ?_⟩) hHeld ?_ ?_
          rotate_left
          · rintro w' s0
            go_simp
            with_reducible rfl
          rotate_left
          · simp only [Act.put, List.setIfInBounds_toArray, List.set_cons_zero, List.set_cons_succ, i64_w, i32_w]
            rfl
          refine pure_ (i := 9) (N := (some 199)) (v := ?_) (a' := ?_) #[true, true, true, true, false, true, true, true, true, true, false, false, false, false, false, false, false, false, false, false, false] rfl rfl (by kernel_rfl) (fun _ _ _ h => h) (Or.inl ⟨by rfl, ?_⟩) ?_ ?_
          rotate_left
          · intro w'
            go_simp
            with_reducible rfl
          rotate_left
          · simp only [Act.put, List.setIfInBounds_toArray, List.set_cons_zero, List.set_cons_succ, i64_w, i32_w]
            rfl
          refine one_ (i := 4) (N := (some 194)) #[true, true, true, true, true, true, true, true, true, true, false, false, false, false, false, false, false, false, false, false, false] rfl rfl (by kernel_rfl) (by decide) (fun K hK => ?_)
          refine goes_ Try.func12 (by kernel_rfl) rfl #[.pointer (some ⟨p, 0, none⟩)] (by rfl) rfl rfl (by (try simp only [List.map_toArray, List.map_cons, List.map_nil]); first | done | rfl) ?_
          refine (PLen HP7.out).mono ?_
          rintro e w9 ⟨rfl, rfl⟩
          refine ⟨_, rfl, ?_⟩
          refine hK.out _ _ hHeld (fun hHeld => ?_)
          clear hK K
          refine norm_ (a' := ?_) ?_ ?_
          rotate_left
          · show Act.put _ (some 194) _ = _
            simp only [Act.put, List.setIfInBounds_toArray, List.set_cons_zero, List.set_cons_succ, i64_w, i32_w]
            rfl
          refine pure_ (i := 10) (N := (some 200)) (v := ?_) (a' := ?_) #[true, true, true, true, true, true, true, true, true, true, true, false, false, false, false, false, false, false, false, false, false] rfl rfl (by kernel_rfl) (fun _ _ _ h => h) (Or.inl ⟨by rfl, ?_⟩) ?_ ?_
          rotate_left
          · intro w'
            go_simp
            with_reducible rfl
          rotate_left
          · simp only [Act.put, List.setIfInBounds_toArray, List.set_cons_zero, List.set_cons_succ, i64_w, i32_w]
            rfl
          refine pure_ (i := 11) (N := (some 201)) (v := ?_) (a' := ?_) #[true, true, true, true, true, true, true, true, true, true, true, true, false, false, false, false, false, false, false, false, false] rfl rfl (by kernel_rfl) (fun _ _ _ h => h) (Or.inl ⟨by rfl, ?_⟩) ?_ ?_
          rotate_left
          · intro w'
            go_simp
            with_reducible rfl
          rotate_left
          · simp only [Act.put, List.setIfInBounds_toArray, List.set_cons_zero, List.set_cons_succ, i64_w, i32_w]
            rfl
          refine pure_ (i := 12) (N := (some 202)) (v := ?_) (a' := ?_) #[true, true, true, true, true, true, true, true, true, true, true, true, true, false, false, false, false, false, false, false, false] rfl rfl (by kernel_rfl) (fun _ _ _ h => h) (Or.inl ⟨by rfl, ?_⟩) ?_ ?_
          rotate_left
          · intro w'
            go_simp
            with_reducible rfl
          rotate_left
          · simp only [Act.put, List.setIfInBounds_toArray, List.set_cons_zero, List.set_cons_succ, i64_w, i32_w]
            rfl
          refine pure_ (i := 13) (N := (some 203)) (v := ?_) (a' := ?_) #[true, true, true, true, true, true, true, true, true, true, true, true, true, true, false, false, false, false, false, false, false] rfl rfl (by kernel_rfl) (fun _ _ _ h => h) (Or.inl ⟨by rfl, ?_⟩) ?_ ?_
          rotate_left
          · intro w'
            go_simp
            with_reducible rfl
          rotate_left
          · simp only [Act.put, List.setIfInBounds_toArray, List.set_cons_zero, List.set_cons_succ, i64_w, i32_w]
            rfl
          refine pure_ (i := 14) (N := (some 204)) (v := ?_) (a' := ?_) #[true, true, true, true, true, true, true, true, true, true, true, true, true, true, true, false, false, false, false, false, false] rfl rfl (by kernel_rfl) (fun _ _ _ h => h) (Or.inl ⟨by rfl, ?_⟩) ?_ ?_
          rotate_left
          · intro w'
            go_simp
            with_reducible rfl
          rotate_left
          · simp only [Act.put, List.setIfInBounds_toArray, List.set_cons_zero, List.set_cons_succ, i64_w, i32_w]
            rfl
          refine pure_ (i := 15) (N := (some 205)) (v := ?_) (a' := ?_) #[true, true, true, true, true, true, true, true, true, true, true, true, true, true, true, true, false, false, false, false, false] rfl rfl (by kernel_rfl) (fun _ _ _ h => h) (Or.inl ⟨by rfl, ?_⟩) ?_ ?_
          rotate_left
          · intro w'
            go_simp
            with_reducible rfl
          rotate_left
          · simp only [Act.put, List.setIfInBounds_toArray, List.set_cons_zero, List.set_cons_succ, i64_w, i32_w]
            rfl
          refine pure_ (i := 16) (N := (some 206)) (v := ?_) (a' := ?_) #[true, true, true, true, true, true, true, true, true, true, true, true, true, true, true, true, true, false, false, false, false] rfl rfl (by kernel_rfl) (fun _ _ _ h => h) (Or.inl ⟨by rfl, ?_⟩) ?_ ?_
          rotate_left
          · intro w'
            go_simp
            with_reducible rfl
          rotate_left
          · simp only [Act.put, List.setIfInBounds_toArray, List.set_cons_zero, List.set_cons_succ, i64_w, i32_w]
            rfl
          refine take_ (i := 17) (N := (some 207)) (v := ?_) (a' := ?_) #[true, true, true, true, true, true, true, true, true, true, true, true, true, true, true, true, true, true, false, false, false] rfl rfl (by kernel_rfl) (fun _ _ _ h => h) (Or.inl ⟨by rfl, ?_⟩) hHeld ?_ ?_
          rotate_left
          · rintro w' s0
            go_simp
            with_reducible rfl
          rotate_left
          · simp only [Act.put, List.setIfInBounds_toArray, List.set_cons_zero, List.set_cons_succ, i64_w, i32_w]
            rfl
          refine one_ (i := 18) (N := (some 208)) #[true, true, true, true, true, true, true, true, true, true, true, true, true, true, true, true, true, true, true, false, false] rfl rfl (by kernel_rfl) (by decide) (fun K hK => ?_)
          refine goes_ Try.func25 (by kernel_rfl) rfl #[.slice A7 m.length c7, .slice Ar L2.length cr] (by rfl) rfl rfl (by (try simp only [List.map_toArray, List.map_cons, List.map_nil]); first | done | rfl) ?_
          refine (SameGrams.two A7 Ar c7 cr m rl L2.length _ (GramsAt.of HG8.out HSm.out) HRL.out HEq.out HLn.out HLr.out).mono ?_
          rintro e w9 ⟨rfl, ⟨ndd, rfl⟩⟩
          refine ⟨_, rfl, ?_⟩
          refine hK.out _ _ hHeld (fun hHeld => ?_)
          clear hK K
          refine norm_ (a' := ?_) ?_ ?_
          rotate_left
          · show Act.put _ (some 208) _ = _
            simp only [Act.put, List.setIfInBounds_toArray, List.set_cons_zero, List.set_cons_succ, i64_w, i32_w]
            rfl
          refine pure_ (i := 19) (N := (some 209)) (v := ?_) (a' := ?_) #[true, true, true, true, true, true, true, true, true, true, true, true, true, true, true, true, true, true, true, true, false] rfl rfl (by kernel_rfl) (fun _ _ _ h => h) (Or.inl ⟨by rfl, ?_⟩) ?_ ?_
          rotate_left
          · intro w'
            go_simp
            with_reducible rfl
          rotate_left
          · simp only [Act.put, List.setIfInBounds_toArray, List.set_cons_zero, List.set_cons_succ, i64_w, i32_w]
            rfl
          refine pure_ (i := 20) (N := (some 210)) (v := ?_) (a' := ?_) #[true, true, true, true, true, true, true, true, true, true, true, true, true, true, true, true, true, true, true, true, true] rfl rfl (by kernel_rfl) (fun _ _ _ h => h) (Or.inl ⟨by rfl, ?_⟩) ?_ ?_
          rotate_left
          · intro w'
            go_simp
            with_reducible rfl
          rotate_left
          · simp only [Act.put, List.setIfInBounds_toArray, List.set_cons_zero, List.set_cons_succ, i64_w, i32_w]
            rfl
          refine done_ (by kernel_rfl) ?_
          go_wp2_with (first | (go_at_call 29; refine (OverGrams.calls w _ (.slice A7 m.length c7) m (pw_below_drewN HP7.out.below _) ((HG8.out.below (pw_below_drewN (Below.refl _ _) _)).weaken HT.out.pair.below.size) HLn.out (fun y hy => Nat.le_trans (HT.out.short y.1 (HM7.out ▸ List.mem_map_of_mem hy)) (by decide))).mono ?_; rintro e w10 ⟨rfl, hb10, hk10⟩; have HK2 := Aside0.mk (Mid.over HT.out (pw_below_drewN HB8.out _) HG8.out.foot hk10 hb10 HN2.out); clear hb10 hk10))
          go_roundw
          case rel => exact ⟨k + 1, by omega, by go_num, HK2⟩
          case measure => simp [intOf]; omega

          -- END d3
        have e3 : (x.1.act == 3) = false := beq_eq_false_iff_ne.2 (by omega)
        by_cases d4 : x.1.act = 4
        · have e4 : (x.1.act == 4) = true := beq_iff_eq.2 d4
          clear d0 d1 d2 d3 d4
          -- CASE d4
          have HPD : Aside0 (PairAt w (wr.alloc (.cells #[.int .i64 x.1.act, .int .i64 x.1.i, .int .i64 x.1.j, .int .i64 x.1.x, .slice Ab x.1.b.length cb] 42)).drew p q a0 N L N L (fun k => k < wr.heap.size)) := ⟨HPA.out.later (Below.refl _ _).drew⟩
          have HAD : Aside0 ((wr.alloc (.cells #[.int .i64 x.1.act, .int .i64 x.1.i, .int .i64 x.1.j, .int .i64 x.1.x, .slice Ab x.1.b.length cb] 42)).drew.heap[wr.heap.size]? = some (.cells #[.int .i64 x.1.act, .int .i64 x.1.i, .int .i64 x.1.j, .int .i64 x.1.x, .slice Ab x.1.b.length cb] 42 (0, 0))) := ⟨HAC.out⟩
          have hqw := pair_q HMid.out.pair
          have hS0 : (wr.alloc (.cells #[.int .i64 x.1.act, .int .i64 x.1.i, .int .i64 x.1.j, .int .i64 x.1.x, .slice Ab x.1.b.length cb] 42)).drew.cell? ⟨wr.heap.size, 1, none⟩ = some (.int .i64 x.1.i) ∧ (wr.alloc (.cells #[.int .i64 x.1.act, .int .i64 x.1.i, .int .i64 x.1.j, .int .i64 x.1.x, .slice Ab x.1.b.length cb] 42)).drew.cell? ⟨wr.heap.size, 2, none⟩ = some (.int .i64 x.1.j) ∧ (wr.alloc (.cells #[.int .i64 x.1.act, .int .i64 x.1.i, .int .i64 x.1.j, .int .i64 x.1.x, .slice Ab x.1.b.length cb] 42)).drew.cell? ⟨wr.heap.size, 3, none⟩ = some (.int .i64 x.1.x) := ⟨blk_cell HAD.out 1, blk_cell HAD.out 2, blk_cell HAD.out 3⟩
          go_wp2_with fail
          refine start_ (n := 18) (S := fun w' => w'.cell? ⟨wr.heap.size, 1, none⟩ = some (.int .i64 x.1.i) ∧ w'.cell? ⟨wr.heap.size, 2, none⟩ = some (.int .i64 x.1.j) ∧ w'.cell? ⟨wr.heap.size, 3, none⟩ = some (.int .i64 x.1.x)) (ds := []) #[false, false, false, false, false, false, false, false, false, false, false, false, false, false, false, false, false, false] (by kernel_rfl) rfl rfl hS0 (fun hHeld => ?_)
          clear hS0
          generalize (wr.alloc (.cells #[.int .i64 x.1.act, .int .i64 x.1.i, .int .i64 x.1.j, .int .i64 x.1.x, .slice Ab x.1.b.length cb] 42)).drew = W2 at *
          refine pure_ (i := 0) (N := (some 171)) (v := ?_) (a' := ?_) #[true, false, false, false, false, false, false, false, false, false, false, false, false, false, false, false, false, false] rfl rfl (by kernel_rfl) (fun _ _ _ h => h) (Or.inl ⟨by rfl, ?_⟩) ?_ ?_
          rotate_left
          · intro w'
            go_simp
            with_reducible rfl
          rotate_left
          · simp only [Act.put, List.setIfInBounds_toArray, List.set_cons_zero, List.set_cons_succ, i64_w, i32_w]
            rfl
          refine pure_ (i := 1) (N := (some 172)) (v := ?_) (a' := ?_) #[true, true, false, false, false, false, false, false, false, false, false, false, false, false, false, false, false, false] rfl rfl (by kernel_rfl) (fun _ _ _ h => h) (Or.inl ⟨by rfl, ?_⟩) ?_ ?_
          rotate_left
          · intro w'
            go_simp
            with_reducible rfl
          rotate_left
          · simp only [Act.put, List.setIfInBounds_toArray, List.set_cons_zero, List.set_cons_succ, i64_w, i32_w]
            rfl
          refine pure_ (i := 3) (N := (some 174)) (v := ?_) (a' := ?_) #[true, true, false, true, false, false, false, false, false, false, false, false, false, false, false, false, false, false] rfl rfl (by kernel_rfl) (fun _ _ _ h => h) (Or.inl ⟨by rfl, ?_⟩) ?_ ?_
          rotate_left
          · intro w'
            go_simp
            with_reducible rfl
          rotate_left
          · simp only [Act.put, List.setIfInBounds_toArray, List.set_cons_zero, List.set_cons_succ, i64_w, i32_w]
            rfl
          refine pure_ (i := 5) (N := (some 176)) (v := ?_) (a' := ?_) #[true, true, false, true, false, true, false, false, false, false, false, false, false, false, false, false, false, false] rfl rfl (by kernel_rfl) (fun _ _ _ h => h) (Or.inl ⟨by rfl, ?_⟩) ?_ ?_
          rotate_left
          · intro w'
            go_simp
            with_reducible rfl
          rotate_left
          · simp only [Act.put, List.setIfInBounds_toArray, List.set_cons_zero, List.set_cons_succ, i64_w, i32_w]
            rfl
          refine pure_ (i := 8) (N := (some 179)) (v := ?_) (a' := ?_) #[true, true, false, true, false, true, false, false, true, false, false, false, false, false, false, false, false, false] rfl rfl (by kernel_rfl) (fun _ _ _ h => h) (Or.inl ⟨by rfl, ?_⟩) ?_ ?_
          rotate_left
          · intro w'
            go_simp
            with_reducible rfl
          rotate_left
          · simp only [Act.put, List.setIfInBounds_toArray, List.set_cons_zero, List.set_cons_succ, i64_w, i32_w]
            rfl
          refine pure_ (i := 9) (N := (some 180)) (v := ?_) (a' := ?_) #[true, true, false, true, false, true, false, false, true, true, false, false, false, false, false, false, false, false] rfl rfl (by kernel_rfl) (fun _ _ _ h => h) (Or.inl ⟨by rfl, ?_⟩) ?_ ?_
          rotate_left
          · intro w'
            go_simp
            with_reducible rfl
          rotate_left
          · simp only [Act.put, List.setIfInBounds_toArray, List.set_cons_zero, List.set_cons_succ, i64_w, i32_w]
            rfl
          refine pure_ (i := 11) (N := (some 182)) (v := ?_) (a' := ?_) #[true, true, false, true, false, true, false, false, true, true, false, true, false, false, false, false, false, false] rfl rfl (by kernel_rfl) (fun _ _ _ h => h) (Or.inl ⟨by rfl, ?_⟩) ?_ ?_
          rotate_left
          · intro w'
            go_simp
            with_reducible rfl
          rotate_left
          · simp only [Act.put, List.setIfInBounds_toArray, List.set_cons_zero, List.set_cons_succ, i64_w, i32_w]
            rfl
          refine pure_ (i := 13) (N := (some 184)) (v := ?_) (a' := ?_) #[true, true, false, true, false, true, false, false, true, true, false, true, false, true, false, false, false, false] rfl rfl (by kernel_rfl) (fun _ _ _ h => h) (Or.inl ⟨by rfl, ?_⟩) ?_ ?_
          rotate_left
          · intro w'
            go_simp
            with_reducible rfl
          rotate_left
          · simp only [Act.put, List.setIfInBounds_toArray, List.set_cons_zero, List.set_cons_succ, i64_w, i32_w]
            rfl
          refine take_ (i := 2) (N := (some 173)) (v := ?_) (a' := ?_) #[true, true, true, true, false, true, false, false, true, true, false, true, false, true, false, false, false, false] rfl rfl (by kernel_rfl) (fun _ _ _ h => h) (Or.inl ⟨by rfl, ?_⟩) hHeld ?_ ?_
          rotate_left
          · rintro w' ⟨s0, s1, s2⟩
            go_simp
            with_reducible rfl
          rotate_left
          · simp only [Act.put, List.setIfInBounds_toArray, List.set_cons_zero, List.set_cons_succ, i64_w, i32_w]
            rfl
          refine take_ (i := 4) (N := (some 175)) (v := ?_) (a' := ?_) #[true, true, true, true, true, true, false, false, true, true, false, true, false, true, false, false, false, false] rfl rfl (by kernel_rfl) (fun _ _ _ h => h) (Or.inl ⟨by rfl, ?_⟩) hHeld ?_ ?_
          rotate_left
          · rintro w' ⟨s0, s1, s2⟩
            go_simp
            with_reducible rfl
          rotate_left
          · simp only [Act.put, List.setIfInBounds_toArray, List.set_cons_zero, List.set_cons_succ, i64_w, i32_w]
            rfl
          refine take_ (i := 6) (N := (some 177)) (v := ?_) (a' := ?_) #[true, true, true, true, true, true, true, false, true, true, false, true, false, true, false, false, false, false] rfl rfl (by kernel_rfl) (fun _ _ _ h => h) (Or.inl ⟨by rfl, ?_⟩) hHeld ?_ ?_
          rotate_left
          · rintro w' ⟨s0, s1, s2⟩
            go_simp
            with_reducible rfl
          rotate_left
          · simp only [Act.put, List.setIfInBounds_toArray, List.set_cons_zero, List.set_cons_succ, i64_w, i32_w]
            rfl
          refine take_ (i := 10) (N := (some 181)) (v := ?_) (a' := ?_) #[true, true, true, true, true, true, true, false, true, true, true, true, false, true, false, false, false, false] rfl rfl (by kernel_rfl) (fun _ _ _ h => h) (Or.inl ⟨by rfl, ?_⟩) hHeld ?_ ?_
          rotate_left
          · rintro w' ⟨s0, s1, s2⟩
            go_simp
            with_reducible rfl
          rotate_left
          · simp only [Act.put, List.setIfInBounds_toArray, List.set_cons_zero, List.set_cons_succ, i64_w, i32_w]
            rfl
          refine take_ (i := 12) (N := (some 183)) (v := ?_) (a' := ?_) #[true, true, true, true, true, true, true, false, true, true, true, true, true, true, false, false, false, false] rfl rfl (by kernel_rfl) (fun _ _ _ h => h) (Or.inl ⟨by rfl, ?_⟩) hHeld ?_ ?_
          rotate_left
          · rintro w' ⟨s0, s1, s2⟩
            go_simp
            with_reducible rfl
          rotate_left
          · simp only [Act.put, List.setIfInBounds_toArray, List.set_cons_zero, List.set_cons_succ, i64_w, i32_w]
            rfl
          refine take_ (i := 14) (N := (some 185)) (v := ?_) (a' := ?_) #[true, true, true, true, true, true, true, false, true, true, true, true, true, true, true, false, false, false] rfl rfl (by kernel_rfl) (fun _ _ _ h => h) (Or.inl ⟨by rfl, ?_⟩) hHeld ?_ ?_
          rotate_left
          · rintro w' ⟨s0, s1, s2⟩
            go_simp
            with_reducible rfl
          rotate_left
          · simp only [Act.put, List.setIfInBounds_toArray, List.set_cons_zero, List.set_cons_succ, i64_w, i32_w]
            rfl
          refine one_ (i := 7) (N := (some 178)) #[true, true, true, true, true, true, true, true, true, true, true, true, true, true, true, false, false, false] rfl rfl (by kernel_rfl) (by decide) (fun K hK => ?_)
          refine goes_ Try.func17 (by kernel_rfl) rfl #[.pointer (some ⟨p, 0, none⟩), .int .i64 x.1.i, .int .i64 x.1.j, .int .i64 x.1.x] (by rfl) rfl rfl (by (try simp only [List.map_toArray, List.map_cons, List.map_nil]); first | done | rfl) ?_
          refine (PSpoil HPD.out (fun y hy => Nat.le_trans (HMid.out.short y hy) (by decide)) x.1.i x.1.j x.1.x).mono ?_
          rintro e w3 ⟨rfl, hp3, hk3⟩
          have hac3 := kept_blk HAD.out hk3 (Nat.lt_irrefl _)
          refine ⟨_, rfl, ?_⟩
          refine hK.out _ _ ⟨blk_cell hac3 1, blk_cell hac3 2, blk_cell hac3 3⟩ (fun hHeld => ?_)
          clear hK K
          refine norm_ (a' := ?_) ?_ ?_
          rotate_left
          · show Act.put _ (some 178) _ = _
            simp only [Act.put, List.setIfInBounds_toArray, List.set_cons_zero, List.set_cons_succ, i64_w, i32_w]
            rfl
          refine one_ (i := 15) (N := (some 186)) #[true, true, true, true, true, true, true, true, true, true, true, true, true, true, true, true, false, false] rfl rfl (by kernel_rfl) (by decide) (fun K hK => ?_)
          refine goes_ Try.func27 (by kernel_rfl) rfl #[.pointer (some ⟨q, 0, none⟩), .int .i64 x.1.i, .int .i64 x.1.j, .int .i64 x.1.x] (by rfl) rfl rfl (by (try simp only [List.map_toArray, List.map_cons, List.map_nil]); first | done | rfl) ?_
          refine (PRSpoil hp3 (by have := HMid.out.room; have := HM2.out; omega) (fun y hy => Nat.le_trans (HMid.out.short y hy) (by decide)) x.1.i x.1.j x.1.x).mono ?_
          rintro e w4 ⟨rfl, hp4, hk4⟩
          have hac4 := kept_blk hac3 hk4 (by omega)
          obtain ⟨N2, L2, HT, HN2⟩ : ∃ N2 L2, Aside0 (Mid w w4 p q a0 N2 L2) ∧ Aside0 (N2 ≤ ((k + 1 : Nat) : Int)) := ⟨N, _, ⟨mid_spo HMid.out hp4⟩, ⟨by have := HNk.out; omega⟩⟩
          clear hp4 hp3 hk3 hk4
          refine ⟨_, rfl, ?_⟩
          refine hK.out _ _ ⟨blk_cell hac4 1, blk_cell hac4 2, blk_cell hac4 3⟩ (fun hHeld => ?_)
          clear hK K
          refine norm_ (a' := ?_) ?_ ?_
          rotate_left
          · show Act.put _ (some 186) _ = _
            simp only [Act.put, List.setIfInBounds_toArray, List.set_cons_zero, List.set_cons_succ, i64_w, i32_w]
            rfl
          refine pure_ (i := 16) (N := (some 187)) (v := ?_) (a' := ?_) #[true, true, true, true, true, true, true, true, true, true, true, true, true, true, true, true, true, false] rfl rfl (by kernel_rfl) (fun _ _ _ h => h) (Or.inl ⟨by rfl, ?_⟩) ?_ ?_
          rotate_left
          · intro w'
            go_simp
            with_reducible rfl
          rotate_left
          · simp only [Act.put, List.setIfInBounds_toArray, List.set_cons_zero, List.set_cons_succ, i64_w, i32_w]
            rfl
          refine pure_ (i := 17) (N := (some 11)) (v := ?_) (a' := ?_) #[true, true, true, true, true, true, true, true, true, true, true, true, true, true, true, true, true, true] rfl rfl (by kernel_rfl) (fun _ _ _ h => h) (Or.inl ⟨by rfl, ?_⟩) ?_ ?_
          rotate_left
          · intro w'
            go_simp
            with_reducible rfl
          rotate_left
          · simp only [Act.put, List.setIfInBounds_toArray, List.set_cons_zero, List.set_cons_succ, i64_w, i32_w]
            rfl
          refine done_ (by kernel_rfl) ?_
          clear hac3 hac4
          go_wp2_with (first | (go_at_call 28; refine (PList HT.out.pair (by have := HT.out.room; have := HM2.out; omega) (fun y hy => Nat.le_trans (HT.out.short y hy) (by decide))).mono ?_; rintro e w7 ⟨A7, c7, m, rfl, hm7, hg7, hb7⟩; have HM7 := Aside0.mk hm7; have HG7 := Aside0.mk hg7; have HB7 := Aside0.mk hb7; have hlm : m.length = L2.length := (by have := congrArg List.length hm7; simpa using this); have HLM := Aside0.mk hlm; clear hm7 hg7 hb7 hlm))
          have HP7 : Aside0 (PairAt w w7.drew p q a0 N2 L2 N2 L2 _) := ⟨(HT.out.pair.later HB7.out).later (Below.refl _ _).drew⟩
          have HB8 := Aside0.mk (HB7.out.drew)
          have HG8 := Aside0.mk (HG7.out.below (Below.refl _ _).drew)
          have HSm : Aside0 (∀ y ∈ m, y.1.frame.length ≤ 200000) := ⟨fun y hy => Nat.le_trans (HT.out.short y.1 (HM7.out ▸ List.mem_map_of_mem hy)) (by decide)⟩
          obtain ⟨Ar, cr, hq0, hrd⟩ := PRef HP7.out (fun y hy => Nat.le_trans (HT.out.short y hy) (by decide))
          obtain ⟨rl, hrl, hgr⟩ := hrd _ (Below.refl _ _)
          have HRL := Aside0.mk hgr
          have HEq : Aside0 (m.map Prod.fst = rl.map Prod.fst) := ⟨HM7.out.trans hrl.symm⟩
          have HLn : Aside0 (m.length ≤ 100000) := ⟨by have := HLM.out; have := HT.out.room; have := HM2.out; omega⟩
          have HLr : Aside0 (rl.length = L2.length) := ⟨by have := congrArg List.length hrl; simpa using this⟩
          clear hrd hrl hgr HB7 HG7
          refine start_ (n := 21) (S := fun w' => w'.cell? ⟨q, 0, none⟩ = some (.slice Ar L2.length cr)) (ds := []) #[false, false, false, false, false, false, false, false, false, false, false, false, false, false, false, false, false, false, false, false, false] (by kernel_rfl) rfl rfl hq0 (fun hHeld => ?_)
          clear hq0
          generalize w7.drew = W7 at *
          refine pure_ (i := 0) (N := (some 190)) (v := ?_) (a' := ?_) #[true, false, false, false, false, false, false, false, false, false, false, false, false, false, false, false, false, false, false, false, false] rfl rfl (by kernel_rfl) (fun _ _ _ h => h) (Or.inl ⟨by rfl, ?_⟩) ?_ ?_
          rotate_left
          · intro w'
            go_simp
            with_reducible rfl
          rotate_left
          · simp only [Act.put, List.setIfInBounds_toArray, List.set_cons_zero, List.set_cons_succ, i64_w, i32_w]
            rfl
          refine pure_ (i := 1) (N := (some 191)) (v := ?_) (a' := ?_) #[true, true, false, false, false, false, false, false, false, false, false, false, false, false, false, false, false, false, false, false, false] rfl rfl (by kernel_rfl) (fun _ _ _ h => h) (Or.inl ⟨by rfl, ?_⟩) ?_ ?_
          rotate_left
          · intro w'
            go_simp
            with_reducible rfl
          rotate_left
          · simp only [Act.put, List.setIfInBounds_toArray, List.set_cons_zero, List.set_cons_succ, i64_w, i32_w]
            rfl
          refine pure_ (i := 2) (N := (some 192)) (v := ?_) (a' := ?_) #[true, true, true, false, false, false, false, false, false, false, false, false, false, false, false, false, false, false, false, false, false] rfl rfl (by kernel_rfl) (fun _ _ _ h => h) (Or.inl ⟨by rfl, ?_⟩) ?_ ?_
          rotate_left
          · intro w'
            go_simp
            with_reducible rfl
          rotate_left
          · simp only [Act.put, List.setIfInBounds_toArray, List.set_cons_zero, List.set_cons_succ, i64_w, i32_w]
            rfl
          refine pure_ (i := 3) (N := (some 193)) (v := ?_) (a' := ?_) #[true, true, true, true, false, false, false, false, false, false, false, false, false, false, false, false, false, false, false, false, false] rfl rfl (by kernel_rfl) (fun _ _ _ h => h) (Or.inl ⟨by rfl, ?_⟩) ?_ ?_
          rotate_left
          · intro w'
            go_simp
            with_reducible rfl
          rotate_left
          · simp only [Act.put, List.setIfInBounds_toArray, List.set_cons_zero, List.set_cons_succ, i64_w, i32_w]
            rfl
          refine pure_ (i := 5) (N := (some 195)) (v := ?_) (a' := ?_) #[true, true, true, true, false, true, false, false, false, false, false, false, false, false, false, false, false, false, false, false, false] rfl rfl (by kernel_rfl) (fun _ _ _ h => h) (Or.inl ⟨by rfl, ?_⟩) ?_ ?_
          rotate_left
          · intro w'
            go_simp
            with_reducible rfl
          rotate_left
          · simp only [Act.put, List.setIfInBounds_toArray, List.set_cons_zero, List.set_cons_succ, i64_w, i32_w]
            rfl
          refine pure_ (i := 6) (N := (some 196)) (v := ?_) (a' := ?_) #[true, true, true, true, false, true, true, false, false, false, false, false, false, false, false, false, false, false, false, false, false] rfl rfl (by kernel_rfl) (fun _ _ _ h => h) (Or.inl ⟨by rfl, ?_⟩) ?_ ?_
          rotate_left
          · intro w'
            go_simp
            with_reducible rfl
          rotate_left
          · simp only [Act.put, List.setIfInBounds_toArray, List.set_cons_zero, List.set_cons_succ, i64_w, i32_w]
            rfl
          refine pure_ (i := 7) (N := (some 197)) (v := ?_) (a' := ?_) #[true, true, true, true, false, true, true, true, false, false, false, false, false, false, false, false, false, false, false, false, false] rfl rfl (by kernel_rfl) (fun _ _ _ h => h) (Or.inl ⟨by rfl, ?_⟩) ?_ ?_
          rotate_left
          · intro w'
            go_simp
            with_reducible rfl
          rotate_left
          · simp only [Act.put, List.setIfInBounds_toArray, List.set_cons_zero, List.set_cons_succ, i64_w, i32_w]
            rfl
          refine take_ (i := 8) (N := (some 198)) (v := ?_) (a' := ?_) #[true, true, true, true, false, true, true, true, true, false, false, false, false, false, false, false, false, false, false, false, false] rfl rfl (by kernel_rfl) (fun _ _ _ h => h) (Or.inl ⟨by rfl, ?_⟩) hHeld ?_ ?_
          rotate_left
          · rintro w' s0
            go_simp
            with_reducible rfl
          rotate_left
          · simp only [Act.put, List.setIfInBounds_toArray, List.set_cons_zero, List.set_cons_succ, i64_w, i32_w]
            rfl
          refine pure_ (i := 9) (N := (some 199)) (v := ?_) (a' := ?_) #[true, true, true, true, false, true, true, true, true, true, false, false, false, false, false, false, false, false, false, false, false] rfl rfl (by kernel_rfl) (fun _ _ _ h => h) (Or.inl ⟨by rfl, ?_⟩) ?_ ?_
          rotate_left
          · intro w'
            go_simp
            with_reducible rfl
          rotate_left
          · simp only [Act.put, List.setIfInBounds_toArray, List.set_cons_zero, List.set_cons_succ, i64_w, i32_w]
            rfl
          refine one_ (i := 4) (N := (some 194)) #[true, true, true, true, true, true, true, true, true, true, false, false, false, false, false, false, false, false, false, false, false] rfl rfl (by kernel_rfl) (by decide) (fun K hK => ?_)
          refine goes_ Try.func12 (by kernel_rfl) rfl #[.pointer (some ⟨p, 0, none⟩)] (by rfl) rfl rfl (by (try simp only [List.map_toArray, List.map_cons, List.map_nil]); first | done | rfl) ?_
          refine (PLen HP7.out).mono ?_
          rintro e w9 ⟨rfl, rfl⟩
          refine ⟨_, rfl, ?_⟩
          refine hK.out _ _ hHeld (fun hHeld => ?_)
          clear hK K
          refine norm_ (a' := ?_) ?_ ?_
          rotate_left
          · show Act.put _ (some 194) _ = _
            simp only [Act.put, List.setIfInBounds_toArray, List.set_cons_zero, List.set_cons_succ, i64_w, i32_w]
            rfl
          refine pure_ (i := 10) (N := (some 200)) (v := ?_) (a' := ?_) #[true, true, true, true, true, true, true, true, true, true, true, false, false, false, false, false, false, false, false, false, false] rfl rfl (by kernel_rfl) (fun _ _ _ h => h) (Or.inl ⟨by rfl, ?_⟩) ?_ ?_
          rotate_left
          · intro w'
            go_simp
            with_reducible rfl
          rotate_left
          · simp only [Act.put, List.setIfInBounds_toArray, List.set_cons_zero, List.set_cons_succ, i64_w, i32_w]
            rfl
          refine pure_ (i := 11) (N := (some 201)) (v := ?_) (a' := ?_) #[true, true, true, true, true, true, true, true, true, true, true, true, false, false, false, false, false, false, false, false, false] rfl rfl (by kernel_rfl) (fun _ _ _ h => h) (Or.inl ⟨by rfl, ?_⟩) ?_ ?_
          rotate_left
          · intro w'
            go_simp
            with_reducible rfl
          rotate_left
          · simp only [Act.put, List.setIfInBounds_toArray, List.set_cons_zero, List.set_cons_succ, i64_w, i32_w]
            rfl
          refine pure_ (i := 12) (N := (some 202)) (v := ?_) (a' := ?_) #[true, true, true, true, true, true, true, true, true, true, true, true, true, false, false, false, false, false, false, false, false] rfl rfl (by kernel_rfl) (fun _ _ _ h => h) (Or.inl ⟨by rfl, ?_⟩) ?_ ?_
          rotate_left
          · intro w'
            go_simp
            with_reducible rfl
          rotate_left
          · simp only [Act.put, List.setIfInBounds_toArray, List.set_cons_zero, List.set_cons_succ, i64_w, i32_w]
            rfl
          refine pure_ (i := 13) (N := (some 203)) (v := ?_) (a' := ?_) #[true, true, true, true, true, true, true, true, true, true, true, true, true, true, false, false, false, false, false, false, false] rfl rfl (by kernel_rfl) (fun _ _ _ h => h) (Or.inl ⟨by rfl, ?_⟩) ?_ ?_
          rotate_left
          · intro w'
            go_simp
            with_reducible rfl
          rotate_left
          · simp only [Act.put, List.setIfInBounds_toArray, List.set_cons_zero, List.set_cons_succ, i64_w, i32_w]
            rfl
          refine pure_ (i := 14) (N := (some 204)) (v := ?_) (a' := ?_) #[true, true, true, true, true, true, true, true, true, true, true, true, true, true, true, false, false, false, false, false, false] rfl rfl (by kernel_rfl) (fun _ _ _ h => h) (Or.inl ⟨by rfl, ?_⟩) ?_ ?_
          rotate_left
          · intro w'
            go_simp
            with_reducible rfl
          rotate_left
          · simp only [Act.put, List.setIfInBounds_toArray, List.set_cons_zero, List.set_cons_succ, i64_w, i32_w]
            rfl
          refine pure_ (i := 15) (N := (some 205)) (v := ?_) (a' := ?_) #[true, true, true, true, true, true, true, true, true, true, true, true, true, true, true, true, false, false, false, false, false] rfl rfl (by kernel_rfl) (fun _ _ _ h => h) (Or.inl ⟨by rfl, ?_⟩) ?_ ?_
          rotate_left
          · intro w'
            go_simp
            with_reducible rfl
          rotate_left
          · simp only [Act.put, List.setIfInBounds_toArray, List.set_cons_zero, List.set_cons_succ, i64_w, i32_w]
            rfl
          refine pure_ (i := 16) (N := (some 206)) (v := ?_) (a' := ?_) #[true, true, true, true, true, true, true, true, true, true, true, true, true, true, true, true, true, false, false, false, false] rfl rfl (by kernel_rfl) (fun _ _ _ h => h) (Or.inl ⟨by rfl, ?_⟩) ?_ ?_
          rotate_left
          · intro w'
            go_simp
            with_reducible rfl
          rotate_left
          · simp only [Act.put, List.setIfInBounds_toArray, List.set_cons_zero, List.set_cons_succ, i64_w, i32_w]
            rfl
          refine take_ (i := 17) (N := (some 207)) (v := ?_) (a' := ?_) #[true, true, true, true, true, true, true, true, true, true, true, true, true, true, true, true, true, true, false, false, false] rfl rfl (by kernel_rfl) (fun _ _ _ h => h) (Or.inl ⟨by rfl, ?_⟩) hHeld ?_ ?_
          rotate_left
          · rintro w' s0
            go_simp
            with_reducible rfl
          rotate_left
          · simp only [Act.put, List.setIfInBounds_toArray, List.set_cons_zero, List.set_cons_succ, i64_w, i32_w]
            rfl
          refine one_ (i := 18) (N := (some 208)) #[true, true, true, true, true, true, true, true, true, true, true, true, true, true, true, true, true, true, true, false, false] rfl rfl (by kernel_rfl) (by decide) (fun K hK => ?_)
          refine goes_ Try.func25 (by kernel_rfl) rfl #[.slice A7 m.length c7, .slice Ar L2.length cr] (by rfl) rfl rfl (by (try simp only [List.map_toArray, List.map_cons, List.map_nil]); first | done | rfl) ?_
          refine (SameGrams.two A7 Ar c7 cr m rl L2.length _ (GramsAt.of HG8.out HSm.out) HRL.out HEq.out HLn.out HLr.out).mono ?_
          rintro e w9 ⟨rfl, ⟨ndd, rfl⟩⟩
          refine ⟨_, rfl, ?_⟩
          refine hK.out _ _ hHeld (fun hHeld => ?_)
          clear hK K
          refine norm_ (a' := ?_) ?_ ?_
          rotate_left
          · show Act.put _ (some 208) _ = _
            simp only [Act.put, List.setIfInBounds_toArray, List.set_cons_zero, List.set_cons_succ, i64_w, i32_w]
            rfl
          refine pure_ (i := 19) (N := (some 209)) (v := ?_) (a' := ?_) #[true, true, true, true, true, true, true, true, true, true, true, true, true, true, true, true, true, true, true, true, false] rfl rfl (by kernel_rfl) (fun _ _ _ h => h) (Or.inl ⟨by rfl, ?_⟩) ?_ ?_
          rotate_left
          · intro w'
            go_simp
            with_reducible rfl
          rotate_left
          · simp only [Act.put, List.setIfInBounds_toArray, List.set_cons_zero, List.set_cons_succ, i64_w, i32_w]
            rfl
          refine pure_ (i := 20) (N := (some 210)) (v := ?_) (a' := ?_) #[true, true, true, true, true, true, true, true, true, true, true, true, true, true, true, true, true, true, true, true, true] rfl rfl (by kernel_rfl) (fun _ _ _ h => h) (Or.inl ⟨by rfl, ?_⟩) ?_ ?_
          rotate_left
          · intro w'
            go_simp
            with_reducible rfl
          rotate_left
          · simp only [Act.put, List.setIfInBounds_toArray, List.set_cons_zero, List.set_cons_succ, i64_w, i32_w]
            rfl
          refine done_ (by kernel_rfl) ?_
          go_wp2_with (first | (go_at_call 29; refine (OverGrams.calls w _ (.slice A7 m.length c7) m (pw_below_drewN HP7.out.below _) ((HG8.out.below (pw_below_drewN (Below.refl _ _) _)).weaken HT.out.pair.below.size) HLn.out (fun y hy => Nat.le_trans (HT.out.short y.1 (HM7.out ▸ List.mem_map_of_mem hy)) (by decide))).mono ?_; rintro e w10 ⟨rfl, hb10, hk10⟩; have HK2 := Aside0.mk (Mid.over HT.out (pw_below_drewN HB8.out _) HG8.out.foot hk10 hb10 HN2.out); clear hb10 hk10))
          go_roundw
          case rel => exact ⟨k + 1, by omega, by go_num, HK2⟩
          case measure => simp [intOf]; omega

          -- END d4
        · have e4 : (x.1.act == 4) = false := beq_eq_false_iff_ne.2 d4
          clear d0 d1 d2 d3 d4
          -- CASE none
          obtain ⟨N2, L2, hNL⟩ : ∃ N2 L2, N2 = N ∧ L2 = L := ⟨_, _, rfl, rfl⟩
          have HT : Aside0 (Mid w (wr.alloc (.cells #[.int .i64 x.1.act, .int .i64 x.1.i, .int .i64 x.1.j, .int .i64 x.1.x, .slice Ab x.1.b.length cb] 42)) p q a0 N2 L2) := ⟨mid_none HMid.out hNL.1 hNL.2⟩
          have HN2 : Aside0 (N2 ≤ ((k + 1 : Nat) : Int)) := ⟨by have := HNk.out; rw [hNL.1]; omega⟩
          clear hNL
          go_wp2_with (first | (go_at_call 28; refine (PList HT.out.pair (by have := HT.out.room; have := HM2.out; omega) (fun y hy => Nat.le_trans (HT.out.short y hy) (by decide))).mono ?_; rintro e w7 ⟨A7, c7, m, rfl, hm7, hg7, hb7⟩; have HM7 := Aside0.mk hm7; have HG7 := Aside0.mk hg7; have HB7 := Aside0.mk hb7; have hlm : m.length = L2.length := (by have := congrArg List.length hm7; simpa using this); have HLM := Aside0.mk hlm; clear hm7 hg7 hb7 hlm))
          have HP7 : Aside0 (PairAt w w7.drew p q a0 N2 L2 N2 L2 _) := ⟨(HT.out.pair.later HB7.out).later (Below.refl _ _).drew⟩
          have HB8 := Aside0.mk (HB7.out.drew)
          have HG8 := Aside0.mk (HG7.out.below (Below.refl _ _).drew)
          have HSm : Aside0 (∀ y ∈ m, y.1.frame.length ≤ 200000) := ⟨fun y hy => Nat.le_trans (HT.out.short y.1 (HM7.out ▸ List.mem_map_of_mem hy)) (by decide)⟩
          obtain ⟨Ar, cr, hq0, hrd⟩ := PRef HP7.out (fun y hy => Nat.le_trans (HT.out.short y hy) (by decide))
          obtain ⟨rl, hrl, hgr⟩ := hrd _ (Below.refl _ _)
          have HRL := Aside0.mk hgr
          have HEq : Aside0 (m.map Prod.fst = rl.map Prod.fst) := ⟨HM7.out.trans hrl.symm⟩
          have HLn : Aside0 (m.length ≤ 100000) := ⟨by have := HLM.out; have := HT.out.room; have := HM2.out; omega⟩
          have HLr : Aside0 (rl.length = L2.length) := ⟨by have := congrArg List.length hrl; simpa using this⟩
          clear hrd hrl hgr HB7 HG7
          refine start_ (n := 21) (S := fun w' => w'.cell? ⟨q, 0, none⟩ = some (.slice Ar L2.length cr)) (ds := []) #[false, false, false, false, false, false, false, false, false, false, false, false, false, false, false, false, false, false, false, false, false] (by kernel_rfl) rfl rfl hq0 (fun hHeld => ?_)
          clear hq0
          generalize w7.drew = W7 at *
          refine pure_ (i := 0) (N := (some 190)) (v := ?_) (a' := ?_) #[true, false, false, false, false, false, false, false, false, false, false, false, false, false, false, false, false, false, false, false, false] rfl rfl (by kernel_rfl) (fun _ _ _ h => h) (Or.inl ⟨by rfl, ?_⟩) ?_ ?_
          rotate_left
          · intro w'
            go_simp
            with_reducible rfl
          rotate_left
          · simp only [Act.put, List.setIfInBounds_toArray, List.set_cons_zero, List.set_cons_succ, i64_w, i32_w]
            rfl
          refine pure_ (i := 1) (N := (some 191)) (v := ?_) (a' := ?_) #[true, true, false, false, false, false, false, false, false, false, false, false, false, false, false, false, false, false, false, false, false] rfl rfl (by kernel_rfl) (fun _ _ _ h => h) (Or.inl ⟨by rfl, ?_⟩) ?_ ?_
          rotate_left
          · intro w'
            go_simp
            with_reducible rfl
          rotate_left
          · simp only [Act.put, List.setIfInBounds_toArray, List.set_cons_zero, List.set_cons_succ, i64_w, i32_w]
            rfl
          refine pure_ (i := 2) (N := (some 192)) (v := ?_) (a' := ?_) #[true, true, true, false, false, false, false, false, false, false, false, false, false, false, false, false, false, false, false, false, false] rfl rfl (by kernel_rfl) (fun _ _ _ h => h) (Or.inl ⟨by rfl, ?_⟩) ?_ ?_
          rotate_left
          · intro w'
            go_simp
            with_reducible rfl
          rotate_left
          · simp only [Act.put, List.setIfInBounds_toArray, List.set_cons_zero, List.set_cons_succ, i64_w, i32_w]
            rfl
          refine pure_ (i := 3) (N := (some 193)) (v := ?_) (a' := ?_) #[true, true, true, true, false, false, false, false, false, false, false, false, false, false, false, false, false, false, false, false, false] rfl rfl (by kernel_rfl) (fun _ _ _ h => h) (Or.inl ⟨by rfl, ?_⟩) ?_ ?_
          rotate_left
          · intro w'
            go_simp
            with_reducible rfl
          rotate_left
          · simp only [Act.put, List.setIfInBounds_toArray, List.set_cons_zero, List.set_cons_succ, i64_w, i32_w]
            rfl
          refine pure_ (i := 5) (N := (some 195)) (v := ?_) (a' := ?_) #[true, true, true, true, false, true, false, false, false, false, false, false, false, false, false, false, false, false, false, false, false] rfl rfl (by kernel_rfl) (fun _ _ _ h => h) (Or.inl ⟨by rfl, ?_⟩) ?_ ?_
          rotate_left
          · intro w'
            go_simp
            with_reducible rfl
          rotate_left
          · simp only [Act.put, List.setIfInBounds_toArray, List.set_cons_zero, List.set_cons_succ, i64_w, i32_w]
            rfl
          refine pure_ (i := 6) (N := (some 196)) (v := ?_) (a' := ?_) #[true, true, true, true, false, true, true, false, false, false, false, false, false, false, false, false, false, false, false, false, false] rfl rfl (by kernel_rfl) (fun _ _ _ h => h) (Or.inl ⟨by rfl, ?_⟩) ?_ ?_
          rotate_left
          · intro w'
            go_simp
            with_reducible rfl
          rotate_left
          · simp only [Act.put, List.setIfInBounds_toArray, List.set_cons_zero, List.set_cons_succ, i64_w, i32_w]
            rfl
          refine pure_ (i := 7) (N := (some 197)) (v := ?_) (a' := ?_) #[true, true, true, true, false, true, true, true, false, false, false, false, false, false, false, false, false, false, false, false, false] rfl rfl (by kernel_rfl) (fun _ _ _ h => h) (Or.inl ⟨by rfl, ?_⟩) ?_ ?_
          rotate_left
          · intro w'
            go_simp
            with_reducible rfl
          rotate_left
          · simp only [Act.put, List.setIfInBounds_toArray, List.set_cons_zero, List.set_cons_succ, i64_w, i32_w]
            rfl
          refine take_ (i := 8) (N := (some 198)) (v := ?_) (a' := ?_) #[true, true, true, true, false, true, true, true, true, false, false, false, false, false, false, false, false, false, false, false, false] rfl rfl (by kernel_rfl) (fun _ _ _ h => h) (Or.inl ⟨by rfl, ?_⟩) hHeld ?_ ?_
          rotate_left
          · rintro w' s0
            go_simp
            with_reducible rfl
          rotate_left
          · simp only [Act.put, List.setIfInBounds_toArray, List.set_cons_zero, List.set_cons_succ, i64_w, i32_w]
            rfl
          refine pure_ (i := 9) (N := (some 199)) (v := ?_) (a' := ?_) #[true, true, true, true, false, true, true, true, true, true, false, false, false, false, false, false, false, false, false, false, false] rfl rfl (by kernel_rfl) (fun _ _ _ h => h) (Or.inl ⟨by rfl, ?_⟩) ?_ ?_
          rotate_left
          · intro w'
            go_simp
            with_reducible rfl
          rotate_left
          · simp only [Act.put, List.setIfInBounds_toArray, List.set_cons_zero, List.set_cons_succ, i64_w, i32_w]
            rfl
          refine one_ (i := 4) (N := (some 194)) #[true, true, true, true, true, true, true, true, true, true, false, false, false, false, false, false, false, false, false, false, false] rfl rfl (by kernel_rfl) (by decide) (fun K hK => ?_)
          refine goes_ Try.func12 (by kernel_rfl) rfl #[.pointer (some ⟨p, 0, none⟩)] (by rfl) rfl rfl (by (try simp only [List.map_toArray, List.map_cons, List.map_nil]); first | done | rfl) ?_
          refine (PLen HP7.out).mono ?_
          rintro e w9 ⟨rfl, rfl⟩
          refine ⟨_, rfl, ?_⟩
          refine hK.out _ _ hHeld (fun hHeld => ?_)
          clear hK K
          refine norm_ (a' := ?_) ?_ ?_
          rotate_left
          · show Act.put _ (some 194) _ = _
            simp only [Act.put, List.setIfInBounds_toArray, List.set_cons_zero, List.set_cons_succ, i64_w, i32_w]
            rfl
          refine pure_ (i := 10) (N := (some 200)) (v := ?_) (a' := ?_) #[true, true, true, true, true, true, true, true, true, true, true, false, false, false, false, false, false, false, false, false, false] rfl rfl (by kernel_rfl) (fun _ _ _ h => h) (Or.inl ⟨by rfl, ?_⟩) ?_ ?_
          rotate_left
          · intro w'
            go_simp
            with_reducible rfl
          rotate_left
          · simp only [Act.put, List.setIfInBounds_toArray, List.set_cons_zero, List.set_cons_succ, i64_w, i32_w]
            rfl
          refine pure_ (i := 11) (N := (some 201)) (v := ?_) (a' := ?_) #[true, true, true, true, true, true, true, true, true, true, true, true, false, false, false, false, false, false, false, false, false] rfl rfl (by kernel_rfl) (fun _ _ _ h => h) (Or.inl ⟨by rfl, ?_⟩) ?_ ?_
          rotate_left
          · intro w'
            go_simp
            with_reducible rfl
          rotate_left
          · simp only [Act.put, List.setIfInBounds_toArray, List.set_cons_zero, List.set_cons_succ, i64_w, i32_w]
            rfl
          refine pure_ (i := 12) (N := (some 202)) (v := ?_) (a' := ?_) #[true, true, true, true, true, true, true, true, true, true, true, true, true, false, false, false, false, false, false, false, false] rfl rfl (by kernel_rfl) (fun _ _ _ h => h) (Or.inl ⟨by rfl, ?_⟩) ?_ ?_
          rotate_left
          · intro w'
            go_simp
            with_reducible rfl
          rotate_left
          · simp only [Act.put, List.setIfInBounds_toArray, List.set_cons_zero, List.set_cons_succ, i64_w, i32_w]
            rfl
          refine pure_ (i := 13) (N := (some 203)) (v := ?_) (a' := ?_) #[true, true, true, true, true, true, true, true, true, true, true, true, true, true, false, false, false, false, false, false, false] rfl rfl (by kernel_rfl) (fun _ _ _ h => h) (Or.inl ⟨by rfl, ?_⟩) ?_ ?_
          rotate_left
          · intro w'
            go_simp
            with_reducible rfl
          rotate_left
          · simp only [Act.put, List.setIfInBounds_toArray, List.set_cons_zero, List.set_cons_succ, i64_w, i32_w]
            rfl
          refine pure_ (i := 14) (N := (some 204)) (v := ?_) (a' := ?_) #[true, true, true, true, true, true, true, true, true, true, true, true, true, true, true, false, false, false, false, false, false] rfl rfl (by kernel_rfl) (fun _ _ _ h => h) (Or.inl ⟨by rfl, ?_⟩) ?_ ?_
          rotate_left
          · intro w'
            go_simp
            with_reducible rfl
          rotate_left
          · simp only [Act.put, List.setIfInBounds_toArray, List.set_cons_zero, List.set_cons_succ, i64_w, i32_w]
            rfl
          refine pure_ (i := 15) (N := (some 205)) (v := ?_) (a' := ?_) #[true, true, true, true, true, true, true, true, true, true, true, true, true, true, true, true, false, false, false, false, false] rfl rfl (by kernel_rfl) (fun _ _ _ h => h) (Or.inl ⟨by rfl, ?_⟩) ?_ ?_
          rotate_left
          · intro w'
            go_simp
            with_reducible rfl
          rotate_left
          · simp only [Act.put, List.setIfInBounds_toArray, List.set_cons_zero, List.set_cons_succ, i64_w, i32_w]
            rfl
          refine pure_ (i := 16) (N := (some 206)) (v := ?_) (a' := ?_) #[true, true, true, true, true, true, true, true, true, true, true, true, true, true, true, true, true, false, false, false, false] rfl rfl (by kernel_rfl) (fun _ _ _ h => h) (Or.inl ⟨by rfl, ?_⟩) ?_ ?_
          rotate_left
          · intro w'
            go_simp
            with_reducible rfl
          rotate_left
          · simp only [Act.put, List.setIfInBounds_toArray, List.set_cons_zero, List.set_cons_succ, i64_w, i32_w]
            rfl
          refine take_ (i := 17) (N := (some 207)) (v := ?_) (a' := ?_) #[true, true, true, true, true, true, true, true, true, true, true, true, true, true, true, true, true, true, false, false, false] rfl rfl (by kernel_rfl) (fun _ _ _ h => h) (Or.inl ⟨by rfl, ?_⟩) hHeld ?_ ?_
          rotate_left
          · rintro w' s0
            go_simp
            with_reducible rfl
          rotate_left
          · simp only [Act.put, List.setIfInBounds_toArray, List.set_cons_zero, List.set_cons_succ, i64_w, i32_w]
            rfl
          refine one_ (i := 18) (N := (some 208)) #[true, true, true, true, true, true, true, true, true, true, true, true, true, true, true, true, true, true, true, false, false] rfl rfl (by kernel_rfl) (by decide) (fun K hK => ?_)
          refine goes_ Try.func25 (by kernel_rfl) rfl #[.slice A7 m.length c7, .slice Ar L2.length cr] (by rfl) rfl rfl (by (try simp only [List.map_toArray, List.map_cons, List.map_nil]); first | done | rfl) ?_
          refine (SameGrams.two A7 Ar c7 cr m rl L2.length _ (GramsAt.of HG8.out HSm.out) HRL.out HEq.out HLn.out HLr.out).mono ?_
          rintro e w9 ⟨rfl, ⟨ndd, rfl⟩⟩
          refine ⟨_, rfl, ?_⟩
          refine hK.out _ _ hHeld (fun hHeld => ?_)
          clear hK K
          refine norm_ (a' := ?_) ?_ ?_
          rotate_left
          · show Act.put _ (some 208) _ = _
            simp only [Act.put, List.setIfInBounds_toArray, List.set_cons_zero, List.set_cons_succ, i64_w, i32_w]
            rfl
          refine pure_ (i := 19) (N := (some 209)) (v := ?_) (a' := ?_) #[true, true, true, true, true, true, true, true, true, true, true, true, true, true, true, true, true, true, true, true, false] rfl rfl (by kernel_rfl) (fun _ _ _ h => h) (Or.inl ⟨by rfl, ?_⟩) ?_ ?_
          rotate_left
          · intro w'
            go_simp
            with_reducible rfl
          rotate_left
          · simp only [Act.put, List.setIfInBounds_toArray, List.set_cons_zero, List.set_cons_succ, i64_w, i32_w]
            rfl
          refine pure_ (i := 20) (N := (some 210)) (v := ?_) (a' := ?_) #[true, true, true, true, true, true, true, true, true, true, true, true, true, true, true, true, true, true, true, true, true] rfl rfl (by kernel_rfl) (fun _ _ _ h => h) (Or.inl ⟨by rfl, ?_⟩) ?_ ?_
          rotate_left
          · intro w'
            go_simp
            with_reducible rfl
          rotate_left
          · simp only [Act.put, List.setIfInBounds_toArray, List.set_cons_zero, List.set_cons_succ, i64_w, i32_w]
            rfl
          refine done_ (by kernel_rfl) ?_
          go_wp2_with (first | (go_at_call 29; refine (OverGrams.calls w _ (.slice A7 m.length c7) m (pw_below_drewN HP7.out.below _) ((HG8.out.below (pw_below_drewN (Below.refl _ _) _)).weaken HT.out.pair.below.size) HLn.out (fun y hy => Nat.le_trans (HT.out.short y.1 (HM7.out ▸ List.mem_map_of_mem hy)) (by decide))).mono ?_; rintro e w10 ⟨rfl, hb10, hk10⟩; have HK2 := Aside0.mk (Mid.over HT.out (pw_below_drewN HB8.out _) HG8.out.foot hk10 hb10 HN2.out); clear hb10 hk10))
          go_roundw
          case rel => exact ⟨k + 1, by omega, by go_num, HK2⟩
          case measure => simp [intOf]; omega
          -- END none
      · have e : k = l.length := by omega
        subst e
        -- CASE fin
        have HPD : Aside0 (PairAt w wr.drew p q a0 N L N L _) := ⟨HMid.out.pair.later (Below.refl _ _).drew⟩
        obtain ⟨Ar, cr, hq0, hrd⟩ := PRef HPD.out (fun y hy => Nat.le_trans (HMid.out.short y hy) (by decide))
        go_wp2_with fail
        refine start_ (n := 11) (S := fun w' => w'.cell? ⟨q, 0, none⟩ = some (.slice Ar L.length cr)) (ds := []) #[false, false, false, false, false, false, false, false, false, false, false] (by kernel_rfl) rfl rfl hq0 (fun hHeld => ?_)
        clear hq0
        generalize wr.drew = W7 at *
        refine pure_ (i := 0) (N := (some 213)) (v := ?_) (a' := ?_) #[true, false, false, false, false, false, false, false, false, false, false] rfl rfl (by kernel_rfl) (fun _ _ _ h => h) (Or.inl ⟨by rfl, ?_⟩) ?_ ?_
        rotate_left
        · intro w'
          go_simp
          with_reducible rfl
        rotate_left
        · simp only [Act.put, List.setIfInBounds_toArray, List.set_cons_zero, List.set_cons_succ, i64_w, i32_w]
          rfl
        refine pure_ (i := 2) (N := (some 215)) (v := ?_) (a' := ?_) #[true, false, true, false, false, false, false, false, false, false, false] rfl rfl (by kernel_rfl) (fun _ _ _ h => h) (Or.inl ⟨by rfl, ?_⟩) ?_ ?_
        rotate_left
        · intro w'
          go_simp
          with_reducible rfl
        rotate_left
        · simp only [Act.put, List.setIfInBounds_toArray, List.set_cons_zero, List.set_cons_succ, i64_w, i32_w]
          rfl
        refine pure_ (i := 3) (N := (some 216)) (v := ?_) (a' := ?_) #[true, false, true, true, false, false, false, false, false, false, false] rfl rfl (by kernel_rfl) (fun _ _ _ h => h) (Or.inl ⟨by rfl, ?_⟩) ?_ ?_
        rotate_left
        · intro w'
          go_simp
          with_reducible rfl
        rotate_left
        · simp only [Act.put, List.setIfInBounds_toArray, List.set_cons_zero, List.set_cons_succ, i64_w, i32_w]
          rfl
        refine pure_ (i := 4) (N := (some 217)) (v := ?_) (a' := ?_) #[true, false, true, true, true, false, false, false, false, false, false] rfl rfl (by kernel_rfl) (fun _ _ _ h => h) (Or.inl ⟨by rfl, ?_⟩) ?_ ?_
        rotate_left
        · intro w'
          go_simp
          with_reducible rfl
        rotate_left
        · simp only [Act.put, List.setIfInBounds_toArray, List.set_cons_zero, List.set_cons_succ, i64_w, i32_w]
          rfl
        refine take_ (i := 5) (N := (some 218)) (v := ?_) (a' := ?_) #[true, false, true, true, true, true, false, false, false, false, false] rfl rfl (by kernel_rfl) (fun _ _ _ h => h) (Or.inl ⟨by rfl, ?_⟩) hHeld ?_ ?_
        rotate_left
        · rintro w' s0
          go_simp
          with_reducible rfl
        rotate_left
        · simp only [Act.put, List.setIfInBounds_toArray, List.set_cons_zero, List.set_cons_succ, i64_w, i32_w]
          rfl
        refine one_ (i := 1) (N := (some 214)) #[true, true, true, true, true, true, false, false, false, false, false] rfl rfl (by kernel_rfl) (by decide) (fun K hK => ?_)
        refine goes_ Try.func28 (by kernel_rfl) rfl #[.pointer (some ⟨p, 0, none⟩)] (by rfl) rfl rfl (by (try simp only [List.map_toArray, List.map_cons, List.map_nil]); first | done | rfl) ?_
        refine (PList HPD.out (by have := HMid.out.room; have := HM2.out; omega) (fun y hy => Nat.le_trans (HMid.out.short y hy) (by decide))).mono ?_
        rintro e w7 ⟨A7, c7, m, rfl, hm7, hg7, hb7⟩
        have hq7 := (hb7.cell (World.block_lt_of_cell? W7 _ hHeld)).trans hHeld
        obtain ⟨rl, hrl, hgr⟩ := hrd _ hb7
        have hSm : ∀ y ∈ m, y.1.frame.length ≤ 200000 := fun y hy => Nat.le_trans (HMid.out.short y.1 (hm7 ▸ List.mem_map_of_mem hy)) (by decide)
        have HG7 := Aside0.mk (GramsAt.of hg7 hSm)
        have HRL := Aside0.mk hgr
        have HEq : Aside0 (m.map Prod.fst = rl.map Prod.fst) := ⟨hm7.trans hrl.symm⟩
        have HLn : Aside0 (m.length ≤ 100000) := ⟨by have := congrArg List.length hm7; simp at this; have := HMid.out.room; have := HM2.out; omega⟩
        have HLr : Aside0 (rl.length = L.length) := ⟨by have := congrArg List.length hrl; simpa using this⟩
        have HB7 := Aside0.mk hb7
        clear hm7 hg7 hb7 hrl hgr hSm
        refine ⟨_, rfl, ?_⟩
        refine hK.out _ _ hq7 (fun hHeld => ?_)
        clear hK K
        refine norm_ (a' := ?_) ?_ ?_
        rotate_left
        · show Act.put _ (some 214) _ = _
          simp only [Act.put, List.setIfInBounds_toArray, List.set_cons_zero, List.set_cons_succ, i64_w, i32_w]
          rfl
        refine one_ (i := 6) (N := (some 219)) #[true, true, true, true, true, true, true, false, false, false, false] rfl rfl (by kernel_rfl) (by decide) (fun K hK => ?_)
        refine goes_ Try.func25 (by kernel_rfl) rfl #[.slice A7 m.length c7, .slice Ar L.length cr] (by rfl) rfl rfl (by (try simp only [List.map_toArray, List.map_cons, List.map_nil]); first | done | rfl) ?_
        refine (SameGrams.two A7 Ar c7 cr m rl L.length _ HG7.out HRL.out HEq.out HLn.out HLr.out).mono ?_
        rintro e w9 ⟨rfl, ⟨ndd, rfl⟩⟩
        refine ⟨_, rfl, ?_⟩
        refine hK.out _ _ hHeld (fun hHeld => ?_)
        clear hK K
        refine norm_ (a' := ?_) ?_ ?_
        rotate_left
        · show Act.put _ (some 219) _ = _
          simp only [Act.put, List.setIfInBounds_toArray, List.set_cons_zero, List.set_cons_succ, i64_w, i32_w]
          rfl
        refine pure_ (i := 7) (N := (some 220)) (v := ?_) (a' := ?_) #[true, true, true, true, true, true, true, true, false, false, false] rfl rfl (by kernel_rfl) (fun _ _ _ h => h) (Or.inl ⟨by rfl, ?_⟩) ?_ ?_
        rotate_left
        · intro w'
          go_simp
          with_reducible rfl
        rotate_left
        · simp only [Act.put, List.setIfInBounds_toArray, List.set_cons_zero, List.set_cons_succ, i64_w, i32_w]
          rfl
        refine one_ (i := 8) (N := (some 221)) #[true, true, true, true, true, true, true, true, true, false, false] rfl rfl (by kernel_rfl) (by decide) (fun K hK => ?_)
        refine goes_ Try.func13 (by kernel_rfl) rfl #[] (by rfl) rfl rfl (by (try simp only [List.map_toArray, List.map_cons, List.map_nil]); first | done | rfl) ?_
        refine (awake.calls _).mono ?_
        rintro e w8 ⟨rfl, hb8⟩
        have hq8 := (hb8.cell (World.block_lt_of_cell? _ _ hHeld)).trans hHeld
        have HB8 := Aside0.mk hb8
        clear hb8
        refine ⟨_, rfl, ?_⟩
        refine hK.out _ _ hq8 (fun hHeld => ?_)
        clear hK K
        refine norm_ (a' := ?_) ?_ ?_
        rotate_left
        · show Act.put _ (some 221) _ = _
          simp only [Act.put, List.setIfInBounds_toArray, List.set_cons_zero, List.set_cons_succ, i64_w, i32_w]
          rfl
        refine pure_ (i := 9) (N := (some 222)) (v := ?_) (a' := ?_) #[true, true, true, true, true, true, true, true, true, true, false] rfl rfl (by kernel_rfl) (fun _ _ _ h => h) (Or.inl ⟨by rfl, ?_⟩) ?_ ?_
        rotate_left
        · intro w'
          go_simp
          with_reducible rfl
        rotate_left
        · simp only [Act.put, List.setIfInBounds_toArray, List.set_cons_zero, List.set_cons_succ, i64_w, i32_w]
          rfl
        refine pure_ (i := 10) (N := (some 4)) (v := ?_) (a' := ?_) #[true, true, true, true, true, true, true, true, true, true, true] rfl rfl (by kernel_rfl) (fun _ _ _ h => h) (Or.inl ⟨by rfl, ?_⟩) ?_ ?_
        rotate_left
        · intro w'
          go_simp
          with_reducible rfl
        rotate_left
        · simp only [Act.put, List.setIfInBounds_toArray, List.set_cons_zero, List.set_cons_succ, i64_w, i32_w]
          rfl
        refine done_ (by kernel_rfl) ?_
        go_wp2_with fail
        go_ret
        exact ⟨rfl, below_step (pw_below_drewN (below_step HPD.out.below HB7.out) _) HB8.out⟩
        -- END fin
end Go.Proofs.Ytkomemnalpmbcaa.Nt
