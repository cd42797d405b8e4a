/- NetKeeps. -/
import Derived.Test.YtkomemnalpmbcaaOl
import Derived.Test.YtkomemnalpmbcaaOc
import Derived.Test.YtkomemnalpmbcaaNk
import Derived.Deep.QuietTactic
set_option linter.unusedVariables false
set_option linter.unusedSimpArgs false
namespace Go.Proofs.Ytkomemnalpmbcaa.Nt
open Go.Proofs.Ytkomemnalpmbcaa.PNetScript Go.RowKit Go.Proofs.YtkomemnalpmbcaaW.PrintWords Go.Proofs.YtkomemnalpmbcaaW.PrintLast Go.Proofs.YtkomemnalpmbcaaW.PrintMore
attribute [local go_sem] max2_int min2_int max_two min_two max_three min_three max_four min_four
/-- A gram that was sent, whole or spoilt. -/
structure SentG (S : List (List Int × Value)) (x : Gr) : Prop where
  id0 : 0 ≤ x.id
  src : x.src = 0
  dst : x.dst = 1
  ex : ∃ y, S[x.id.toNat]? = some y ∧ (x.spoilt = false → x.frame = y.1) ∧ (x.spoilt = true → ∃ (j : Nat) (c nb : Int), y.1[j]? = some c ∧ nb ≠ c ∧ x.frame = y.1.set j nb)
theorem SentG.turns (S : List (List Int × Value)) : Turns (SentG S) := by
  intro y h hs j nb b hb hne
  obtain ⟨z, hz, h1, _⟩ := h.ex
  refine ⟨h.id0, h.src, h.dst, z, hz, fun h => absurd h (by simp), fun _ => ⟨j, b, nb, ?_, hne, ?_⟩⟩
  · rw [← h1 hs]; exact hb
  · rw [← h1 hs]
theorem SentG.more {S : List (List Int × Value)} {x : Gr} (h : SentG S x) (y : List Int × Value) : SentG (S ++ [y]) x := by
  obtain ⟨z, hz, h1⟩ := h.ex
  exact ⟨h.id0, h.src, h.dst, z, by rw [List.getElem?_append_left (List.getElem?_eq_some_iff.1 hz).1]; exact hz, h1⟩
theorem SentG.fresh (S : List (List Int × Value)) (y : List Int × Value) : SentG (S ++ [y]) ⟨(S.length : Int), 0, 1, y.1, false⟩ :=
  ⟨Int.natCast_nonneg _, rfl, rfl, y, by simp, fun _ => rfl, fun h => by cases h⟩
structure KeepsInv (w wr : World) (p : Nat) (sv : Value) (k : Nat) : Prop where
  below : Below w.heap.size w wr
  ex : ∃ (S : List (List Int × Value)) (g : List (Gr × Value)) (v : Value), NetAt wr w.heap.size p 20 (S.length : Int) g v ∧ S.length ≤ k ∧ wr.ownsRow w.heap.size 29 1 sv S.length (S.map Prod.snd) ∧ (∀ y ∈ S, BytesAt w y.2 y.1 ∧ y.1.length ≤ 100) ∧ (∀ x ∈ g, SentG S x.1) ∧ (g.length : Int) ≤ 20
theorem SentG.short {S : List (List Int × Value)} {x : Gr} (h : SentG S x) {w : World} (hS : ∀ y ∈ S, BytesAt w y.2 y.1 ∧ y.1.length ≤ 100) : x.frame.length ≤ 100000 ∧ (x.spoilt = false → ∀ b ∈ x.frame, 0 ≤ b ∧ b ≤ 255) := by
  obtain ⟨z, hz, h1, h2⟩ := h.ex
  obtain ⟨⟨A, c, _, _, _, _, hw⟩, hl⟩ := hS z (List.mem_of_getElem? hz)
  cases hs : x.spoilt with
  | false =>
    rw [h1 hs]
    refine ⟨by omega, fun _ b hb => ?_⟩
    have := hw b hb
    simp [Lit.wf, IntKind.min, IntKind.max, IntKind.signed, IntKind.bits] at this
    omega
  | true =>
    obtain ⟨j, c, nb, _, _, e⟩ := h2 hs
    rw [e, List.length_set]
    exact ⟨by omega, fun h => by cases h⟩
def cnt (a b : List Int) (j : Nat) : Nat := ((List.range j).filter (fun i => decide (a.getD i 0 ≠ b.getD i 0))).length
theorem cnt_succ (a b : List Int) (j : Nat) : cnt a b (j + 1) = cnt a b j + (if a.getD j 0 = b.getD j 0 then 0 else 1) := by
  unfold cnt
  rw [List.range_succ, List.filter_append, List.length_append]
  by_cases h : a.getD j 0 = b.getD j 0
  · have hd : decide (a.getD j 0 ≠ b.getD j 0) = false := decide_eq_false (fun hn => hn h)
    rw [if_pos h]; simp only [List.filter_cons, hd, List.filter_nil]; rfl
  · have hd : decide (a.getD j 0 ≠ b.getD j 0) = true := decide_eq_true h
    rw [if_neg h]; simp only [List.filter_cons, hd, List.filter_nil]; rfl
theorem cnt_le (a b : List Int) (j : Nat) : cnt a b j ≤ j := by
  unfold cnt
  have := List.length_filter_le (fun i => decide (a.getD i 0 ≠ b.getD i 0)) (List.range j)
  rwa [List.length_range] at this
theorem cnt_same (a : List Int) : ∀ j, cnt a a j = 0
  | 0 => rfl
  | j + 1 => by rw [cnt_succ, cnt_same a j]; simp
theorem cnt_set (b : List Int) (j0 : Nat) (c nb : Int) (h : b[j0]? = some c) (hne : nb ≠ c) : ∀ j, cnt (b.set j0 nb) b j = if j0 < j then 1 else 0
  | 0 => rfl
  | j + 1 => by
    have hl := (List.getElem?_eq_some_iff.1 h).1
    rw [cnt_succ, cnt_set b j0 c nb h hne j]
    simp only [List.getD_eq_getElem?_getD]
    by_cases hj : j = j0
    · subst hj
      rw [List.getElem?_set_self hl, h]
      simp [hne]
    · rw [List.getElem?_set_ne (Ne.symm hj)]
      simp only [if_true]
      by_cases h2 : j0 < j
      · rw [if_pos h2, if_pos (by omega)]
      · rw [if_neg h2, if_neg (by omega)]
theorem SentG.cnt {S : List (List Int × Value)} {x : Gr} (h : SentG S x) {z : List Int × Value} (hz : S[x.id.toNat]? = some z) : Nt.cnt x.frame z.1 z.1.length = if x.spoilt then 1 else 0 := by
  obtain ⟨z', hz', h1, h2⟩ := h.ex
  rw [hz] at hz'
  injection hz' with hz'
  subst hz'
  cases hs : x.spoilt with
  | false => rw [h1 hs, cnt_same]; rfl
  | true =>
    obtain ⟨j, c, nb, hj, hne, e⟩ := h2 hs
    rw [e, cnt_set z.1 j c nb hj hne, if_pos (List.getElem?_eq_some_iff.1 hj).1]
    rfl
theorem NetAt.not_foot {w : World} {B p : Nat} {most next : Int} {l : List (Gr × Value)} {v : Value} (h : NetAt w B p most next l v) {B' s n : Nat} {sv : Value} {xs : List Value} (ho : w.ownsRow B' 29 s sv n xs) (k : Nat) (hk : sv.ownBlock = some k) : ¬ foot p v l k := by
  obtain ⟨cells, hc⟩ := own_typed ho k hk
  rintro (rfl | hf | ⟨x, hx, hf⟩)
  · rw [h.cell] at hc; cases hc
  · obtain ⟨cells', hc'⟩ := own_typed h.row k hf
    rw [hc'] at hc; cases hc
  · obtain ⟨cells', hc'⟩ := own_typed (h.frames x hx) k hf
    rw [hc'] at hc; cases hc
theorem own_kept {w w' : World} {S : Nat → Prop} {B e s n : Nat} {sv : Value} {xs : List Value} (ho : w.ownsRow B e s sv n xs) (hk : Kept w w' S) (hn : ∀ k, sv.ownBlock = some k → ¬ S k) : w'.ownsRow B e s sv n xs :=
  own_move ho (fun k hk' => hk.2 k (own_lt ho k hk') (hn k hk'))
theorem own_below {w w' : World} {B e s n : Nat} {sv : Value} {xs : List Value} (ho : w.ownsRow B e s sv n xs) (hb : Below w.heap.size w w') : w'.ownsRow B e s sv n xs :=
  own_move ho (fun k hk' => hb.block k (own_lt ho k hk'))
theorem NetAt.grown {w w' : World} {B p : Nat} {most next : Int} {l : List (Gr × Value)} {v : Value} {row : Option Nat} (h : NetAt w B p most next l v) (hg : w.grownBy w' row) (hn : ∀ k, foot p v l k → some k ≠ row) : NetAt w' B p most next l v :=
  h.move fun k hk => hg.block k (h.foot_lt k hk) (hn k hk)
theorem KeepsInv.turn {w wr W1 w' : World} {p k : Nat} {sv : Value} {S : List (List Int × Value)} {g l' : List (Gr × Value)} {v v' : Value} (hb : Below w.heap.size w wr) (hw1 : Below wr.heap.size wr W1) (hn : NetAt W1 w.heap.size p 20 (S.length : Int) g v) (HO : wr.ownsRow w.heap.size 29 1 sv S.length (S.map Prod.snd)) (HSk : S.length ≤ k) (HS : ∀ y ∈ S, BytesAt w y.2 y.1 ∧ y.1.length ≤ 100) (HGd : ∀ x ∈ g, SentG S x.1) (HGl : (g.length : Int) ≤ 20) (ht : Turned_ w W1 w' w.heap.size p 20 (S.length : Int) g v l' v') : KeepsInv w w' p sv (k + 1) := by
  have h1 := own_below HO hw1
  exact ⟨ht.below, S, l', v', ht.net, by omega, own_kept h1 ht.kept (fun k hk => hn.not_foot h1 k hk), HS, ht.good _ (SentG.turns S) HGd, ht.room HGl⟩
theorem C_same {w w' : World} {A : Option Addr} {n : Nat} {xs : List Int} (h : Kd.C (Kd.int .u8) w A n xs) (hs : ∀ k, k < w.heap.size → w'.heap[k]? = w.heap[k]?) : Kd.C (Kd.int .u8) w' A n xs := by
  obtain ⟨h1, h2, h3⟩ := h
  refine ⟨h1, h2, fun h0 => ?_⟩
  obtain ⟨ad, e, hc⟩ := h3 h0
  refine ⟨ad, e, fun j p hj => ?_⟩
  obtain ⟨c, hl, hK, hcell⟩ := hc j p hj
  refine ⟨c, hl, hK, fun i u hu => ?_⟩
  have := hcell i u hu
  have hlt := World.block_lt_of_cell? w _ this
  rw [← this]
  unfold World.cell?
  rw [hs _ hlt]
theorem KeepsInv.sent {w w2 w4 : World} {p k : Nat} {sv sv4 : Value} {S : List (List Int × Value)} {g' : List (Gr × Value)} {v' : Value} {y : List Int × Value} (hn : NetAt w2 w.heap.size p 20 ((S.length : Int) + 1) g' v') (HO : w2.ownsRow w.heap.size 29 1 sv S.length (S.map Prod.snd)) (HSk : S.length ≤ k) (HS : ∀ y ∈ S, BytesAt w y.2 y.1 ∧ y.1.length ≤ 100) (hy : BytesAt w y.2 y.1 ∧ y.1.length ≤ 100) (HGd : ∀ x ∈ g', SentG (S ++ [y]) x.1) (HGl : (g'.length : Int) ≤ 20) (ho4 : w4.ownsRow w.heap.size 29 1 sv4 (S.length + 1) (S.map Prod.snd ++ [y.2])) (hb4 : Below w.heap.size w w4) (hg4 : w2.grownBy w4 sv.ownBlock) : KeepsInv w w4 p sv4 (k + 1) := by
  have h4 := hn.grown hg4 (fun k hk e => hn.not_foot HO k e.symm hk)
  refine ⟨hb4, S ++ [y], g', v', ?_, ?_, ?_, ?_, HGd, HGl⟩
  · rw [List.length_append, List.length_singleton]
    exact h4
  · rw [List.length_append, List.length_singleton]; omega
  · rw [List.length_append, List.length_singleton, List.map_append]
    exact ho4
  · intro z hz
    rcases List.mem_append.1 hz with hz | hz
    · exact HS z hz
    · rw [List.mem_singleton.1 hz]; exact hy
theorem info29' : (Try.prog.info? 29).map (fun i => (i.zero, i.size, i.bytes)) = some (some (.slice none 0 0), 1, 24) := by kernel_rfl
set_option maxHeartbeats 8000000 in
set_option maxRecDepth 100000 in
theorem NetKeeps.calls (A : Option Addr) (c : Nat) (l : List (Ac × Value)) (w : World) (h : ActsAt w A l) (hl : l.length ≤ 9223372036854775807) :
    Calls Try.prog 4 #[.slice A l.length c] w fun e w' => e = .returned (.bool true) ∧ Below w.heap.size w w' := by
  by_cases hG : Great l 100
  · have HG := Aside0.mk hG
    have H := Aside0.mk h
    have HL := Aside0.mk hl
    clear h hG hl
    go_enter Try.func4, Try.ntmps4
    go_wp2_with (first | (go_at_call 14; refine (great.eq A l c 100 _ H.out HL.out (by decide) true ⟨fun _ => HG.out, fun _ => rfl⟩).mono ?_; rintro e w1 ⟨rfl, rfl⟩) | (go_at_call 13; refine (awake.calls _).mono ?_; rintro e w8 ⟨rfl, hb⟩; have HB5 := Aside0.mk (below_step (Below.refl _ _) hb); clear hb))
    go_ret
    exact ⟨rfl, HB5.out⟩
  · have hlen : l.length ≤ 100 := by
      refine Nat.le_of_not_lt fun h1 => hG (.inl (by omega))
    have hb100 : ∀ x ∈ l, x.1.b.length ≤ 100 := fun x hx => Nat.le_of_not_lt fun h1 => hG (.inr ⟨x, hx, h1⟩)
    have HG := Aside0.mk hG
    have H := Aside0.mk h
    have HL := Aside0.mk hl
    have HB100 := Aside0.mk hb100
    clear h hG hl hb100
    go_enter Try.func4, Try.ntmps4
    go_wp2_with (first | (go_at_call 14; refine (great.eq A l c 100 _ H.out HL.out (by decide) false ⟨(fun h => by cases h), (fun h => absurd h HG.out)⟩).mono ?_; rintro e w1 ⟨rfl, rfl⟩) | ((with_reducible refine gate_callee (f := 8) rfl ?_); refine goesL_ _ rfl rfl Try.func8 (by kernel_rfl) rfl #[.int .i64 20] rfl (by (try simp only [List.map_toArray, List.map_cons, List.map_nil]); first | done | rfl) ?_; refine (New.yes 20 _ w w.heap.size (by decide) (by decide) (Below.refl _ _) (by simp)).mono ?_; rintro e w1 ⟨p, rfl, hn, hb, hb2, hp⟩; have HI : Aside0 (KeepsInv w w1 p (.slice none 0 0) 0) := ⟨⟨hb, [], [], _, hn, Nat.le_refl _, own_nil _ _ _ _, by simp, by simp, by simp⟩⟩; clear hn hb hb2 hp; refine ⟨_, rfl, ?_⟩))
    go_loopw [5, 6] (fun sv i wr => ∃ k : Nat, k ≤ l.length ∧ i = .int .i64 (k : Int) ∧ Aside0 (KeepsInv w wr p sv k)) (fun _ i _ => l.length - (intOf i).toNat)
    case atStart => exact ⟨0, by omega, rfl, HI⟩
    case round =>
      obtain ⟨k, hk, rfl, HK⟩ := hrel
      clear HI
      by_cases hlt : k < l.length
      · obtain ⟨x, hx⟩ : ∃ x, l[k]? = some x := ⟨_, List.getElem?_eq_getElem hlt⟩
        have hkI : (k : Int) < (l.length : Int) := by omega
        have hkn : ((k : Int)).toNat = k := by omega
        obtain ⟨S, g, v, hnet, hSk, hown, hS, hg, hgl⟩ := HK.out.ex
        obtain ⟨a, rfl, hc⟩ := (H.out.below HK.out.below).cell hx
        obtain ⟨Ab, cb, hv, hcb, _, hC, _⟩ := H.out.bytes x (List.mem_of_getElem? hx)
        obtain ⟨As, cs5, rfl⟩ := own_slice hown
        obtain ⟨kk0, hlw, hk0, hk20⟩ := Low_some x.1.i 20 (by decide) (by decide)
        obtain ⟨kk, rfl⟩ := Int.eq_ofNat_of_zero_le hk0
        have HLW := Aside0.mk hlw
        have HN := Aside0.mk hnet
        have HO := Aside0.mk hown
        have HSk := Aside0.mk hSk
        have HS := Aside0.mk hS
        have HGd := Aside0.mk hg
        have HGl := Aside0.mk hgl
        have HX := Aside0.mk hx
        have HV := Aside0.mk hv
        have HCB := Aside0.mk hcb
        have HCC := Aside0.mk hC
        have q0 : wr.cell? (a.add (k * 5)) = some (.int .i64 x.1.act) := by have := hc 0 _ rfl; rwa [show (a.add (k * 5)).add 0 = a.add (k * 5) from rfl] at this
        have q1 : wr.cell? ⟨(a.add (k * 5)).block, (a.add (k * 5)).off + 1, none⟩ = some (.int .i64 x.1.i) := hc 1 _ rfl
        have q2 : wr.cell? ⟨(a.add (k * 5)).block, (a.add (k * 5)).off + 2, none⟩ = some (.int .i64 x.1.j) := hc 2 _ rfl
        have q3 : wr.cell? ⟨(a.add (k * 5)).block, (a.add (k * 5)).off + 3, none⟩ = some (.int .i64 x.1.x) := hc 3 _ rfl
        have q4 : wr.cell? ⟨(a.add (k * 5)).block, (a.add (k * 5)).off + 4, none⟩ = some (.slice Ab x.1.b.length cb) := hv ▸ hc 4 _ rfl
        clear hnet hown hSk hS hg hgl hx hv hcb hC hc hlw
        by_cases d0 : x.1.act = 0
        · have e0 : (x.1.act == 0) = true := beq_iff_eq.2 d0
          clear d0
          have hx100 := HB100.out x (List.mem_of_getElem? HX.out)
          by_cases hroom : (g.length : Int) = 20
          ·
            -- CASE full
            go_wp2_with (first | ((with_reducible refine gate_callee (f := 7) rfl ?_); refine goesL_ _ rfl rfl Try.func7 (by kernel_rfl) rfl #[.int .i64 x.1.i, .int .i64 20] rfl (by (try simp only [List.map_toArray, List.map_cons, List.map_nil]); first | done | rfl) ?_; refine (inkhornlaw0_Low.calls x.1.i 20 kk _ HLW.out).mono ?_; rintro e w1 ⟨rfl, ⟨n1, rfl⟩⟩; refine ⟨_, rfl, ?_⟩) | (go_at_call 9; refine (Send.full w (below_step HK.out.below (pw_below_drewN (below_alloc (Below.refl _ _) _) _)) (HN.out.below (pw_below_drewN (below_alloc (Below.refl _ _) _) _)) 0 1 Ab x.1.b.length cb hroom (by omega) (by have := HSk.out; omega)).mono ?_; rintro e w2 ⟨rfl, hn, hk2, hb2⟩; have hw1 : Below wr.heap.size wr ((wr.alloc (.cells #[.int .i64 x.1.act, .int .i64 x.1.i, .int .i64 x.1.j, .int .i64 x.1.x, .slice Ab x.1.b.length cb] 42)).drewN n1) := (pw_below_drewN (below_alloc (Below.refl _ _) _) _); have hN1 := HN.out.below hw1; have hb7 : ((wr.alloc (.cells #[.int .i64 x.1.act, .int .i64 x.1.i, .int .i64 x.1.j, .int .i64 x.1.x, .slice Ab x.1.b.length cb] 42)).drewN n1).heap[wr.heap.size]? = some (.cells #[.int .i64 x.1.act, .int .i64 x.1.i, .int .i64 x.1.j, .int .i64 x.1.x, .slice Ab x.1.b.length cb] 42 (0, 0)) := heap_alloc_new wr _; have hb8 := (hk2.2 wr.heap.size (blk_lt hb7) (fun hf => absurd (HN.out.foot_lt _ hf) (Nat.lt_irrefl _))).trans hb7; have k4 : w2.cell? ⟨wr.heap.size, 4, none⟩ = some (.slice Ab x.1.b.length cb) := blk_cell hb8 4; have hO1 := own_below HO.out hw1; have hO2 := own_kept hO1 hk2 (fun k hk => hN1.not_foot hO1 k hk); have HO2 := Aside0.mk hO2; have HN2 := Aside0.mk hn; have HB2 := Aside0.mk hb2; have hy : BytesAt w ((x.1.b, Value.slice Ab x.1.b.length cb) : List Int × Value).2 ((x.1.b, Value.slice Ab x.1.b.length cb) : List Int × Value).1 ∧ ((x.1.b, Value.slice Ab x.1.b.length cb) : List Int × Value).1.length ≤ 100 := ⟨HV.out ▸ H.out.bytes x (List.mem_of_getElem? HX.out), hx100⟩; have HY := Aside0.mk hy; have HG2 : Aside0 (∀ z ∈ g, SentG (S ++ [((x.1.b, Value.slice Ab x.1.b.length cb) : List Int × Value)]) z.1) := ⟨fun z hz => (HGd.out z hz).more _⟩; have HL2 := HGl; clear hw1 hN1 hn hk2 hb2 hb7 hb8 hO1 hO2 hy) | ((with_reducible refine gate_builtin (b := .append) (xs := #[.tmp 128, .tmp 131]) rfl ?_); at_builtin; refine wpList_step fun K hK => ?_; refine step_append_cells (w0 := w) w.heap.size (by rfl) (.tmp 128) (.tmp 131) 40 29 (.slice none 0 0) 1 24 (by rfl) Try.underlying40 info29' rfl (by decide) (by decide) (.slice As S.length cs5) S.length (S.map Prod.snd) [.slice Ab x.1.b.length cb] (by rfl) (by rfl) rfl ?h1 HO2.out HB2.out HB2.out.size ?hl ?_; (case h1 => intro u hu; rw [List.mem_singleton.1 hu]; rfl); (case hl => have := HSk.out; omega); intro v4 w4 ho4 hb4 hg4 hat4; obtain ⟨A4, c4, rfl⟩ := own_slice ho4; have HI2 := Aside0.mk (KeepsInv.sent (y := ((x.1.b, Value.slice Ab x.1.b.length cb) : List Int × Value)) HN2.out HO2.out HSk.out HS.out HY.out HG2.out HL2.out ho4 hb4 hg4); have HN4 := Aside0.mk (HN2.out.grown hg4 (fun k hk e => HN2.out.not_foot HO2.out k e.symm hk)); have hl20 : ¬ (20 : Int) < (g.length : Int) := (by have := HL2.out; omega); clear ho4 hb4 hg4 hat4; refine hK _ _ ?_; clear hK K) | (go_at_call 12; refine (Len.eq HN4.out).mono ?_; rintro e w7 ⟨rfl, rfl⟩))
            go_roundw
            case rel => exact ⟨k + 1, by omega, by go_num, HI2⟩
            case measure => simp [intOf]; omega
            -- END full
          ·
            -- CASE room
            have hl21 : ¬ (20 : Int) < (g.length : Int) + 1 := by have := HGl.out; omega
            go_wp2_with (first | ((with_reducible refine gate_callee (f := 7) rfl ?_); refine goesL_ _ rfl rfl Try.func7 (by kernel_rfl) rfl #[.int .i64 x.1.i, .int .i64 20] rfl (by (try simp only [List.map_toArray, List.map_cons, List.map_nil]); first | done | rfl) ?_; refine (inkhornlaw0_Low.calls x.1.i 20 kk _ HLW.out).mono ?_; rintro e w1 ⟨rfl, ⟨n1, rfl⟩⟩; refine ⟨_, rfl, ?_⟩) | (go_at_call 9; have hw0 : Below wr.heap.size wr ((wr.alloc (.cells #[.int .i64 x.1.act, .int .i64 x.1.i, .int .i64 x.1.j, .int .i64 x.1.x, .slice Ab x.1.b.length cb] 42)).drewN n1) := (pw_below_drewN (below_alloc (Below.refl _ _) _) _); have hN0 := HN.out.below hw0; have hB0 := below_step HK.out.below hw0; refine (Send.room w hB0 hN0 0 1 Ab x.1.b cb (fun w3 hk3 => C_same HCC.out (fun k hk => (hk3.2 k (Nat.lt_of_lt_of_le hk hB0.size) (fun hf => absurd (hN0.foot_low k hf) (Nat.not_le_of_lt hk))).trans (hB0.block k hk))) HCB.out (by omega) hroom (by have := HGl.out; omega) (by omega) (by have := HSk.out; omega)).mono ?_; rintro e w2 ⟨v2, fv2, rfl, hn, hk2, hb2, _⟩; have hw1 : Below wr.heap.size wr ((wr.alloc (.cells #[.int .i64 x.1.act, .int .i64 x.1.i, .int .i64 x.1.j, .int .i64 x.1.x, .slice Ab x.1.b.length cb] 42)).drewN n1) := (pw_below_drewN (below_alloc (Below.refl _ _) _) _); have hN1 := HN.out.below hw1; have hb7 : ((wr.alloc (.cells #[.int .i64 x.1.act, .int .i64 x.1.i, .int .i64 x.1.j, .int .i64 x.1.x, .slice Ab x.1.b.length cb] 42)).drewN n1).heap[wr.heap.size]? = some (.cells #[.int .i64 x.1.act, .int .i64 x.1.i, .int .i64 x.1.j, .int .i64 x.1.x, .slice Ab x.1.b.length cb] 42 (0, 0)) := heap_alloc_new wr _; have hb8 := (hk2.2 wr.heap.size (blk_lt hb7) (fun hf => absurd (HN.out.foot_lt _ hf) (Nat.lt_irrefl _))).trans hb7; have k4 : w2.cell? ⟨wr.heap.size, 4, none⟩ = some (.slice Ab x.1.b.length cb) := blk_cell hb8 4; have hO1 := own_below HO.out hw1; have hO2 := own_kept hO1 hk2 (fun k hk => hN1.not_foot hO1 k hk); have HO2 := Aside0.mk hO2; have HN2 := Aside0.mk hn; have HB2 := Aside0.mk hb2; have hy : BytesAt w ((x.1.b, Value.slice Ab x.1.b.length cb) : List Int × Value).2 ((x.1.b, Value.slice Ab x.1.b.length cb) : List Int × Value).1 ∧ ((x.1.b, Value.slice Ab x.1.b.length cb) : List Int × Value).1.length ≤ 100 := ⟨HV.out ▸ H.out.bytes x (List.mem_of_getElem? HX.out), hx100⟩; have HY := Aside0.mk hy; have hgr : ∀ z ∈ g ++ [((⟨(S.length : Int), 0, 1, x.1.b, false⟩ : Gr), fv2)], SentG (S ++ [((x.1.b, Value.slice Ab x.1.b.length cb) : List Int × Value)]) z.1 := (fun z hz => (List.mem_append.1 hz).elim (fun hz => (HGd.out z hz).more _) (fun hz => (List.mem_singleton.1 hz) ▸ SentG.fresh S _)); have HG2 := Aside0.mk hgr; have hgl2 : ((g ++ [((⟨(S.length : Int), 0, 1, x.1.b, false⟩ : Gr), fv2)]).length : Int) ≤ 20 := (by have := HGl.out; rw [List.length_append, List.length_singleton]; omega); have HL2 := Aside0.mk hgl2; clear hw0 hN0 hB0 hw1 hN1 hn hk2 hb2 hb7 hb8 hO1 hO2 hy hgr hgl2) | ((with_reducible refine gate_builtin (b := .append) (xs := #[.tmp 128, .tmp 131]) rfl ?_); at_builtin; refine wpList_step fun K hK => ?_; refine step_append_cells (w0 := w) w.heap.size (by rfl) (.tmp 128) (.tmp 131) 40 29 (.slice none 0 0) 1 24 (by rfl) Try.underlying40 info29' rfl (by decide) (by decide) (.slice As S.length cs5) S.length (S.map Prod.snd) [.slice Ab x.1.b.length cb] (by rfl) (by rfl) rfl ?h1 HO2.out HB2.out HB2.out.size ?hl ?_; (case h1 => intro u hu; rw [List.mem_singleton.1 hu]; rfl); (case hl => have := HSk.out; omega); intro v4 w4 ho4 hb4 hg4 hat4; obtain ⟨A4, c4, rfl⟩ := own_slice ho4; have HI2 := Aside0.mk (KeepsInv.sent (y := ((x.1.b, Value.slice Ab x.1.b.length cb) : List Int × Value)) HN2.out HO2.out HSk.out HS.out HY.out HG2.out HL2.out ho4 hb4 hg4); have HN4 := Aside0.mk (HN2.out.grown hg4 (fun k hk e => HN2.out.not_foot HO2.out k e.symm hk)); have hl20 : ¬ (20 : Int) < ((g ++ [((⟨(S.length : Int), 0, 1, x.1.b, false⟩ : Gr), fv2)]).length : Int) := (by have := HL2.out; omega); clear ho4 hb4 hg4 hat4; refine hK _ _ ?_; clear hK K) | (go_at_call 12; refine (Len.eq HN4.out).mono ?_; rintro e w7 ⟨rfl, rfl⟩))
            go_roundw
            case rel => exact ⟨k + 1, by omega, by go_num, HI2⟩
            case measure => simp [intOf]; omega
            -- END room
        have e0 : (x.1.act == 0) = false := beq_eq_false_iff_ne.2 (by omega)
        by_cases d2 : x.1.act = 2
        ·
          -- CASE d2
          have e2 : (x.1.act == 2) = true := beq_iff_eq.2 d2
          clear d0 d2
          go_wp2_with (first | ((with_reducible refine gate_callee (f := 7) rfl ?_); refine goesL_ _ rfl rfl Try.func7 (by kernel_rfl) rfl #[.int .i64 x.1.i, .int .i64 20] rfl (by (try simp only [List.map_toArray, List.map_cons, List.map_nil]); first | done | rfl) ?_; refine (inkhornlaw0_Low.calls x.1.i 20 kk _ HLW.out).mono ?_; rintro e w1 ⟨rfl, ⟨n1, rfl⟩⟩; refine ⟨_, rfl, ?_⟩) | (go_at_call 15; refine (Drop.any (HN.out.below (pw_below_drewN (below_alloc (Below.refl _ _) _) _)) w (below_step HK.out.below (pw_below_drewN (below_alloc (Below.refl _ _) _) _)) (by have := HGl.out; omega) kk).mono ?_; rintro e w2 ⟨r1, r2, l2, v2, rfl, ht⟩; have HI2 := Aside0.mk (KeepsInv.turn HK.out.below (pw_below_drewN (below_alloc (Below.refl _ _) _) _) (HN.out.below (pw_below_drewN (below_alloc (Below.refl _ _) _) _)) HO.out HSk.out HS.out HGd.out HGl.out ht); have HN2 := Aside0.mk ht.net; have hl20 : ¬ (20 : Int) < (l2.length : Int) := (by have := ht.room HGl.out; omega); clear ht) | (go_at_call 12; refine (Len.eq HN2.out).mono ?_; rintro e w7 ⟨rfl, rfl⟩))
          go_roundw
          case rel => exact ⟨k + 1, by omega, by go_num, HI2⟩
          case measure => simp [intOf]; omega
          -- END d2
        have e2 : (x.1.act == 2) = false := beq_eq_false_iff_ne.2 (by omega)
        by_cases d3 : x.1.act = 3
        ·
          -- CASE d3
          have e3 : (x.1.act == 3) = true := beq_iff_eq.2 d3
          clear d0 d2 d3
          go_wp2_with (first | ((with_reducible refine gate_callee (f := 7) rfl ?_); refine goesL_ _ rfl rfl Try.func7 (by kernel_rfl) rfl #[.int .i64 x.1.i, .int .i64 20] rfl (by (try simp only [List.map_toArray, List.map_cons, List.map_nil]); first | done | rfl) ?_; refine (inkhornlaw0_Low.calls x.1.i 20 kk _ HLW.out).mono ?_; rintro e w1 ⟨rfl, ⟨n1, rfl⟩⟩; refine ⟨_, rfl, ?_⟩) | (go_at_call 16; refine (Double.any (HN.out.below (pw_below_drewN (below_alloc (Below.refl _ _) _) _)) w (below_step HK.out.below (pw_below_drewN (below_alloc (Below.refl _ _) _) _)) (by have := HGl.out; omega) (fun y hy => ((HGd.out y hy).short HS.out).1) kk).mono ?_; rintro e w2 ⟨r1, l2, v2, rfl, ht⟩; have HI2 := Aside0.mk (KeepsInv.turn HK.out.below (pw_below_drewN (below_alloc (Below.refl _ _) _) _) (HN.out.below (pw_below_drewN (below_alloc (Below.refl _ _) _) _)) HO.out HSk.out HS.out HGd.out HGl.out ht); have HN2 := Aside0.mk ht.net; have hl20 : ¬ (20 : Int) < (l2.length : Int) := (by have := ht.room HGl.out; omega); clear ht) | (go_at_call 12; refine (Len.eq HN2.out).mono ?_; rintro e w7 ⟨rfl, rfl⟩))
          go_roundw
          case rel => exact ⟨k + 1, by omega, by go_num, HI2⟩
          case measure => simp [intOf]; omega
          -- END d3
        have e3 : (x.1.act == 3) = false := beq_eq_false_iff_ne.2 (by omega)
        by_cases d4 : x.1.act = 4
        ·
          -- CASE d4
          have e4 : (x.1.act == 4) = true := beq_iff_eq.2 d4
          clear d0 d2 d3 d4
          go_wp2_with (first | ((with_reducible refine gate_callee (f := 7) rfl ?_); refine goesL_ _ rfl rfl Try.func7 (by kernel_rfl) rfl #[.int .i64 x.1.i, .int .i64 20] rfl (by (try simp only [List.map_toArray, List.map_cons, List.map_nil]); first | done | rfl) ?_; refine (inkhornlaw0_Low.calls x.1.i 20 kk _ HLW.out).mono ?_; rintro e w1 ⟨rfl, ⟨n1, rfl⟩⟩; refine ⟨_, rfl, ?_⟩) | (go_at_call 17; refine (Spoil.any (HN.out.below (pw_below_drewN (below_alloc (Below.refl _ _) _) _)) w (below_step HK.out.below (pw_below_drewN (below_alloc (Below.refl _ _) _) _)) (by have := HGl.out; omega) (fun y hy => (HGd.out y hy).short HS.out) kk x.1.j x.1.x).mono ?_; rintro e w2 ⟨r1, l2, v2, rfl, ht⟩; have HI2 := Aside0.mk (KeepsInv.turn HK.out.below (pw_below_drewN (below_alloc (Below.refl _ _) _) _) (HN.out.below (pw_below_drewN (below_alloc (Below.refl _ _) _) _)) HO.out HSk.out HS.out HGd.out HGl.out ht); have HN2 := Aside0.mk ht.net; have hl20 : ¬ (20 : Int) < (l2.length : Int) := (by have := ht.room HGl.out; omega); clear ht) | (go_at_call 12; refine (Len.eq HN2.out).mono ?_; rintro e w7 ⟨rfl, rfl⟩))
          go_roundw
          case rel => exact ⟨k + 1, by omega, by go_num, HI2⟩
          case measure => simp [intOf]; omega
          -- END d4
        have e4 : (x.1.act == 4) = false := beq_eq_false_iff_ne.2 (by omega)
        clear d0 d2 d3 d4
        by_cases hin : kk < g.length
        ·
          -- CASE dyes
          obtain ⟨y, hy⟩ : ∃ y, g[kk]? = some y := ⟨_, List.getElem?_eq_getElem hin⟩
          have hsg := HGd.out y (List.mem_of_getElem? hy)
          obtain ⟨z, hz, hz1, hz2⟩ := hsg.ex
          obtain ⟨d, hd⟩ := Int.eq_ofNat_of_zero_le hsg.id0
          rw [hd, Int.toNat_natCast] at hz
          have hdS : d < S.length := (List.getElem?_eq_some_iff.1 hz).1
          obtain ⟨gs, cs6, hgs, _, _⟩ := HO.out.form (by omega)
          obtain ⟨rfl, rfl⟩ : As = some ⟨gs, 0, none⟩ ∧ cs5 = cs6 := by injection hgs with a b c; exact ⟨a, c⟩
          obtain ⟨⟨Az, cz, hzv, hcz, _, hzC, _⟩, _⟩ := HS.out z (List.mem_of_getElem? hz)
          have hlen2 : y.1.frame.length = z.1.length := by
            cases hs : y.1.spoilt with
            | false => rw [hz1 hs]
            | true => obtain ⟨_, _, _, _, _, e⟩ := hz2 hs; rw [e, List.length_set]
          obtain ⟨Ay, cy, hyv⟩ := own_slice (HN.out.frames y (List.mem_of_getElem? hy))
          have HD := Aside0.mk hd
          have HY := Aside0.mk hy
          have HSG := Aside0.mk hsg
          have HZ := Aside0.mk hz
          have HZV := Aside0.mk hzv
          have HZC := Aside0.mk hzC
          have HL2 := Aside0.mk hlen2
          have HYV := Aside0.mk hyv
          clear hd hy hsg hz hzv hzC hz1 hz2 hgs hlen2 hyv
          go_wp2_with (first | ((with_reducible refine gate_callee (f := 7) rfl ?_); refine goesL_ _ rfl rfl Try.func7 (by kernel_rfl) rfl #[.int .i64 x.1.i, .int .i64 20] rfl (by (try simp only [List.map_toArray, List.map_cons, List.map_nil]); first | done | rfl) ?_; refine (inkhornlaw0_Low.calls x.1.i 20 kk _ HLW.out).mono ?_; rintro e w1 ⟨rfl, ⟨n1, rfl⟩⟩; refine ⟨_, rfl, ?_⟩) | ((with_reducible refine gate_callee (f := 10) rfl ?_); refine goesL_ _ rfl rfl Try.func10 (by kernel_rfl) rfl #[.pointer (some ⟨p, 0, none⟩), .int .i64 kk] rfl (by (try simp only [List.map_toArray, List.map_cons, List.map_nil]); first | done | rfl) ?_; have hw0 : Below wr.heap.size wr ((wr.alloc (.cells #[.int .i64 x.1.act, .int .i64 x.1.i, .int .i64 x.1.j, .int .i64 x.1.x, .slice Ab x.1.b.length cb] 42)).drewN n1) := (pw_below_drewN (below_alloc (Below.refl _ _) _) _); have hN0 := HN.out.below hw0; have hB0 := below_step HK.out.below hw0; refine (Deliver.yes w hB0 hN0 kk y HY.out (by have := HGl.out; omega)).mono ?_; rintro e w2 ⟨v2, rfl, hn, hk2, hb2, _, ho2⟩; have HN2 := Aside0.mk hn; have HK2 := Aside0.mk hk2; have HB2 := Aside0.mk hb2; have HO2 := Aside0.mk ho2; have hO1 := own_below HO.out hw0; have HO3 := Aside0.mk (own_kept hO1 hk2 (fun k hk => hN0.not_foot hO1 k hk)); clear hw0 hN0 hB0 hn hk2 hb2 ho2 hO1; refine ⟨.tuple #[.agg #[.int .i64 (d : Int), .int .i64 0, .int .i64 1, .slice Ay z.1.length cy, .bool y.1.spoilt], .bool true], by rw [aggG, HD.out, HSG.out.src, HSG.out.dst, HYV.out, HL2.out], ?_⟩))
          have ho4 := own_alloc HO3.out (.cells #[.int .i64 (d : Int), .int .i64 0, .int .i64 1, .slice Ay z.1.length cy, .bool y.1.spoilt] 31)
          have hbk := heap_alloc_new w2 (.cells #[.int .i64 (d : Int), .int .i64 0, .int .i64 1, .slice Ay z.1.length cy, .bool y.1.spoilt] 31)
          have hbl := below_step HB2.out (below_alloc (Below.refl _ _) (.cells #[.int .i64 (d : Int), .int .i64 0, .int .i64 1, .slice Ay z.1.length cy, .bool y.1.spoilt] 31))
          have hfr := own_alloc HO2.out (.cells #[.int .i64 (d : Int), .int .i64 0, .int .i64 1, .slice Ay z.1.length cy, .bool y.1.spoilt] 31)
          rw [HYV.out] at hfr
          have hb3 := below_alloc (Below.refl w2.heap.size w2) (.cells #[.int .i64 (d : Int), .int .i64 0, .int .i64 1, .slice Ay z.1.length cy, .bool y.1.spoilt] 31)
          generalize w2.alloc (.cells #[.int .i64 (d : Int), .int .i64 0, .int .i64 1, .slice Ay z.1.length cy, .bool y.1.spoilt] 31) = W3 at *
          have HB3 := Aside0.mk hb3
          clear hb3
          have e0 : W3.cell? ⟨w2.heap.size, 0, none⟩ = some (.int .i64 (d : Int)) := blk_cell hbk 0
          have e1 : W3.cell? ⟨w2.heap.size, 1, none⟩ = some (.int .i64 0) := blk_cell hbk 1
          have e2 : W3.cell? ⟨w2.heap.size, 2, none⟩ = some (.int .i64 1) := blk_cell hbk 2
          have e3 : W3.cell? ⟨w2.heap.size, 3, none⟩ = some (.slice Ay z.1.length cy) := blk_cell hbk 3
          have e4 : W3.cell? ⟨w2.heap.size, 4, none⟩ = some (.bool y.1.spoilt) := blk_cell hbk 4
          have es : W3.cell? ⟨gs, d, none⟩ = some (.slice Az z.1.length cz) := by
            rw [own_cells_at ho4 d (by omega), List.getElem?_map, HZ.out, Option.map_some, HZV.out]
          have hdI : (d : Int) < (S.length : Int) := by omega
          have hdn : ((d : Int)).toNat = d := by omega
          have HBL := Aside0.mk hbl
          have HO4 := Aside0.mk ho4
          have HFR := Aside0.mk hfr
          clear hbk hbl hfr ho4
          go_quiet (fail)
          go_wp2_with fail
          go_loopw [13, 14] (fun u i wq => ∃ j : Nat, j ≤ z.1.length ∧ i = .int .i64 (j : Int) ∧ u = .int .i64 (cnt y.1.frame z.1 j : Int) ∧ Aside0 (Drawn0 W3 wq)) (fun _ i _ => z.1.length - (intOf i).toNat)
          case atStart => exact ⟨0, by omega, rfl, rfl, ⟨⟨nq, rfl⟩⟩⟩
          case round =>
            obtain ⟨j, hj, rfl, rfl, HDr⟩ := hrel
            obtain ⟨nw, rfl⟩ := HDr.out
            have hcl := cnt_le y.1.frame z.1 j
            have hz100 := (HS.out z (List.mem_of_getElem? HZ.out)).2
            by_cases hjl : j < z.1.length
            · obtain ⟨gy, cy2, hgy, _, _⟩ := HFR.out.form (by have := HL2.out; omega)
              obtain ⟨rfl, rfl⟩ : Ay = some ⟨gy, 0, none⟩ ∧ cy = cy2 := by injection hgy with a b c; exact ⟨a, c⟩
              obtain ⟨ad, rfl, hbz⟩ := (HZC.out).2.2 (by omega)
              have hjI : (j : Int) < (z.1.length : Int) := by omega
              have hjn : ((j : Int)).toNat = j := by omega
              have qf : W3.cell? ⟨gy, j, none⟩ = some (.int .u8 (y.1.frame.getD j 0)) := by
                rw [own_cells_at HFR.out j (by have := HL2.out; omega)]
                have hh : y.1.frame[j]? = some (y.1.frame.getD j 0) := by rw [List.getD_eq_getElem?_getD, List.getElem?_eq_getElem (by have := HL2.out; omega)]; rfl
                simp only [nums, List.getElem?_map, hh, Option.map_some]
              have qz : W3.cell? (ad.add j) = some (.int .u8 (z.1.getD j 0)) := by
                obtain ⟨cc, _, hcc, hcell⟩ := hbz j (z.1.getD j 0) (by rw [List.getD_eq_getElem?_getD, List.getElem?_eq_getElem hjl]; rfl)
                have hcc' : cc = [Value.int .u8 (z.1.getD j 0)] := hcc
                have := hcell 0 (.int .u8 (z.1.getD j 0)) (by rw [hcc']; rfl)
                rw [show j * (Kd.int IntKind.u8).sz + 0 = j from Nat.mul_one j] at this
                exact (HBL.out.cell (World.block_lt_of_cell? w _ this)).trans this
              have hstep := cnt_succ y.1.frame z.1 j
              generalize y.1.frame.getD j 0 = fb at *
              generalize z.1.getD j 0 = zb at *
              by_cases hfz : fb = zb
              · have hb1 : (fb != zb) = false := by rw [hfz]; simp
                rw [if_pos hfz] at hstep
                have HSt := Aside0.mk hstep
                clear hstep hfz hbz hgy
                go_wp2_with fail
                go_quiet (fail)
                go_wp2_with fail
                go_roundw
                case rel => exact ⟨j + 1, by omega, by go_num, by rw [HSt.out]; go_num, ⟨⟨⟨_, rfl⟩⟩⟩⟩
                case measure => simp [intOf]; omega
              · have hb1 : (fb != zb) = true := bne_iff_ne.2 hfz
                rw [if_neg hfz] at hstep
                have HSt := Aside0.mk hstep
                clear hstep hfz hbz hgy
                go_wp2_with fail
                go_quiet (fail)
                go_wp2_with fail
                go_roundw
                case rel => exact ⟨j + 1, by omega, by go_num, by rw [HSt.out]; go_num, ⟨⟨⟨_, rfl⟩⟩⟩⟩
                case measure => simp [intOf]; omega
            · have e : j = z.1.length := by omega
              subst e
              have hcz := HSG.out.cnt (z := z) (by rw [HD.out, Int.toNat_natCast]; exact HZ.out)
              have HI2 : ∀ m, Aside0 (KeepsInv w (W3.drewN m) p (.slice (some ⟨gs, 0, none⟩) S.length cs5) (k + 1)) := fun m => ⟨⟨pw_below_drewN HBL.out m, S, g.eraseIdx kk, v2, (HN2.out.below HB3.out).drewN m, by have := HSk.out; omega, HO4.out, HS.out, fun z' hz' => HGd.out z' (List.mem_of_mem_eraseIdx hz'), by have := HGl.out; have := List.length_eraseIdx_le g kk; omega⟩⟩
              have hl20 : ¬ (20 : Int) < ((g.eraseIdx kk).length : Int) := by have := HGl.out; have := List.length_eraseIdx_le g kk; omega
              have HNE := HN2.out.below HB3.out
              have HNE2 := Aside0.mk HNE
              have HSp := Aside0.mk hcz
              clear hcz HNE hcl
              generalize hcc : cnt y.1.frame z.1 z.1.length = cc at *
              cases hs : y.1.spoilt with
              | false =>
                rw [hs] at e4
                have hc0 := HSp.out
                rw [hs] at hc0
                simp only [Bool.false_eq_true, if_false, if_true] at hc0
                subst hc0
                go_wp2_with (first | (go_at_call 12; refine (Len.eq (HNE2.out.drewN _)).mono ?_; rintro e w7 ⟨rfl, rfl⟩))
                go_roundw
                case rel => exact ⟨k + 1, by omega, by go_num, HI2 _⟩
                case measure => simp [intOf]; omega
              | true =>
                rw [hs] at e4
                have hc0 := HSp.out
                rw [hs] at hc0
                simp only [Bool.false_eq_true, if_false, if_true] at hc0
                subst hc0
                go_wp2_with (first | (go_at_call 12; refine (Len.eq (HNE2.out.drewN _)).mono ?_; rintro e w7 ⟨rfl, rfl⟩))
                go_roundw
                case rel => exact ⟨k + 1, by omega, by go_num, HI2 _⟩
                case measure => simp [intOf]; omega
          -- END dyes
        ·
          -- CASE dno
          go_wp2_with (first | ((with_reducible refine gate_callee (f := 7) rfl ?_); refine goesL_ _ rfl rfl Try.func7 (by kernel_rfl) rfl #[.int .i64 x.1.i, .int .i64 20] rfl (by (try simp only [List.map_toArray, List.map_cons, List.map_nil]); first | done | rfl) ?_; refine (inkhornlaw0_Low.calls x.1.i 20 kk _ HLW.out).mono ?_; rintro e w1 ⟨rfl, ⟨n1, rfl⟩⟩; refine ⟨_, rfl, ?_⟩) | ((with_reducible refine gate_callee (f := 10) rfl ?_); refine goesL_ _ rfl rfl Try.func10 (by kernel_rfl) rfl #[.pointer (some ⟨p, 0, none⟩), .int .i64 kk] rfl (by (try simp only [List.map_toArray, List.map_cons, List.map_nil]); first | done | rfl) ?_; have hw0 : Below wr.heap.size wr ((wr.alloc (.cells #[.int .i64 x.1.act, .int .i64 x.1.i, .int .i64 x.1.j, .int .i64 x.1.x, .slice Ab x.1.b.length cb] 42)).drewN n1) := (pw_below_drewN (below_alloc (Below.refl _ _) _) _); have hN0 := HN.out.below hw0; have hB0 := below_step HK.out.below hw0; refine (Deliver.no hN0 kk (by omega)).mono ?_; rintro e w2 ⟨rfl, hb⟩; have HI2 : Aside0 (KeepsInv w (w2.alloc (.cells #[.int .i64 0, .int .i64 0, .int .i64 0, .slice none 0 0, .bool false] 31)) p (.slice As S.length cs5) (k + 1)) := ⟨⟨below_step hB0 (below_alloc hb _), S, g, v, (hN0.below hb).below (below_alloc (Below.refl _ _) _), by have := HSk.out; omega, own_below HO.out (below_step hw0 (below_alloc hb _)), HS.out, HGd.out, HGl.out⟩⟩; clear hw0 hN0 hB0 hb; refine ⟨.tuple #[.agg #[.int .i64 0, .int .i64 0, .int .i64 0, .slice none 0 0, .bool false], .bool false], rfl, ?_⟩))
          go_roundw
          case rel => exact ⟨k + 1, by omega, by go_num, HI2⟩
          case measure => simp [intOf]; omega
          -- END dno
      · have e : k = l.length := by omega
        subst e
        go_wp2_with (first | (go_at_call 13; refine (awake.calls _).mono ?_; rintro e w8 ⟨rfl, hb⟩; have HB5 := Aside0.mk (below_step HK.out.below hb); clear hb))
        go_ret
        exact ⟨rfl, HB5.out⟩
end Go.Proofs.Ytkomemnalpmbcaa.Nt
