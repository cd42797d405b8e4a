/- slices.Delete of grams; Deliver. -/
import Derived.Test.YtkomemnalpmbcaaNb
import Derived.Deep.RegionLaw
set_option linter.unusedVariables false
set_option linter.unusedSimpArgs false
namespace Go.Proofs.Ytkomemnalpmbcaa.Nt
open Go.RowKit Go.Proofs.YtkomemnalpmbcaaW.PrintWords Go.Proofs.YtkomemnalpmbcaaW.PrintLast Go.Proofs.YtkomemnalpmbcaaW.PrintMore
attribute [local go_sem] max2_int min2_int max_two min_two max_three min_three max_four min_four

theorem blk_setCells {t : TypeId} {g : Nat} : ∀ (vs : List Value) (o : Nat) (w : World) (cs : Array Value), w.heap[g]? = some (.cells cs t (0, 0)) → o + vs.length ≤ cs.size →
    ∃ cs', (w.setCells g o vs).heap[g]? = some (.cells cs' t (0, 0)) ∧ cs'.size = cs.size ∧ cs'.toList = cs.toList.take o ++ vs ++ cs.toList.drop (o + vs.length)
  | [], o, w, cs, h, _ => ⟨cs, h, rfl, by simp⟩
  | v :: r, o, w, cs, h, hl => by
    simp only [List.length_cons] at hl
    obtain ⟨cs', h1, h2, h3⟩ := blk_setCells r (o + 1) (w.setCell ⟨g, o, none⟩ v) (cs.setIfInBounds o v) (blk_set h o v) (by simp; omega)
    refine ⟨cs', h1, by simpa using h2, ?_⟩
    rw [h3]
    have hs : (cs.setIfInBounds o v).toList = cs.toList.set o v := by simp
    rw [hs]
    have e1 : (cs.toList.set o v).take (o + 1) = cs.toList.take o ++ [v] := by
      rw [List.take_set]
      apply List.ext_getElem?
      intro j
      rw [List.getElem?_set]
      rcases Nat.lt_trichotomy j o with hj | hj | hj
      · rw [if_neg (by omega), List.getElem?_append_left (by simp; omega), List.getElem?_take, List.getElem?_take, if_pos (by omega), if_pos hj]
      · subst hj
        rw [if_pos rfl, if_pos (by simp; omega), List.getElem?_append_right (by simp; omega)]
        have : j - (List.take j cs.toList).length = 0 := by simp; omega
        rw [this]
        rfl
      · rw [if_neg (by omega), List.getElem?_eq_none (by simp; omega), List.getElem?_eq_none (by simp; omega)]
    have e2 : (cs.toList.set o v).drop (o + 1 + r.length) = cs.toList.drop (o + (v :: r).length) := by
      rw [List.drop_set_of_lt (by omega)]
      congr 1
      simp only [List.length_cons]
      omega
    rw [e1, e2]
    simp

theorem run_clear_gram (w : World) (ty : TypeId) (b o c : Nat) (hc : ∀ j, j < 5 → (w.cell? ⟨b, o + j, none⟩).isSome = true) (hf : ∀ j, j < 5 → w.frozen? ⟨b, o + j, none⟩ = false) :
    (Builtin.clear_ #[54] ty #[.slice (some ⟨b, o, none⟩) 1 c]).run Try.prog w = .ok (.tuple #[]) (w.setCells b o [.int .i64 0, .int .i64 0, .int .i64 0, .slice none 0 0, .bool false]) := by
  have hst := run_storeCells_cells (P := Try.prog) b o [.int .i64 0, .int .i64 0, .int .i64 0, .slice none 0 0, .bool false] 0 w (by simpa using hc) (by simpa using hf) (by intro v hv'; simp only [List.mem_cons, List.not_mem_nil, or_false] at hv'; rcases hv' with rfl | rfl | rfl | rfl | rfl <;> rfl)
  simp only [Nat.add_zero] at hst
  have hv := Try.zeroValue31 w
  have hz : (Builtin.zeroCells (Value.cells (.agg #[.int .i64 0, .int .i64 0, .int .i64 0, .slice none 0 0, .bool false])) 1).toList = [.int .i64 0, .int .i64 0, .int .i64 0, .slice none 0 0, .bool false] := by
    simp [Builtin.zeroCells, Value.cells]
    rfl
  simp [Builtin.clear_, run_underlying Try.underlying54, hv, hz, hst]

theorem grown_setCells (g : Nat) : ∀ (vs : List Value) (o : Nat) (w : World), w.grownBy (w.setCells g o vs) (some g)
  | [], _, _ => ⟨rfl, rfl, rfl, Nat.le_refl _, fun _ _ _ => rfl⟩
  | v :: r, o, w => by
    have h := grown_setCells g r (o + 1) (w.setCell ⟨g, o, none⟩ v)
    refine ⟨h.os, h.tape, h.output, Nat.le_trans (by simp [World.setCell]) h.size, fun k hk hn => ?_⟩
    have hk' : k < (w.setCell ⟨g, o, none⟩ v).heap.size := by simpa [World.setCell] using hk
    exact (h.block k hk' hn).trans (Below.heap_setCell w _ _ k (fun e => hn (by rw [e])))
theorem grown_drew {w w' : World} {row : Option Nat} (h : w.drew.grownBy w' row) : w.grownBy w' row := ⟨h.os, h.tape, h.output, h.size, h.block⟩

theorem Delete.list {cs old : List Value} {n c i : Nat} (hi : i < n) (hn : n ≤ c) (hl : old.length = c * 5) (hcs : old.take (n * 5) = cs) (new1 new2 z : List Value) (hz : z.length = 5)
    (h1 : new1 = old.take (i * 5) ++ cs.drop ((i + 1) * 5) ++ old.drop (i * 5 + (cs.drop ((i + 1) * 5)).length)) (h2 : new2 = new1.take ((n - 1) * 5) ++ z ++ new1.drop ((n - 1) * 5 + 5)) : new2.take ((n - 1) * 5) = cs.take (i * 5) ++ cs.drop ((i + 1) * 5) := by
  have hcl : cs.length = n * 5 := by rw [← hcs, List.length_take]; omega
  have hd : (cs.drop ((i + 1) * 5)).length = (n - 1) * 5 - i * 5 := by rw [List.length_drop, hcl]; omega
  have ht : old.take (i * 5) = cs.take (i * 5) := by rw [← hcs, List.take_take]; congr 1; omega
  have hA : (cs.take (i * 5) ++ cs.drop ((i + 1) * 5)).length = (n - 1) * 5 := by rw [List.length_append, hd, List.length_take, hcl]; omega
  have e1 : new1.take ((n - 1) * 5) = cs.take (i * 5) ++ cs.drop ((i + 1) * 5) := by
    rw [h1, ht]
    exact List.take_left' hA
  rw [h2, e1, List.append_assoc]
  exact List.take_left' hA

set_option maxHeartbeats 8000000 in
set_option maxRecDepth 100000 in
theorem Delete.one (w : World) (B g n c i j : Nat) (cs : List Value) (hO : w.ownsRow B 31 5 (.slice (some ⟨g, 0, none⟩) n c) n cs) (hc1 : ∀ u ∈ cs, u.oneCell' = true) (hi : i < n) (hj : j = i + 1) (hn : n ≤ 100000) :
    Calls Try.prog 32 #[.slice (some ⟨g, 0, none⟩) n c, .int .i64 i, .int .i64 j] w fun e w' => e = .returned (.slice (some ⟨g, 0, none⟩) (n - 1) c) ∧ w'.ownsRow B 31 5 (.slice (some ⟨g, 0, none⟩) (n - 1) c) (n - 1) (cs.take (i * 5) ++ cs.drop ((i + 1) * 5)) ∧ w.grownBy w' (some g) := by
  have hnc : n ≤ c := own_le hO
  obtain ⟨i0, hi0, hzz⟩ := Option.map_eq_some_iff.1 info31'
  simp only [Prod.mk.injEq] at hzz
  obtain ⟨hz0, hz1, hz2⟩ := hzz
  obtain ⟨hl, ⟨h0, _⟩ | ⟨g', c', cur, hv, hBg, hH, _, hcm, hsz, htk⟩⟩ := hO
  · cases h0
  obtain ⟨rfl, rfl⟩ : g = g' ∧ c = c' := by injection hv with h1 h2 h3; injection h1 with h1; injection h1 with h1; exact ⟨h1, h3⟩
  obtain ⟨news, hnews⟩ : ∃ news, news = cs.drop ((i + 1) * 5) := ⟨_, rfl⟩
  have hlen : news.length = (n - j) * 5 := by rw [hnews, List.length_drop, hl]; omega
  have hcur : cur.toList.length = c * 5 := by simpa using hsz
  have hgetc : ∀ k, k < n * 5 → cur[k]? = cs[k]? := by
    intro k hk
    rw [← htk, List.getElem?_take, if_pos hk, Array.getElem?_toList]
  obtain ⟨A, hA, hsrc⟩ : ∃ A : Addr, (if c = j then some (⟨g, 0, none⟩ : Addr) else some ⟨g, j * 5, none⟩) = some A ∧ Aside0 (∀ t u, news[t]? = some u → w.drew.cell? (A.add t) = some u) := by
    by_cases h : c = j
    · refine ⟨⟨g, 0, none⟩, by simp [h], ⟨fun t u hu => ?_⟩⟩
      have h0 : news.length = 0 := by rw [hlen]; omega
      rw [List.length_eq_zero_iff.1 h0] at hu
      simp at hu
    · refine ⟨⟨g, j * 5, none⟩, by simp [h], ⟨fun t u hu => ?_⟩⟩
      have ht := (List.getElem?_eq_some_iff.1 hu).1
      rw [hlen] at ht
      rw [hnews, List.getElem?_drop] at hu
      rw [Addr.add_lit]
      rw [show w.drew.cell? ⟨g, j * 5 + t, none⟩ = w.cell? ⟨g, j * 5 + t, none⟩ from rfl, blk_cell hH, hgetc _ (by omega), hj]
      exact hu
  have s1 := Aside0.mk hlen
  have s2 : Aside0 (∀ u ∈ news, u.oneCell' = true) := ⟨fun u hu => hc1 u (by rw [hnews] at hu; exact List.mem_of_mem_drop hu)⟩
  have s3 : Aside0 (∀ t, t < news.length → (w.drew.cell? ⟨g, 0 + i * 5 + t, none⟩).isSome = true ∧ w.drew.frozen? ⟨g, 0 + i * 5 + t, none⟩ = false) := by
    refine ⟨fun t ht => ?_⟩
    rw [hlen] at ht
    refine ⟨?_, blk_frozen (w := w) hH _⟩
    rw [show w.drew.cell? ⟨g, 0 + i * 5 + t, none⟩ = w.cell? ⟨g, 0 + i * 5 + t, none⟩ from rfl, blk_cell hH, Array.getElem?_eq_getElem (by omega)]
    rfl
  obtain ⟨W1, hW1⟩ : ∃ W1, W1 = w.drew.setCells g (0 + i * 5) news := ⟨_, rfl⟩
  obtain ⟨cur1, hH1, hsz1, htl1⟩ := blk_setCells (t := 31) (g := g) news (0 + i * 5) w.drew cur hH (by omega)
  rw [← hW1] at hH1
  have hcl : ∀ ty, (Builtin.clear_ #[54] ty #[.slice (some ⟨g, (n - 1) * 5, none⟩) 1 (c - (n - 1))]).run Try.prog W1 = .ok (.tuple #[]) (W1.setCells g ((n - 1) * 5) [.int .i64 0, .int .i64 0, .int .i64 0, .slice none 0 0, .bool false]) := fun ty =>
    run_clear_gram W1 ty g ((n - 1) * 5) _ (fun k hk => by rw [blk_cell hH1, Array.getElem?_eq_getElem (by omega)]; rfl) (fun k hk => blk_frozen hH1 _)
  obtain ⟨cur2, hH2, hsz2, htl2⟩ := blk_setCells (t := 31) (g := g) [.int .i64 0, .int .i64 0, .int .i64 0, .slice none 0 0, .bool false] ((n - 1) * 5) W1 cur1 hH1 (by simp only [List.length_cons, List.length_nil]; omega)
  have hG : Aside0 (w.grownBy (W1.setCells g ((n - 1) * 5) [.int .i64 0, .int .i64 0, .int .i64 0, .slice none 0 0, .bool false]) (some g)) := by
    refine ⟨World.grownBy.trans ?_ (grown_setCells g _ _ W1)⟩
    rw [hW1]
    exact grown_drew (grown_setCells g _ _ _)
  have hF : Aside0 ((W1.setCells g ((n - 1) * 5) [.int .i64 0, .int .i64 0, .int .i64 0, .slice none 0 0, .bool false]).ownsRow B 31 5 (.slice (some ⟨g, 0, none⟩) (n - 1) c) (n - 1) (cs.take (i * 5) ++ cs.drop ((i + 1) * 5))) := by
    refine ⟨⟨?_, .inr ⟨g, c, cur2, rfl, hBg, hH2, by omega, hcm, by omega, ?_⟩⟩⟩
    · rw [List.length_append, List.length_take, List.length_drop, hl]
      omega
    · exact Delete.list hi hnc hcur htk cur1.toList cur2.toList _ rfl (by rw [htl1, hnews, Nat.zero_add]) htl2
  have hWA := Aside0.mk hW1
  have hic : i ≤ c := by omega
  have hjc : j ≤ c := by omega
  have hij : ¬ i = j := by omega
  have hij2 : i ≤ j := by omega
  have hijI : ((i : Int) == (j : Int)) = false := beq_eq_false_iff_ne.2 (by omega)
  have hjn : j ≤ n := by omega
  have hn1 : i + (n - j) = n - 1 := by omega
  have hn2 : n - (n - 1) = 1 := by omega
  have hn3 : n - 1 ≤ n := by omega
  have hn4 : ¬ c = n - 1 := by omega
  have HI := Aside0.mk hi0
  have HJ := Aside0.mk hj
  clear hj
  clear hW1 hH1 hH hgetc hnews hlen htl1 htl2 hH2 hsz2 hsz1 hcur hsz htk hcm hBg hl hv hc1
  go_enter Try.func32, Try.ntmps32
  go_wp2_with fail
  go_region_law (refine step_append_room rfl (.tmp 22) (.tmp 25) 54 rfl 31 i0 5 Try.underlying54 HI.out hz1 g 0 i c (by simp [Act.eval, Act.put]) A (n - j) (c - j) news (by simp [Act.eval, Act.put]) s1.out hsrc.out s2.out (by omega) s3.out ?_; rw [← hWA.out])
  go_wp2
  go_ret
  exact ⟨rfl, hF.out, hG.out⟩
/-! ### Deliver -/
def noGram : Value := .agg #[.int .i64 0, .int .i64 0, .int .i64 0, .slice none 0 0, .bool false]
def aggG (x : Gr × Value) : Value := .agg #[.int .i64 x.1.id, .int .i64 x.1.src, .int .i64 x.1.dst, x.2, .bool x.1.spoilt]
theorem size31 : (Try.prog.info? 31).map (·.size) = some 5 := by kernel_rfl
theorem results_gram {fn : Func} {p u : Tmp} (h : fn.results = #[.cell p 31, .tmp u]) (tmps : Array Value) (w : World) (g : Nat) (cs : Array Value) (hp : tmps.getD p undef = .pointer (some ⟨g, 0, none⟩)) (hg : w.heap[g]? = some (.cells cs 31 (0, 0))) (hs : cs.size = 5) :
    (results fn tmps).run Try.prog w = .ok (.tuple #[.agg cs, tmps.getD u undef]) w :=
  results_ct h tmps w g 31 cs (0, 0) _ hp hg Try.underlying31 rfl (by rw [hs]; exact size31)
set_option maxHeartbeats 4000000 in
theorem Deliver.nil (i : Int) (w : World) : Calls Try.prog 10 #[.pointer none, .int .i64 i] w fun e w' => e = .returned (.tuple #[noGram, .bool false]) ∧ Below w.heap.size w w' := by
  go_enter Try.func10, Try.ntmps10
  go_wp2_with (first | ((with_reducible refine gate_callee (f := 31) rfl ?_); refine goesL_ (some 9) rfl rfl Try.func31 (by kernel_rfl) rfl #[.pointer none, .int .i64 i] rfl (by (try simp only [List.map_toArray, List.map_cons, List.map_nil]); first | done | rfl) ?_; refine (is.nil i _).mono ?_; rintro e w' ⟨rfl, rfl⟩; refine ⟨_, rfl, ?_⟩))
  refine bodyPost_ret_by (results_gram rfl _ _ w.heap.size _ rfl (blk_new _ _) rfl) rfl ?_
  exact ⟨rfl, below_alloc (Below.refl _ _) _⟩
set_option maxHeartbeats 4000000 in
theorem Deliver.no {w : World} {B p : Nat} {most next : Int} {l : List (Gr × Value)} {v : Value} (h : NetAt w B p most next l v) (i : Int) (hi : ¬ (0 ≤ i ∧ i < (l.length : Int))) :
    Calls Try.prog 10 #[.pointer (some ⟨p, 0, none⟩), .int .i64 i] w fun e w' => e = .returned (.tuple #[noGram, .bool false]) ∧ Below w.heap.size w w' := by
  have HN := Aside0.mk h
  have HI := Aside0.mk hi
  clear h hi
  go_enter Try.func10, Try.ntmps10
  go_wp2_with (first | ((with_reducible refine gate_callee (f := 31) rfl ?_); refine goesL_ (some 9) rfl rfl Try.func31 (by kernel_rfl) rfl #[.pointer (some ⟨p, 0, none⟩), .int .i64 i] rfl (by (try simp only [List.map_toArray, List.map_cons, List.map_nil]); first | done | rfl) ?_; refine (is.eq (HN.out.below (below_alloc (Below.refl _ _) _)) i).mono ?_; rintro e w' ⟨rfl, rfl⟩; refine ⟨_, rfl, ?_⟩; rw [decide_eq_false HI.out]))
  refine bodyPost_ret_by (results_gram rfl _ _ w.heap.size _ rfl (blk_new _ _) rfl) rfl ?_
  exact ⟨rfl, below_alloc (Below.refl _ _) _⟩

theorem rowG_take (l : List (Gr × Value)) (k : Nat) : rowG (l.take k) = (rowG l).take (k * 5) := by
  induction l generalizing k with
  | nil => simp [rowG]
  | cons x l ih =>
    cases k with
    | zero => simp [rowG]
    | succ k =>
      rw [List.take_succ_cons]
      simp only [rowG, List.flatMap_cons] at *
      rw [ih, show (k + 1) * 5 = (cellsG x).length + k * 5 by rw [cellsG_length]; omega, List.take_length_add_append]
theorem rowG_drop (l : List (Gr × Value)) (k : Nat) : rowG (l.drop k) = (rowG l).drop (k * 5) := by
  induction l generalizing k with
  | nil => simp [rowG]
  | cons x l ih =>
    cases k with
    | zero => simp [rowG]
    | succ k =>
      rw [List.drop_succ_cons]
      simp only [rowG, List.flatMap_cons] at *
      rw [ih, show (k + 1) * 5 = (cellsG x).length + k * 5 by rw [cellsG_length]; omega, List.drop_length_add_append]
theorem rowG_at (l : List (Gr × Value)) (k : Nat) (x : Gr × Value) (h : l[k]? = some x) (j : Nat) (hj : j < 5) : (rowG l)[k * 5 + j]? = (cellsG x)[j]? := by
  have hk := (List.getElem?_eq_some_iff.1 h).1
  have e : rowG (l.drop k) = cellsG x ++ rowG (l.drop (k + 1)) := by
    rw [List.drop_eq_getElem_cons hk]
    have : l[k] = x := by rw [List.getElem?_eq_getElem hk] at h; exact Option.some.inj h
    rw [this]
    rfl
  rw [rowG_drop] at e
  rw [← List.getElem?_drop, e, List.getElem?_append_left (by rw [cellsG_length]; exact hj)]
theorem rowG_one' (l : List (Gr × Value)) : (∀ x ∈ l, ∀ u ∈ cellsG x, u.oneCell' = true) → ∀ u ∈ rowG l, u.oneCell' = true := by
  intro h u hu
  obtain ⟨x, hx, hu⟩ := List.mem_flatMap.1 hu
  exact h x hx u hu
theorem rowG_erase (l : List (Gr × Value)) (k : Nat) : rowG (l.eraseIdx k) = (rowG l).take (k * 5) ++ (rowG l).drop ((k + 1) * 5) := by
  rw [List.eraseIdx_eq_take_drop_succ, rowG_append, rowG_take, rowG_drop]
theorem NetAt.one {w : World} {B p : Nat} {most next : Int} {l : List (Gr × Value)} {v : Value} (h : NetAt w B p most next l v) : ∀ u ∈ rowG l, u.oneCell' = true := by
  refine rowG_one' l fun x hx u hu => ?_
  obtain ⟨A, c, e⟩ := own_slice (h.frames x hx)
  simp only [cellsG, e, List.mem_cons, List.not_mem_nil, or_false] at hu
  rcases hu with rfl | rfl | rfl | rfl | rfl <;> rfl
end Go.Proofs.Ytkomemnalpmbcaa.Nt
