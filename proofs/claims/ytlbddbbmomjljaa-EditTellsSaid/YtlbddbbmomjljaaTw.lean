/- EditTells, the walk: what the law's own text does, its callees being told. -/
import Derived.Test.YtlbddbbmomjljaaPTx3
import Derived.Test.YtlbddbbmomjljaaPvT
import Derived.Test.YtlbddbbmomjljaaPtT
import Derived.Test.YtlbddbbmomjljaaXlT
import Derived.Lib.Hide
import Derived.Outline
set_option linter.unusedVariables false
set_option linter.unusedSimpArgs false
namespace Go.Proofs.Ytlbddbbmomjljaa.PureT
open Go.RowKit Go.Proofs.Ytlbddbbmomjljaa.PT Go.Proofs.YtlbddbbmomjljaaW.PrintWords Go.Proofs.YtlbddbbmomjljaaW.PrintLast Go.Proofs.YtlbddbbmomjljaaW.PrintMore
open Go.Proofs.Ytlbddbbmomjljaa.Ed Go.Proofs.Ytlbddbbmomjljaa.PLT
attribute [local go_sem] max2_int min2_int max_two min_two max_three min_three max_four min_four

set_option maxHeartbeats 8000000 in
set_option maxRecDepth 100000 in
theorem tells_long (k : Nat) (A0 : Option Addr) (c0 : Nat) (a : List Int) (A1 : Option Addr) (c1 : Nat) (b : List Int) (w : World) (hr0 : Kd.C (Kd.int .i32) w A0 a.length a) (hc0 : a.length ≤ c0) (hr1 : Kd.C (Kd.int .i32) w A1 b.length b) (hc1 : b.length ≤ c1)
    (hl : inkhornlaw5_long.f a b = some true) (hk : inkhornlaw5_awake.f k = some true) :
    Calls Try.prog 3 #[.slice A0 a.length c0, .slice A1 b.length c1] w fun e w' => e = .returned (.bool true) ∧ Below w.heap.size w w' := by
  have HR0 := Aside0.mk hr0
  have HC0 := Aside0.mk hc0
  have HR1 := Aside0.mk hr1
  have HC1 := Aside0.mk hc1
  have HL := Aside0.mk hl
  have HK := Aside0.mk hk
  clear hr0 hc0 hr1 hc1 hl hk
  go_enter Try.func3, Try.ntmps3
  go_wp2_with (first | (go_at_call 15; refine (inkhornlaw5_long.calls _ _ a _ _ b true _ HR0.out HC0.out HR1.out HC1.out HL.out).mono ?_; rintro e w1 ⟨rfl, hd⟩; have HB := Aside0.mk hd.below; clear hd) | (go_at_call 16; refine (inkhornlaw5_awake.calls k true _ HK.out).mono ?_; rintro e w2 ⟨rfl, hb⟩; have HB2 := Aside0.mk (below_step HB.out hb); clear HB hb))
  go_ret
  exact ⟨rfl, HB2.out⟩

set_option maxHeartbeats 8000000 in
set_option maxRecDepth 100000 in
theorem tells_short (k : Nat) (A0 : Option Addr) (c0 : Nat) (a : List Int) (A1 : Option Addr) (c1 : Nat) (b : List Int) (w : World) (hr0 : Kd.C (Kd.int .i32) w A0 a.length a) (hc0 : a.length ≤ c0) (hr1 : Kd.C (Kd.int .i32) w A1 b.length b) (hc1 : b.length ≤ c1)
    (ha : a.length ≤ 1000) (hb : b.length ≤ 1000)
    (h1 : inkhornlaw5_long.f a b = some false) (h2 : inkhornlaw5_awake.f k = some true) (R : List Int) (h3 : edit_Rows.f k a b = some R) (d : Int) (h4 : edit_Runes.f k a b = some d) (h5 : inkhornref5_Runes.f k a b = some d)
    (h6 : inkhornref5_Rows.f k a b = some R) (h7 : inkhornlaw0_SameInts.f k R R = some true) (h8 : inkhornlaw0_SameRunes.f k a a = some true) (h9 : inkhornlaw0_SameRunes.f k b b = some true) (h10 : inkhornlaw0_OverInts.f k R = some ()) :
    Calls Try.prog 3 #[.slice A0 a.length c0, .slice A1 b.length c1] w fun e w' => e = .returned (.bool true) ∧ Below w.heap.size w w' := by
  have HR0 := Aside0.mk hr0
  have HC0 := Aside0.mk hc0
  have HR1 := Aside0.mk hr1
  have HC1 := Aside0.mk hc1
  have H1 := Aside0.mk h1
  have H2 := Aside0.mk h2
  have H3 := Aside0.mk h3
  have H4 := Aside0.mk h4
  have H5 := Aside0.mk h5
  have H6 := Aside0.mk h6
  have H7 := Aside0.mk h7
  have H8 := Aside0.mk h8
  have H9 := Aside0.mk h9
  have H10 := Aside0.mk h10
  have HA := Aside0.mk ha
  have HBl := Aside0.mk hb
  clear hr0 hc0 hr1 hc1 h1 h2 h3 h4 h5 h6 h7 h8 h9 h10 ha hb
  go_enter Try.func3, Try.ntmps3
  go_wp2_with fail
  refine (inkhornlaw5_long.calls _ _ a _ _ b false _ HR0.out HC0.out HR1.out HC1.out H1.out).mono ?_
  rintro e w1 ⟨rfl, hd⟩
  have HB := Aside0.mk hd.below
  clear hd H1
  go_wp2_with fail
  refine (LendRunes.calls A0 c0 a _ (Kd.C_below HR0.out HB.out) HC0.out HA.out).mono ?_
  rintro e w2 ⟨g, rfl, hL, hg, hb⟩
  have HL := Aside0.mk hL
  have HB2 := Aside0.mk (below_step HB.out hb)
  clear HB hL hg hb
  go_wp2_with fail
  refine (LendRunes.calls A1 c1 b _ (Kd.C_below HR1.out HB2.out) HC1.out HBl.out).mono ?_
  rintro e w3 ⟨g2, rfl, hL2, hg2, hb⟩
  have HL1 := Aside0.mk (HL.out.below hb)
  have HL2 := Aside0.mk hL2
  have HB3 := Aside0.mk (below_step HB2.out hb)
  clear HB2 HL hL2 hg2 hb
  go_wp2_with fail
  refine (edit_Rows.calls k _ _ a _ _ b R _ (HL1.out.reads HA.out) (by omega) (HL2.out.reads HBl.out) (by omega) H3.out).mono ?_
  rintro e w4 ⟨v, rfl, ho, hb⟩
  have HO := Aside0.mk (Kd.R_lower ho (below_size HB3.out))
  have HLa := Aside0.mk (HL1.out.below hb)
  have HLb := Aside0.mk (HL2.out.below hb)
  have HB4 := Aside0.mk (below_step HB3.out hb)
  clear HB3 HL1 HL2 ho hb
  obtain ⟨Av, cv, hv, hcv, _⟩ := Kd.R_reads HO.out
  subst hv
  have HCV := Aside0.mk hcv
  clear hcv
  go_wp2_with fail
  refine (edit_Runes.calls k _ _ a _ _ b d _ (HLa.out.reads HA.out) (by omega) (HLb.out.reads HBl.out) (by omega) H4.out).mono ?_
  rintro e w5 ⟨rfl, hb⟩
  have HO1 := Aside0.mk (Kd.R_below HO.out hb)
  have HLc := Aside0.mk (HLa.out.below hb)
  have HLd := Aside0.mk (HLb.out.below hb)
  have HB5 := Aside0.mk (below_step HB4.out hb)
  clear HB4 HLa HLb HO hb
  go_wp2_with fail
  refine (inkhornref5_Runes.calls k _ _ a _ _ b d _ (Kd.C_below HR0.out HB5.out) HC0.out (Kd.C_below HR1.out HB5.out) HC1.out H5.out).mono ?_
  rintro e w6 ⟨rfl, hb⟩
  have HO := Aside0.mk (Kd.R_below HO1.out hb)
  have HLa := Aside0.mk (HLc.out.below hb)
  have HLb := Aside0.mk (HLd.out.below hb)
  have HB4 := Aside0.mk (below_step HB5.out hb)
  clear HB5 HLc HLd HO1 hb
  have hdd : (d == d) = true := beq_self_eq_true d
  go_wp2_with fail
  refine (inkhornref5_Rows.calls k _ _ a _ _ b R _ (Kd.C_below HR0.out HB4.out) HC0.out (Kd.C_below HR1.out HB4.out) HC1.out H6.out).mono ?_
  rintro e w7 ⟨v2, rfl, ho2, hb⟩
  have HO1 := Aside0.mk (Kd.R_below HO.out hb)
  have HLc := Aside0.mk (HLa.out.below hb)
  have HLd := Aside0.mk (HLb.out.below hb)
  have HB5 := Aside0.mk (below_step HB4.out hb)
  obtain ⟨Av2, cv2, hv2, hcv2, hC2⟩ := Kd.R_reads ho2
  subst hv2
  have HC2 := Aside0.mk hC2
  have HCV2 := Aside0.mk hcv2
  clear HB4 HLa HLb HO hb ho2 hC2 hcv2
  go_wp2_with fail
  refine (inkhornlaw0_SameInts.calls k _ _ R _ _ R true _ (Kd.R_reads' HO1.out).2.2 HCV.out HC2.out HCV2.out H7.out).mono ?_
  rintro e w8 ⟨rfl, hd⟩
  have hb := hd.below
  have HO := Aside0.mk (Kd.R_below HO1.out hb)
  have HLa := Aside0.mk (HLc.out.below hb)
  have HLb := Aside0.mk (HLd.out.below hb)
  have HB4 := Aside0.mk (below_step HB5.out hb)
  clear HB5 HLc HLd HO1 hb hd HC2
  go_wp2_with fail
  refine (KeptRunes.calls k g a _ _ _ HLa.out (Kd.C_below HR0.out HB4.out) HC0.out HA.out H8.out).mono ?_
  rintro e w9 ⟨rfl, hb⟩
  have HO1 := Aside0.mk (Kd.R_below HO.out hb)
  have HLd := Aside0.mk (HLb.out.below hb)
  have HB5 := Aside0.mk (below_step HB4.out hb)
  clear HB4 HLa HLb HO hb
  go_wp2_with fail
  refine (KeptRunes.calls k g2 b _ _ _ HLd.out (Kd.C_below HR1.out HB5.out) HC1.out HBl.out H9.out).mono ?_
  rintro e w10 ⟨rfl, hb⟩
  have HO := Aside0.mk (Kd.R_below HO1.out hb)
  have HB4 := Aside0.mk (below_step HB5.out hb)
  clear HB5 HLd HO1 hb
  go_wp2_with fail
  refine (inkhornlaw0_OverInts.calls k (fun _ => True) _ R w _ HB4.out HO.out H10.out).mono ?_
  rintro e w11 ⟨rfl, hb, _⟩
  have HB5 := Aside0.mk hb
  clear HB4 HO hb
  go_wp2_with fail
  refine (edit_Rows.calls k _ _ a _ _ b R _ (Kd.C_below HR0.out HB5.out) HC0.out (Kd.C_below HR1.out HB5.out) HC1.out H3.out).mono ?_
  rintro e w12 ⟨v3, rfl, ho3, hb⟩
  have HB4 := Aside0.mk (below_step HB5.out hb)
  obtain ⟨Av3, cv3, hv3, hcv3, hC3⟩ := Kd.R_reads ho3
  subst hv3
  have HC3 := Aside0.mk hC3
  have HCV3 := Aside0.mk hcv3
  clear HB5 hb ho3 hC3 hcv3
  go_wp2_with fail
  refine (inkhornref5_Rows.calls k _ _ a _ _ b R _ (Kd.C_below HR0.out HB4.out) HC0.out (Kd.C_below HR1.out HB4.out) HC1.out H6.out).mono ?_
  rintro e w13 ⟨v4, rfl, ho4, hb⟩
  have HB5 := Aside0.mk (below_step HB4.out hb)
  have HC3 := Aside0.mk (Kd.C_below HC3.out hb)
  obtain ⟨Av4, cv4, hv4, hcv4, hC4⟩ := Kd.R_reads ho4
  subst hv4
  have HC4 := Aside0.mk hC4
  have HCV4 := Aside0.mk hcv4
  clear HB4 hb ho4 hC4 hcv4
  go_wp2_with fail
  refine (inkhornlaw0_SameInts.calls k _ _ R _ _ R true _ HC3.out HCV3.out HC4.out HCV4.out H7.out).mono ?_
  rintro e w14 ⟨rfl, hd⟩
  have HB4 := Aside0.mk (below_step HB5.out hd.below)
  clear HB5 hd
  go_wp2_with fail
  refine (inkhornlaw5_awake.calls k true _ H2.out).mono ?_
  rintro e w15 ⟨rfl, hb⟩
  have HB5 := Aside0.mk (below_step HB4.out hb)
  clear HB4 hb
  go_wp2_with fail
  go_ret
  exact ⟨rfl, HB5.out⟩
end Go.Proofs.Ytlbddbbmomjljaa.PureT
