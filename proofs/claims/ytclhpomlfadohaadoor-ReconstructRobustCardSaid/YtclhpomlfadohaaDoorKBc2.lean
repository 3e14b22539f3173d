/- Contracts of Go functions, one theorem each: the call returns just what the plain function says. Printed by a program of this claim. -/
import Derived.Test.YtclhpomlfadohaaDoorKBc1
set_option linter.unusedVariables false
namespace Go.Proofs.YtclhpomlfadohaaDoor
open Go Gv Gw Pu
set_option maxHeartbeats 4000000
theorem c_privityref14_New {p_w : T_api_Scenario} {vp_w_1 : Value} {vp_w_2 : Value} {vp_w_3 : Value} {r : Unit ⊕ T_privityref14_Net} (h : privityref14_New p_w = some r) : Ct Tryd.prog 63 [.agg #[.int .u64 p_w.S.P, .int .i64 p_w.S.N, .int .i64 p_w.S.T, vp_w_1, vp_w_2, vp_w_3]] [rdV Kd.i64 vp_w_1 p_w.Corrupt, rdV K_api_Deviation vp_w_2 p_w.Deviations, rdV (Kd.sl Kd.u64) vp_w_3 p_w.Tapes] ((sumP (fun r v L => v = .tuple #[(.pointer none), .int .i64 ((1 : Nat) : Int)] ∧ L = []) (fun r v L => ∃ w0 w0__0_1 w0__0_2 w0__0_3 w0__2 w0__3 : Value, v = .tuple #[w0, .int .i64 ((0 : Nat) : Int)] ∧ L = [blkP w0 147 [.int .u64 r.zw.S.P, .int .i64 r.zw.S.N, .int .i64 r.zw.S.T, w0__0_1, w0__0_2, w0__0_3, .int .i64 r.zround, (th w0__2), w0__3], rdV Kd.i64 w0__0_1 r.zw.Corrupt, rdV K_api_Deviation w0__0_2 r.zw.Deviations, rdV (Kd.sl Kd.u64) w0__0_3 r.zw.Tapes, treeV (rowK K_api_Event 67) 46 (th w0__2) (tg w0__2) r.zviews, ownV Kd.any 148 w0__3 r.ztapes])) r) := by
 refine ct_intro Tryd.func63 rfl (by kernel_rfl) (fun F => ?_)
 unfold privityref14_New at h
 refine wh_seq ?_
 refine wh_region ?_
 refine w_box (t := 29) (v := .agg #[.int .u64 p_w.S.P, .int .i64 p_w.S.N, .int .i64 p_w.S.T, vp_w_1, vp_w_2, vp_w_3]) (cs := [.int .u64 p_w.S.P, .int .i64 p_w.S.N, .int .i64 p_w.S.T, vp_w_1, vp_w_2, vp_w_3]) (cv0 (by kernel_rfl)) (by kernel_rfl) (fun q1 => ?_)
 refine WI.hd (y := blkP q1 29 [.int .u64 p_w.S.P, .int .i64 p_w.S.N, .int .i64 p_w.S.T, vp_w_1, vp_w_2, vp_w_3]) (by kernel_rfl) ?_
 refine w_opP 0 rfl (fun b1 hb => ?_)
 subst hb
 refine w_p Tb_ok 2 (by kernel_rfl) ?_
 refine wi_end (by kernel_rfl) ?_
 refine qh_then ?_
 refine wh_seq ?_
 refine wh_seq ?_
 refine wh_region ?_
 refine w_ldB 0 0 rfl (by kernel_rfl) ti_29 rfl rfl ?_
 obtain ⟨r1, er1, h1⟩ := bnd h
 refine w_fn [(1, true), (2, true), (3, true)] (c_privityref12_ValidScenario er1) rfl fok_75 (by kernel_rfl) ?_
 rintro _ _ ⟨hv, rfl⟩; have hv := hv.symm; subst hv
 refine w_p Tb_ok 1 (by kernel_rfl) ?_
 refine wi_end (by kernel_rfl) ?_
 refine qh_then ?_
 rcases bcase h1 with ⟨t1, h2⟩ | ⟨t1, h2⟩
 ·
  refine h_ct (b := (!r1)) t1 (by kernel_rfl) ?_
  refine wh_seq ?_
  refine wh_region ?_
  refine w_p Tb_ok 2 (by kernel_rfl) ?_
  refine wi_end (by kernel_rfl) ?_
  refine qh_then ?_
  refine wh_ret ?_
  refine qh_then_ret ?_
  have h2 := Option.some.inj h2; subst h2
  exact q_end (l := [(.pointer none), .int .i64 ((1 : Nat) : Int)]) [] 4 (inlP ⟨rfl, rfl⟩) (.inl rfl) (by kernel_rfl) (by kernel_rfl) (by kernel_rfl)
 ·
  refine h_cf (b := (!r1)) t1 (by kernel_rfl) ?_
  refine wh_skip ?_
  refine qh_then ?_
  refine wh_seq ?_
  obtain ⟨l1, el1, h3⟩ := bnd h2
  refine h_flow [0, 0, 2, 6, 14, 31, 63, 127] ⟨4, [0, 0, 0, 0, 1, 0, 1, 0], [], [(0, [(0, 0)]), (3, [(0, 0)]), (5, [(5, 0)])], []⟩ (fun γ => [.agg #[.int .u64 p_w.S.P, .int .i64 p_w.S.N, .int .i64 p_w.S.T, vp_w_1, vp_w_2, vp_w_3], .pointer (some ⟨b1, 0, none⟩), .pointer (some ⟨b1, 1, none⟩), .int .i64 p_w.S.N, (γ 4 0), .agg #[.int .u64 p_w.S.P, .int .i64 p_w.S.N, .int .i64 p_w.S.T, vp_w_1, vp_w_2, vp_w_3, .int .i64 ((0 : Nat) : Int), (γ 4 0), (.slice none 0 0)], (γ 6 0), (γ 6 0)]) (fun i γ => match i with | 4 => [treeV (rowK K_api_Event 67) 46 (γ 4 0) (List.replicate p_w.S.N.toNat (.slice none 0 0)) l1] | 6 => [blkP (γ 6 0) 147 [.int .u64 p_w.S.P, .int .i64 p_w.S.N, .int .i64 p_w.S.T, vp_w_1, vp_w_2, vp_w_3, .int .i64 ((0 : Nat) : Int), (γ 4 0), (.slice none 0 0)]] | _ => []) (fun γ => [blkP (.pointer (some ⟨b1, 0, none⟩)) 29 [.int .u64 p_w.S.P, .int .i64 p_w.S.N, .int .i64 p_w.S.T, vp_w_1, vp_w_2, vp_w_3], rdV Kd.i64 vp_w_1 p_w.Corrupt, rdV K_api_Deviation vp_w_2 p_w.Deviations, rdV (Kd.sl Kd.u64) vp_w_3 p_w.Tapes, treeV (rowK K_api_Event 67) 46 (γ 4 0) (List.replicate p_w.S.N.toNat (.slice none 0 0)) l1, blkP (γ 6 0) 147 [.int .u64 p_w.S.P, .int .i64 p_w.S.N, .int .i64 p_w.S.T, vp_w_1, vp_w_2, vp_w_3, .int .i64 ((0 : Nat) : Int), (γ 4 0), (.slice none 0 0)]] ++ F) [1, 2, 7] tryd_mix Tb_ok (by kernel_rfl) (by kernel_rfl) (fun _ => by kernel_rfl) (fun _ => by kernel_rfl) (fun _ => by kernel_rfl) (fun _ => by kernel_rfl) (fun _ => by kernel_rfl) (fun _ => by kernel_rfl) (fun _ => by kernel_rfl) ?_ ?_
  ·
   refine ⟨?_, ?_, ?_, ?_, ?_, trivial⟩
   ·
    intro γ F
    refine WI.reH (H' := [blkP (.pointer (some ⟨b1, 0, none⟩)) 29 [.int .u64 p_w.S.P, .int .i64 p_w.S.N, .int .i64 p_w.S.T, vp_w_1, vp_w_2, vp_w_3]] ++ F) (by kernel_rfl) ?_
    refine w_ldB 0 0 rfl (by kernel_rfl) ti_29 rfl rfl ?_
    exact wE (gl []) [(0, false)] 0
   ·
    intro γ F
    refine WI.reH (H' := [blkP (.pointer (some ⟨b1, 0, none⟩)) 29 [.int .u64 p_w.S.P, .int .i64 p_w.S.N, .int .i64 p_w.S.T, vp_w_1, vp_w_2, vp_w_3]] ++ F) (by kernel_rfl) ?_
    refine w_ldB 0 1 rfl (by kernel_rfl) ti_3 rfl rfl ?_
    exact wE (gl []) [(0, false)] 0
   ·
    intro γ F
    refine WI.reH (H' := [] ++ F) (by kernel_rfl) ?_
    refine w_mkT (rowK K_api_Event 67) new_row (kl := .i64) (kc := .i64) el1 (by kernel_rfl) ts_116 ti_46 rfl (fun v1 => ?_)
    exact wE (gl [v1]) [(0, false)] 0
   ·
    intro γ F
    refine WI.reH (H' := [treeV (rowK K_api_Event 67) 46 (γ 4 0) (List.replicate p_w.S.N.toNat (.slice none 0 0)) l1] ++ F) (by kernel_rfl) ?_
    refine w_bd (v := .agg #[.int .u64 p_w.S.P, .int .i64 p_w.S.N, .int .i64 p_w.S.T, vp_w_1, vp_w_2, vp_w_3, .int .i64 ((0 : Nat) : Int), (γ 4 0), (.slice none 0 0)]) (t := 147) (ps0 := [(0, .agg #[.int .u64 p_w.S.P, .int .i64 p_w.S.N, .int .i64 p_w.S.T, vp_w_1, vp_w_2, vp_w_3]), (2, (γ 4 0))]) (ps := [(0, .agg #[.int .u64 p_w.S.P, .int .i64 p_w.S.N, .int .i64 p_w.S.T, vp_w_1, vp_w_2, vp_w_3]), (2, .agg #[(γ 4 0)])]) (scI (scS (tree_hdI (inP 0 rfl)) sc0)) (by kernel_rfl) (fun w => by kernel_rfl) ?_
    exact wE (gl []) [(0, false)] 0
   ·
    intro γ F
    refine WI.reH (H' := [] ++ F) (by kernel_rfl) ?_
    refine w_box (t := 147) (v := .agg #[.int .u64 p_w.S.P, .int .i64 p_w.S.N, .int .i64 p_w.S.T, vp_w_1, vp_w_2, vp_w_3, .int .i64 ((0 : Nat) : Int), (γ 4 0), (.slice none 0 0)]) (cs := [.int .u64 p_w.S.P, .int .i64 p_w.S.N, .int .i64 p_w.S.T, vp_w_1, vp_w_2, vp_w_3, .int .i64 ((0 : Nat) : Int), (γ 4 0), (.slice none 0 0)]) (cv0 (by kernel_rfl)) (by kernel_rfl) (fun q2 => ?_)
    refine WI.hd (y := blkP q2 147 [.int .u64 p_w.S.P, .int .i64 p_w.S.N, .int .i64 p_w.S.T, vp_w_1, vp_w_2, vp_w_3, .int .i64 ((0 : Nat) : Int), (γ 4 0), (.slice none 0 0)]) (by kernel_rfl) ?_
    exact wE (gl [q2]) [(0, false)] 0
  ·
   intro γ1
   refine q_opS 4 5 (by kernel_rfl) rfl (fun b2 => ?_)
   refine qh_then ?_
   refine wh_seq ?_
   refine wh_seq ?_
   refine wh_region ?_
   refine w_p Tb_ok 1 (by kernel_rfl) ?_
   refine wi_end (by kernel_rfl) ?_
   refine qh_then ?_
   refine WH.ent (ownNil (kd := Kd.any) (e := 148)) ?_
   obtain ⟨u1, eu1, h4⟩ := bnd h3
   have hN1 := ckN_some eu1
   obtain ⟨l3, el1, h5⟩ := bnd h4
   refine h_join (X := Value) (fun g => [(4, (.pointer (some ⟨b2, 0, none⟩)))]) (fun g => [rdV Kd.i64 vp_w_1 p_w.Corrupt, rdV K_api_Deviation vp_w_2 p_w.Deviations, rdV (Kd.sl Kd.u64) vp_w_3 p_w.Tapes, blkP (.pointer (some ⟨b2, 0, none⟩)) 147 [.int .u64 p_w.S.P, .int .i64 p_w.S.N, .int .i64 p_w.S.T, vp_w_1, vp_w_2, vp_w_3, .int .i64 ((0 : Nat) : Int), (γ1 4 0), g], treeV (rowK K_api_Event 67) 46 (γ1 4 0) (List.replicate p_w.S.N.toNat (.slice none 0 0)) l1, ownV Kd.any 148 g l3] ++ F) (fun _ => True) ?_ ?_
   ·
    refine wh_block ?_
    refine h_rs (fun (k1 : Nat) (st : (List Unit)) (g : Value) => [(1, (.pointer (some ⟨b1, 0, none⟩))), (4, (.pointer (some ⟨b2, 0, none⟩))), (5, .int .i64 ((k1 : Nat) : Int))]) (fun (k1 : Nat) (st : (List Unit)) (g : Value) => [blkP (.pointer (some ⟨b1, 0, none⟩)) 29 [.int .u64 p_w.S.P, .int .i64 p_w.S.N, .int .i64 p_w.S.T, vp_w_1, vp_w_2, vp_w_3], rdV Kd.i64 vp_w_1 p_w.Corrupt, rdV K_api_Deviation vp_w_2 p_w.Deviations, rdV (Kd.sl Kd.u64) vp_w_3 p_w.Tapes, blkP (.pointer (some ⟨b2, 0, none⟩)) 147 [.int .u64 p_w.S.P, .int .i64 p_w.S.N, .int .i64 p_w.S.T, vp_w_1, vp_w_2, vp_w_3, .int .i64 ((0 : Nat) : Int), (γ1 4 0), g], treeV (rowK K_api_Event 67) 46 (γ1 4 0) (List.replicate p_w.S.N.toNat (.slice none 0 0)) l1, ownV Kd.any 148 g st] ++ F) (.slice none 0 0) el1 (Nat.le_max_left ..) aK (tH [(2, false), (2, true), (3, true), (4, true), (1, false), (4, false), (0, false)] 3) ?_ ?_
    ·
     rintro g3 j
     refine wh_seq ?_
     refine wh_seq ?_
     refine wh_region ?_
     refine w_p Tb_ok 3 (by kernel_rfl) ?_
     refine w_ldB 0 1 rfl (by kernel_rfl) ti_3 rfl rfl ?_
     refine w_p Tb_ok 1 (by kernel_rfl) ?_
     refine wi_end (by kernel_rfl) ?_
     refine qh_then ?_
     refine h_cf (b := (decide ((((max 0 (p_w.S.N).toNat) : Nat) : Int) < p_w.S.N))) rgLF (by kernel_rfl) ?_
     refine wh_exit ?_
     refine qh_then_exit ?_
     refine q_rzX ?_
     refine qh_block_exit ?_
     exact q_join g3 trivial aK (tH [(1, true), (2, true), (3, true), (4, false), (4, false), (4, false)] 4)
    ·
     rintro rem k1 l2 g1 o1 hk1 h6 hn1 j
     have h6 : privityref14_New_L0 p_w k1 l2 = some o1 := h6
     unfold privityref14_New_L0 at h6
     refine wh_seq ?_
     refine wh_seq ?_
     refine wh_region ?_
     refine w_p Tb_ok 3 (by kernel_rfl) ?_
     refine w_ldB 0 1 rfl (by kernel_rfl) ti_3 rfl rfl ?_
     refine w_p Tb_ok 1 (by kernel_rfl) ?_
     refine wi_end (by kernel_rfl) ?_
     refine qh_then ?_
     refine h_ct (b := (decide (((k1 : Nat) : Int) < p_w.S.N))) (rgLT hk1) (by kernel_rfl) ?_
     refine wh_skip ?_
     refine qh_then ?_
     refine wh_seq ?_
     refine wh_block ?_
     refine WH.ent (hd_add (tree_hdI (inP 5 rfl))) ?_
     obtain ⟨x2, ex2, h7⟩ := bnd h6
     obtain ⟨r3, er3, h8⟩ := bnd h7
     obtain ⟨l4, el4, h9⟩ := bnd h8
     refine h_flow [0, 0, 2, 6, 14, 0, 32, 0, 224, 480, 992, 2016, 4094, 8191, 16383, 32767] ⟨8, [0, 0, 0, 0, 0, 0, 0, 0, 0, 1, 2, 1, 1, 0, 0, 1], [(12, [(0, 7)]), (15, [(0, 5)])], [(4, [(0, 5)]), (6, [(0, 1)]), (11, [(11, 0)]), (12, [(12, 0)]), (15, [(13, 0)])], [(8, [(0, 4)]), (9, [(0, 4)]), (10, [(10, 0)])]⟩ (fun γ => [(.pointer (some ⟨b2, 0, none⟩)), (.pointer (some ⟨b2, 0, none⟩)), (.pointer (some ⟨b2, 0, none⟩)), .pointer (some ⟨b2, 8, none⟩), g1, .pointer (some ⟨b1, 5, none⟩), vp_w_3, .int .i64 ((k1 : Nat) : Int), .pointer (some (elV vp_w_3 (k1 * (Kd.sl Kd.u64).size))), (γ 9 0), (γ 10 0), (γ 11 0), (γ 12 0), (.pointer (some ⟨b2, 0, none⟩)), .pointer (some ⟨b2, 8, none⟩), undef]) (fun i γ => match i with | 9 => [rdV Kd.u64 (γ 9 0) x2] | 10 => [blkP (γ 10 0) 177 [(γ 10 1), .int .i64 r3.At], ownV Kd.u64 22 (γ 10 1) r3.Words] | 11 => [ownV Kd.any 148 (γ 11 0) ([()] : List Unit)] | 12 => [ownV Kd.any 148 (γ 12 0) l4] | 15 => [blkP (.pointer (some ⟨b2, 0, none⟩)) 147 [.int .u64 p_w.S.P, .int .i64 p_w.S.N, .int .i64 p_w.S.T, vp_w_1, vp_w_2, vp_w_3, .int .i64 ((0 : Nat) : Int), (γ1 4 0), (γ 12 0)]] | _ => []) (fun γ => [hdP (γ1 4 0) l1.length, blkP (.pointer (some ⟨b1, 0, none⟩)) 29 [.int .u64 p_w.S.P, .int .i64 p_w.S.N, .int .i64 p_w.S.T, vp_w_1, vp_w_2, vp_w_3], rdV Kd.i64 vp_w_1 p_w.Corrupt, rdV K_api_Deviation vp_w_2 p_w.Deviations, rdV (Kd.sl Kd.u64) vp_w_3 p_w.Tapes, treeV (rowK K_api_Event 67) 46 (γ1 4 0) (List.replicate p_w.S.N.toNat (.slice none 0 0)) l1, rdV Kd.u64 (γ 9 0) x2, blkP (γ 10 0) 177 [(γ 10 1), .int .i64 r3.At], ownV Kd.u64 22 (γ 10 1) r3.Words, ownV Kd.any 148 (γ 11 0) ([()] : List Unit), ownV Kd.any 148 (γ 12 0) l4, blkP (.pointer (some ⟨b2, 0, none⟩)) 147 [.int .u64 p_w.S.P, .int .i64 p_w.S.N, .int .i64 p_w.S.T, vp_w_1, vp_w_2, vp_w_3, .int .i64 ((0 : Nat) : Int), (γ1 4 0), (γ 12 0)]] ++ F) [0, 1, 2, 3, 5, 7, 13, 14] tryd_mix Tb_ok (by kernel_rfl) (by kernel_rfl) (fun _ => by kernel_rfl) (fun _ => by kernel_rfl) (fun _ => by kernel_rfl) (fun _ => by kernel_rfl) (fun _ => by kernel_rfl) (fun _ => by kernel_rfl) (fun _ => by kernel_rfl) ?_ ?_
     ·
      refine ⟨?_, ?_, ?_, ?_, ?_, ?_, ?_, ?_, trivial⟩
      ·
       intro γ F
       refine WI.reH (H' := [blkP (.pointer (some ⟨b2, 0, none⟩)) 147 [.int .u64 p_w.S.P, .int .i64 p_w.S.N, .int .i64 p_w.S.T, vp_w_1, vp_w_2, vp_w_3, .int .i64 ((0 : Nat) : Int), (γ1 4 0), g1]] ++ F) (by kernel_rfl) ?_
       refine w_ldB 0 8 rfl (by kernel_rfl) ti_145 rfl rfl ?_
       exact wE (gl []) [(0, false)] 0
      ·
       intro γ F
       refine WI.reH (H' := [blkP (.pointer (some ⟨b1, 0, none⟩)) 29 [.int .u64 p_w.S.P, .int .i64 p_w.S.N, .int .i64 p_w.S.T, vp_w_1, vp_w_2, vp_w_3]] ++ F) (by kernel_rfl) ?_
       refine w_ldB 0 5 rfl (by kernel_rfl) ti_27 rfl rfl ?_
       exact wE (gl []) [(0, false)] 0
      ·
       intro γ F
       refine WI.reH (H' := [rdV (Kd.sl Kd.u64) vp_w_3 p_w.Tapes] ++ F) (by kernel_rfl) ?_
       refine w_ix (k := .i64) (rd_hd 0 rfl) (nbd ex2) rfl (by kernel_rfl) ts_27 ti_30 ?_
       exact wE (gl []) [] 1
      ·
       intro γ F
       refine WI.reH (H' := [rdV (Kd.sl Kd.u64) vp_w_3 p_w.Tapes] ++ F) (by kernel_rfl) ?_
       refine w_ldR 0 0 rfl ex2 (by kernel_rfl) ti_30 rfl rfl ?_
       rintro v2
       exact wE (gl [v2]) [(0, true)] 2
      ·
       intro γ F
       refine WI.reH (H' := [rdV Kd.u64 (γ 9 0) x2] ++ F) (by kernel_rfl) ?_
       refine w_fn [(0, true)] (c_privityref11_New er3) rfl fok_94 (by kernel_rfl) ?_
       rintro _ _ ⟨w2, w2__0, hv, rfl⟩; have hv := hv.symm; subst hv
       exact wE (gl [w2, w2__0]) [(0, false), (0, false)] 1
      ·
       intro γ F
       refine WI.reH (H' := [blkP (γ 10 0) 177 [(γ 10 1), .int .i64 r3.At]] ++ F) (by kernel_rfl) ?_
       refine w_lt (kd := Kd.any) (t := 145) (len := 1) (ps0 := [(0, (γ 10 0))]) (ps := [(0, .agg #[(γ 10 0)])]) ([()] : List Unit) _ (rowC (x := ()) (g := (γ 10 0)) (itAny (any_one 0 rfl)) row0) (scP 0 rfl sc0) (by kernel_rfl) ts_145 ti_148 (by kernel_rfl) rfl rfl (fun v3 => ?_)
       exact wE (gl [v3]) [(0, false), (0, false)] 0
      ·
       intro γ F
       refine WI.reH (H' := [ownV Kd.any 148 g1 l2, ownV Kd.any 148 (γ 11 0) ([()] : List Unit)] ++ F) (by kernel_rfl) ?_
       refine w_app 0 rfl (own_src 1 rfl) el4 (by kernel_rfl) ts_145 ti_148 rfl (fun v4 => ?_)
       exact wE (gl [v4]) [(0, false), (0, false)] 0
      ·
       intro γ F
       refine WI.reH (H' := [blkP (.pointer (some ⟨b2, 0, none⟩)) 147 [.int .u64 p_w.S.P, .int .i64 p_w.S.N, .int .i64 p_w.S.T, vp_w_1, vp_w_2, vp_w_3, .int .i64 ((0 : Nat) : Int), (γ1 4 0), g1], ownV Kd.any 148 (γ 12 0) l4] ++ F) (by kernel_rfl) ?_
       refine w_stB (v := (γ 12 0)) (off := 8) (cs := [(γ 12 0)]) 0 rfl (cvS (own_hd 1 rfl)) (by kernel_rfl) ti_145 rfl rfl (oC (sl_one (own_hd 1 rfl)) oN) ?_
       refine WI.hd (y := blkP (.pointer (some ⟨b2, 0, none⟩)) 147 [.int .u64 p_w.S.P, .int .i64 p_w.S.N, .int .i64 p_w.S.T, vp_w_1, vp_w_2, vp_w_3, .int .i64 ((0 : Nat) : Int), (γ1 4 0), (γ 12 0)]) (by kernel_rfl) ?_
       exact wE (gl []) [(0, false), (0, false)] 0
     ·
      intro γ2
      refine qh_block_normal ?_
      refine qh_then ?_
      refine wh_region ?_
      refine w_p Tb_ok 1 (by kernel_rfl) ?_
      refine w_bi (zinc hk1 hN1) (by kernel_rfl) ?_
      refine w_p Tb_ok 1 (by kernel_rfl) ?_
      refine wi_end (by kernel_rfl) ?_
      have h9 := Option.some.inj h9; subst h9
      exact q_rs (γ2 12 0) hn1 aK (tH [(1, false), (1, true), (2, true), (3, true), (10, false), (4, false), (8, false)] 8)
   ·
    rintro g2 - j
    refine qh_then ?_
    refine wh_seq ?_
    refine wh_region ?_
    refine w_p Tb_ok 3 (by kernel_rfl) ?_
    refine wi_end (by kernel_rfl) ?_
    refine qh_then ?_
    refine wh_ret ?_
    have h5 := Option.some.inj h5; subst h5
    exact q_end (l := [(.pointer (some ⟨b2, 0, none⟩)), .int .i64 ((0 : Nat) : Int)]) [(3, false), (0, true), (1, true), (2, true), (3, false), (3, false)] 3 (inrP ⟨(.pointer (some ⟨b2, 0, none⟩)), vp_w_1, vp_w_2, vp_w_3, (tw (γ1 4 0) (List.replicate p_w.S.N.toNat (.slice none 0 0))), g2, rfl, rfl⟩) (.inl rfl) (by kernel_rfl) (by kernel_rfl) (by kernel_rfl)
theorem c_privitylaw20_nets {p_w : T_api_Scenario} {vp_w_1 : Value} {vp_w_2 : Value} {vp_w_3 : Value} {r : Unit ⊕ (T_privityref14_Net ⊕ (T_network_Net ⊕ (T_network_Net × T_privityref14_Net)))} (h : privitylaw20_nets p_w = some r) : Ct Tryd.prog 37 [.agg #[.int .u64 p_w.S.P, .int .i64 p_w.S.N, .int .i64 p_w.S.T, vp_w_1, vp_w_2, vp_w_3]] [rdV Kd.i64 vp_w_1 p_w.Corrupt, rdV K_api_Deviation vp_w_2 p_w.Deviations, rdV (Kd.sl Kd.u64) vp_w_3 p_w.Tapes, exF] ((sumP (fun r v L => v = .tuple #[(.pointer none), (.pointer none), .bool false] ∧ L = []) (sumP (fun r v L => ∃ w1 w1__0_1 w1__0_2 w1__0_3 w1__2 w1__3 : Value, v = .tuple #[(.pointer none), w1, .bool false] ∧ L = [blkP w1 147 [.int .u64 r.zw.S.P, .int .i64 r.zw.S.N, .int .i64 r.zw.S.T, w1__0_1, w1__0_2, w1__0_3, .int .i64 r.zround, (th w1__2), w1__3], rdV Kd.i64 w1__0_1 r.zw.Corrupt, rdV K_api_Deviation w1__0_2 r.zw.Deviations, rdV (Kd.sl Kd.u64) w1__0_3 r.zw.Tapes, treeV (rowK K_api_Event 67) 46 (th w1__2) (tg w1__2) r.zviews, ownV Kd.any 148 w1__3 r.ztapes]) (sumP (fun r v L => ∃ w0 w0__0_1 w0__0_2 w0__0_3 w0__2 w0__3 : Value, v = .tuple #[w0, (.pointer none), .bool false] ∧ L = [blkP w0 119 [.int .u64 r.zw.S.P, .int .i64 r.zw.S.N, .int .i64 r.zw.S.T, w0__0_1, w0__0_2, w0__0_3, .int .i64 r.zround, (th w0__2), w0__3], rdV Kd.i64 w0__0_1 r.zw.Corrupt, rdV K_api_Deviation w0__0_2 r.zw.Deviations, rdV (Kd.sl Kd.u64) w0__0_3 r.zw.Tapes, treeV (rowK K_api_Event 67) 46 (th w0__2) (tg w0__2) r.zviews, ownV Kd.any 137 w0__3 r.ztapes]) (fun r v L => ∃ w0 w0__0_1 w0__0_2 w0__0_3 w0__2 w0__3 w1 w1__0_1 w1__0_2 w1__0_3 w1__2 w1__3 : Value, v = .tuple #[w0, w1, .bool true] ∧ L = [blkP w0 119 [.int .u64 r.1.zw.S.P, .int .i64 r.1.zw.S.N, .int .i64 r.1.zw.S.T, w0__0_1, w0__0_2, w0__0_3, .int .i64 r.1.zround, (th w0__2), w0__3], rdV Kd.i64 w0__0_1 r.1.zw.Corrupt, rdV K_api_Deviation w0__0_2 r.1.zw.Deviations, rdV (Kd.sl Kd.u64) w0__0_3 r.1.zw.Tapes, treeV (rowK K_api_Event 67) 46 (th w0__2) (tg w0__2) r.1.zviews, ownV Kd.any 137 w0__3 r.1.ztapes, blkP w1 147 [.int .u64 r.2.zw.S.P, .int .i64 r.2.zw.S.N, .int .i64 r.2.zw.S.T, w1__0_1, w1__0_2, w1__0_3, .int .i64 r.2.zround, (th w1__2), w1__3], rdV Kd.i64 w1__0_1 r.2.zw.Corrupt, rdV K_api_Deviation w1__0_2 r.2.zw.Deviations, rdV (Kd.sl Kd.u64) w1__0_3 r.2.zw.Tapes, treeV (rowK K_api_Event 67) 46 (th w1__2) (tg w1__2) r.2.zviews, ownV Kd.any 148 w1__3 r.2.ztapes])))) r) := by
 refine ct_intro Tryd.func37 rfl (by kernel_rfl) (fun F => ?_)
 unfold privitylaw20_nets at h
 refine wh_seq ?_
 refine wh_region ?_
 refine w_box (t := 29) (v := .agg #[.int .u64 p_w.S.P, .int .i64 p_w.S.N, .int .i64 p_w.S.T, vp_w_1, vp_w_2, vp_w_3]) (cs := [.int .u64 p_w.S.P, .int .i64 p_w.S.N, .int .i64 p_w.S.T, vp_w_1, vp_w_2, vp_w_3]) (cv0 (by kernel_rfl)) (by kernel_rfl) (fun q1 => ?_)
 refine WI.hd (y := blkP q1 29 [.int .u64 p_w.S.P, .int .i64 p_w.S.N, .int .i64 p_w.S.T, vp_w_1, vp_w_2, vp_w_3]) (by kernel_rfl) ?_
 refine w_opP 0 rfl (fun b1 hb => ?_)
 subst hb
 refine w_p Tb_ok 3 (by kernel_rfl) ?_
 refine wi_end (by kernel_rfl) ?_
 refine qh_then ?_
 refine wh_seq ?_
 refine wh_region ?_
 refine w_ldB 0 0 rfl (by kernel_rfl) ti_29 rfl rfl ?_
 obtain ⟨r1, er1, h1⟩ := bnd h
 rcases r1 with r2 | r3
 ·
  have h2 := sumL h1
  refine w_fn [(1, true), (2, true), (3, true), (4, true)] (c_network_New er1) rfl fok_56 (by kernel_rfl) ?_
  rintro _ _ ⟨hv, rfl⟩; have hv := hv.symm; subst hv
  refine w_p Tb_ok 5 (by kernel_rfl) ?_
  refine wi_end (by kernel_rfl) ?_
  refine qh_then ?_
  refine wh_seq ?_
  refine wh_region ?_
  refine w_ldB 0 0 rfl (by kernel_rfl) ti_29 rfl rfl ?_
  obtain ⟨r4, er4, h3⟩ := bnd h2
  rcases r4 with r5 | r6
  ·
   have h4 := sumL h3
   refine w_fn [(1, true), (2, true), (3, true)] (c_privityref14_New er4) rfl fok_63 (by kernel_rfl) ?_
   rintro _ _ ⟨hv, rfl⟩; have hv := hv.symm; subst hv
   refine w_p Tb_ok 5 (by kernel_rfl) ?_
   refine wi_end (by kernel_rfl) ?_
   refine qh_then ?_
   refine wh_seq ?_
   refine wh_region ?_
   refine w_p Tb_ok 15 (by kernel_rfl) ?_
   refine wi_end (by kernel_rfl) ?_
   refine qh_then ?_
   refine wh_ret ?_
   have h4 := Option.some.inj h4; subst h4
   exact q_end (l := [(.pointer none), (.pointer none), .bool false]) [] 5 (inlP ⟨rfl, rfl⟩) (.inl rfl) (by kernel_rfl) (by kernel_rfl) (by kernel_rfl)
  ·
   have h5 := sumR h3
   refine w_fn [(1, true), (2, true), (3, true)] (c_privityref14_New er4) rfl fok_63 (by kernel_rfl) ?_
   rintro _ _ ⟨w5, w5__0_1, w5__0_2, w5__0_3, w5__2, w5__3, hv, rfl⟩; have hv := hv.symm; subst hv
   refine w_opP 0 rfl (fun b2 hb => ?_)
   subst hb
   refine w_p Tb_ok 5 (by kernel_rfl) ?_
   refine wi_end (by kernel_rfl) ?_
   refine qh_then ?_
   refine wh_seq ?_
   refine wh_region ?_
   refine w_p Tb_ok 15 (by kernel_rfl) ?_
   refine wi_end (by kernel_rfl) ?_
   refine qh_then ?_
   refine wh_ret ?_
   have h5 := Option.some.inj h5; subst h5
   exact q_end (l := [(.pointer none), (.pointer (some ⟨b2, 0, none⟩)), .bool false]) [(0, false), (0, true), (1, true), (2, true), (3, false), (3, false)] 8 (inrP (inlP ⟨(.pointer (some ⟨b2, 0, none⟩)), w5__0_1, w5__0_2, w5__0_3, (tw (th w5__2) (tg w5__2)), w5__3, rfl, rfl⟩)) (.inl rfl) (by kernel_rfl) (by kernel_rfl) (by kernel_rfl)
 ·
  have h6 := sumR h1
  refine w_fn [(1, true), (2, true), (3, true), (4, true)] (c_network_New er1) rfl fok_56 (by kernel_rfl) ?_
  rintro _ _ ⟨w7, w7__0_1, w7__0_2, w7__0_3, w7__2, w7__3, hv, rfl⟩; have hv := hv.symm; subst hv
  refine w_opP 0 rfl (fun b3 hb => ?_)
  subst hb
  refine w_p Tb_ok 5 (by kernel_rfl) ?_
  refine wi_end (by kernel_rfl) ?_
  refine qh_then ?_
  refine wh_seq ?_
  refine wh_region ?_
  refine w_ldB 6 0 rfl (by kernel_rfl) ti_29 rfl rfl ?_
  obtain ⟨r7, er7, h7⟩ := bnd h6
  rcases r7 with r8 | r9
  ·
   have h8 := sumL h7
   refine w_fn [(7, true), (8, true), (9, true)] (c_privityref14_New er7) rfl fok_63 (by kernel_rfl) ?_
   rintro _ _ ⟨hv, rfl⟩; have hv := hv.symm; subst hv
   refine w_p Tb_ok 5 (by kernel_rfl) ?_
   refine wi_end (by kernel_rfl) ?_
   refine qh_then ?_
   refine wh_seq ?_
   refine wh_region ?_
   refine w_p Tb_ok 15 (by kernel_rfl) ?_
   refine wi_end (by kernel_rfl) ?_
   refine qh_then ?_
   refine wh_ret ?_
   have h8 := Option.some.inj h8; subst h8
   exact q_end (l := [(.pointer (some ⟨b3, 0, none⟩)), (.pointer none), .bool false]) [(0, false), (0, true), (1, true), (2, true), (3, false), (3, false)] 8 (inrP (inrP (inlP ⟨(.pointer (some ⟨b3, 0, none⟩)), w7__0_1, w7__0_2, w7__0_3, (tw (th w7__2) (tg w7__2)), w7__3, rfl, rfl⟩))) (.inl rfl) (by kernel_rfl) (by kernel_rfl) (by kernel_rfl)
  ·
   have h9 := sumR h7
   refine w_fn [(7, true), (8, true), (9, true)] (c_privityref14_New er7) rfl fok_63 (by kernel_rfl) ?_
   rintro _ _ ⟨w11, w11__0_1, w11__0_2, w11__0_3, w11__2, w11__3, hv, rfl⟩; have hv := hv.symm; subst hv
   refine w_opP 0 rfl (fun b4 hb => ?_)
   subst hb
   refine w_p Tb_ok 5 (by kernel_rfl) ?_
   refine wi_end (by kernel_rfl) ?_
   refine qh_then ?_
   refine wh_seq ?_
   refine wh_region ?_
   refine w_p Tb_ok 10 (by kernel_rfl) ?_
   refine w_run (v := .bool true) (fun w => by kernel_rfl) ?_
   refine w_p Tb_ok 4 (by kernel_rfl) ?_
   refine wi_end (by kernel_rfl) ?_
   refine qh_then ?_
   refine wh_ret ?_
   have h9 := Option.some.inj h9; subst h9
   exact q_end (l := [(.pointer (some ⟨b3, 0, none⟩)), (.pointer (some ⟨b4, 0, none⟩)), .bool true]) [(6, false), (6, true), (7, true), (8, true), (9, false), (9, false), (0, false), (0, true), (1, true), (2, true), (3, false), (3, false)] 11 (inrP (inrP (inrP ⟨(.pointer (some ⟨b3, 0, none⟩)), w7__0_1, w7__0_2, w7__0_3, (tw (th w7__2) (tg w7__2)), w7__3, (.pointer (some ⟨b4, 0, none⟩)), w11__0_1, w11__0_2, w11__0_3, (tw (th w11__2) (tg w11__2)), w11__3, rfl, rfl⟩))) (.inl rfl) (by kernel_rfl) (by kernel_rfl) (by kernel_rfl)
theorem c_privityref04_Equal {p_a : List Nat} {p_b : List Nat} {vp_a_1 : Value} {vp_b_1 : Value} {r : Bool} (h : privityref04_Equal p_a p_b = some r) : Ct Tryd.prog 48 [vp_a_1, vp_b_1] [rdV Kd.u64 vp_a_1 p_a, rdV Kd.u64 vp_b_1 p_b] (fun v L => v = .bool r ∧ L = []) := by
 refine ct_intro Tryd.func48 rfl (by kernel_rfl) (fun F => ?_)
 unfold privityref04_Equal at h
 refine wh_seq ?_
 refine wh_region ?_
 refine w_p Tb_ok 1 (by kernel_rfl) ?_
 refine wi_end (by kernel_rfl) ?_
 refine qh_then ?_
 refine wh_seq ?_
 refine wh_seq ?_
 refine wh_region ?_
 refine w_p Tb_ok 1 (by kernel_rfl) ?_
 refine w_len (rd_hd 0 rfl) (by kernel_rfl) ts_30 ?_
 refine w_p Tb_ok 1 (by kernel_rfl) ?_
 refine w_len (rd_hd 1 rfl) (by kernel_rfl) ts_30 ?_
 refine w_p Tb_ok 1 (by kernel_rfl) ?_
 refine wi_end (by kernel_rfl) ?_
 refine qh_then ?_
 rcases bcase h with ⟨t1, h1⟩ | ⟨t1, h1⟩
 ·
  refine h_ct (b := (((p_a.length : Nat) : Int) != ((p_b.length : Nat) : Int))) t1 (by kernel_rfl) ?_
  refine wh_seq ?_
  refine wh_region ?_
  refine w_p Tb_ok 1 (by kernel_rfl) ?_
  refine wi_end (by kernel_rfl) ?_
  refine qh_then ?_
  refine wh_ret ?_
  refine qh_then_ret ?_
  have h1 := Option.some.inj h1; subst h1
  exact q_end (l := [.bool false]) [] 2 ⟨rfl, rfl⟩ (.inl rfl) (by kernel_rfl) (by kernel_rfl) (by kernel_rfl)
 ·
  refine h_cf (b := (((p_a.length : Nat) : Int) != ((p_b.length : Nat) : Int))) t1 (by kernel_rfl) ?_
  refine wh_skip ?_
  refine qh_then ?_
  refine wh_seq ?_
  refine wh_seq ?_
  refine wh_region ?_
  refine w_p Tb_ok 1 (by kernel_rfl) ?_
  refine wi_end (by kernel_rfl) ?_
  refine qh_then ?_
  refine h_lenle (rd_lenle 0 rfl) (fun hN1 => ?_)
  obtain ⟨r1, el1, h2⟩ := bnd h1
  refine h_join (X := Unit × Unit) (fun g => []) (fun g => [] ++ F) (fun g => r1 = .go g.2) ?_ ?_
  ·
   refine wh_block ?_
   refine h_rg (fun (k1 : Nat) (st : Unit) (g : Unit) => [(0, vp_a_1), (1, vp_b_1), (5, .int .i64 ((k1 : Nat) : Int))]) (fun (k1 : Nat) (st : Unit) (g : Unit) => [rdV Kd.u64 vp_a_1 p_a, rdV Kd.u64 vp_b_1 p_b] ++ F) () el1 (Nat.zero_le _) aK (tH [(0, true), (1, true)] 2) ?_ ?_
   ·
    rintro ⟨⟩ ⟨⟩ hr1 j
    refine wh_seq ?_
    refine wh_seq ?_
    refine wh_region ?_
    refine w_p Tb_ok 2 (by kernel_rfl) ?_
    refine w_len (rd_hd 0 rfl) (by kernel_rfl) ts_30 ?_
    refine w_p Tb_ok 1 (by kernel_rfl) ?_
    refine wi_end (by kernel_rfl) ?_
    refine qh_then ?_
    refine h_cf (b := (decide ((((p_a.length) : Nat) : Int) < ((p_a.length : Nat) : Int)))) rgF (by kernel_rfl) ?_
    refine wh_exit ?_
    refine qh_then_exit ?_
    refine q_rzX ?_
    refine qh_block_exit ?_
    exact q_join ((), ()) hr1 aK (tH [] 2)
   ·
    rintro rem k1 ⟨⟩ ⟨⟩ o1 hk1 h3 hn1 j
    have h3 : privityref04_Equal_L0 p_a p_b k1 = some o1 := h3
    unfold privityref04_Equal_L0 at h3
    refine wh_seq ?_
    refine wh_seq ?_
    refine wh_region ?_
    refine w_p Tb_ok 2 (by kernel_rfl) ?_
    refine w_len (rd_hd 0 rfl) (by kernel_rfl) ts_30 ?_
    refine w_p Tb_ok 1 (by kernel_rfl) ?_
    refine wi_end (by kernel_rfl) ?_
    refine qh_then ?_
    refine h_ct (b := (decide (((k1 : Nat) : Int) < ((p_a.length : Nat) : Int)))) (rgT hk1) (by kernel_rfl) ?_
    refine wh_skip ?_
    refine qh_then ?_
    refine wh_seq ?_
    refine wh_block ?_
    refine wh_seq ?_
    obtain ⟨x1, ex1, h4⟩ := bnd h3
    obtain ⟨x2, ex2, h5⟩ := bnd h4
    refine h_flow [0, 0, 3, 7, 0, 0, 48, 112, 255] ⟨2, [0, 0, 0, 0, 0, 0, 0, 0, 0], [], [], [(2, [(0, 0)]), (3, [(0, 0)]), (6, [(0, 1)]), (7, [(0, 1)])]⟩ (fun γ => [vp_a_1, .int .i64 ((k1 : Nat) : Int), .pointer (some (elV vp_a_1 (k1 * Kd.u64.size))), .int .u64 x1, vp_b_1, .int .i64 ((k1 : Nat) : Int), .pointer (some (elV vp_b_1 (k1 * Kd.u64.size))), .int .u64 x2, .bool (((x1 : Nat) : Int) != ((x2 : Nat) : Int))]) (fun _ _ => []) (fun γ => [rdV Kd.u64 vp_a_1 p_a, rdV Kd.u64 vp_b_1 p_b] ++ F) [0, 1, 4, 5, 8] tryd_mix Tb_ok (by kernel_rfl) (by kernel_rfl) (fun _ => by kernel_rfl) (fun _ => by kernel_rfl) (fun _ => by kernel_rfl) (fun _ => by kernel_rfl) (fun _ => by kernel_rfl) (fun _ => by kernel_rfl) (fun _ => by kernel_rfl) ?_ ?_
    ·
     refine ⟨?_, ?_, ?_, ?_, trivial⟩
     ·
      intro γ F
      refine WI.reH (H' := [rdV Kd.u64 vp_a_1 p_a] ++ F) (by kernel_rfl) ?_
      refine w_ix (k := .i64) (rd_hd 0 rfl) (nbd ex1) rfl (by kernel_rfl) ts_30 ti_22 ?_
      exact wE (gl []) [] 1
     ·
      intro γ F
      refine WI.reH (H' := [rdV Kd.u64 vp_a_1 p_a] ++ F) (by kernel_rfl) ?_
      refine w_ldR 0 0 rfl ex1 (by kernel_rfl) ti_22 rfl rfl ?_
      rintro _
      exact wE (gl []) [] 1
     ·
      intro γ F
      refine WI.reH (H' := [rdV Kd.u64 vp_b_1 p_b] ++ F) (by kernel_rfl) ?_
      refine w_ix (k := .i64) (rd_hd 0 rfl) (nbd ex2) rfl (by kernel_rfl) ts_30 ti_22 ?_
      exact wE (gl []) [] 1
     ·
      intro γ F
      refine WI.reH (H' := [rdV Kd.u64 vp_b_1 p_b] ++ F) (by kernel_rfl) ?_
      refine w_ldR 0 0 rfl ex2 (by kernel_rfl) ti_22 rfl rfl ?_
      rintro _
      exact wE (gl []) [] 1
    ·
     intro γ1
     refine qh_then ?_
     rcases bcase h5 with ⟨t2, h6⟩ | ⟨t2, h6⟩
     ·
      refine h_ct (b := (((x1 : Nat) : Int) != ((x2 : Nat) : Int))) t2 (by kernel_rfl) ?_
      refine wh_seq ?_
      refine wh_region ?_
      refine w_p Tb_ok 1 (by kernel_rfl) ?_
      refine wi_end (by kernel_rfl) ?_
      refine qh_then ?_
      refine wh_ret ?_
      refine qh_block_ret ?_
      refine qh_then_ret ?_
      refine q_rgR ?_
      refine qh_block_ret ?_
      refine q_joinR ?_
      refine qh_then_ret ?_
      have h6 := Option.some.inj h6; subst h6
      have hn := (show _ = _ from hn1); subst hn
      have h2 := Option.some.inj (show some _ = some _ from h2); subst h2
      exact q_end (l := [.bool false]) [] 2 ⟨rfl, rfl⟩ (.inl rfl) (by kernel_rfl) (by kernel_rfl) (by kernel_rfl)
     ·
      refine h_cf (b := (((x1 : Nat) : Int) != ((x2 : Nat) : Int))) t2 (by kernel_rfl) ?_
      refine wh_skip ?_
      refine qh_block_normal ?_
      refine qh_then ?_
      refine wh_region ?_
      refine w_p Tb_ok 1 (by kernel_rfl) ?_
      refine w_bi (zinc hk1 hN1) (by kernel_rfl) ?_
      refine w_p Tb_ok 1 (by kernel_rfl) ?_
      refine wi_end (by kernel_rfl) ?_
      have h6 := Option.some.inj h6; subst h6
      exact q_rgo () hn1 aK (tH [(0, true), (1, true)] 2)
  ·
   rintro ⟨⟨⟩, ⟨⟩⟩ hc j
   subst hc
   refine qh_then ?_
   refine wh_seq ?_
   refine wh_region ?_
   refine w_p Tb_ok 1 (by kernel_rfl) ?_
   refine wi_end (by kernel_rfl) ?_
   refine qh_then ?_
   refine wh_ret ?_
   have h2 := Option.some.inj h2; subst h2
   exact q_end (l := [.bool true]) [] 0 ⟨rfl, rfl⟩ (.inl rfl) (by kernel_rfl) (by kernel_rfl) (by kernel_rfl)
theorem c_privityref08_Places {p_a : List Int} {p_b : List Int} {vp_a_1 : Value} {vp_b_1 : Value} {r : Bool} (h : privityref08_Places p_a p_b = some r) : Ct Tryd.prog 103 [vp_a_1, vp_b_1] [rdV Kd.i64 vp_a_1 p_a, rdV Kd.i64 vp_b_1 p_b] (fun v L => v = .bool r ∧ L = []) := by
 refine ct_intro Tryd.func103 rfl (by kernel_rfl) (fun F => ?_)
 unfold privityref08_Places at h
 refine wh_seq ?_
 refine wh_region ?_
 refine w_p Tb_ok 1 (by kernel_rfl) ?_
 refine wi_end (by kernel_rfl) ?_
 refine qh_then ?_
 refine wh_seq ?_
 refine wh_seq ?_
 refine wh_region ?_
 refine w_p Tb_ok 1 (by kernel_rfl) ?_
 refine w_len (rd_hd 0 rfl) (by kernel_rfl) ts_25 ?_
 refine w_p Tb_ok 1 (by kernel_rfl) ?_
 refine w_len (rd_hd 1 rfl) (by kernel_rfl) ts_25 ?_
 refine w_p Tb_ok 1 (by kernel_rfl) ?_
 refine wi_end (by kernel_rfl) ?_
 refine qh_then ?_
 rcases bcase h with ⟨t1, h1⟩ | ⟨t1, h1⟩
 ·
  refine h_ct (b := (((p_a.length : Nat) : Int) != ((p_b.length : Nat) : Int))) t1 (by kernel_rfl) ?_
  refine wh_seq ?_
  refine wh_region ?_
  refine w_p Tb_ok 1 (by kernel_rfl) ?_
  refine wi_end (by kernel_rfl) ?_
  refine qh_then ?_
  refine wh_ret ?_
  refine qh_then_ret ?_
  have h1 := Option.some.inj h1; subst h1
  exact q_end (l := [.bool false]) [] 2 ⟨rfl, rfl⟩ (.inl rfl) (by kernel_rfl) (by kernel_rfl) (by kernel_rfl)
 ·
  refine h_cf (b := (((p_a.length : Nat) : Int) != ((p_b.length : Nat) : Int))) t1 (by kernel_rfl) ?_
  refine wh_skip ?_
  refine qh_then ?_
  refine wh_seq ?_
  refine wh_seq ?_
  refine wh_region ?_
  refine w_p Tb_ok 1 (by kernel_rfl) ?_
  refine wi_end (by kernel_rfl) ?_
  refine qh_then ?_
  refine h_lenle (rd_lenle 0 rfl) (fun hN1 => ?_)
  obtain ⟨r1, el1, h2⟩ := bnd h1
  refine h_join (X := Unit × Unit) (fun g => []) (fun g => [] ++ F) (fun g => r1 = .go g.2) ?_ ?_
  ·
   refine wh_block ?_
   refine h_rg (fun (k1 : Nat) (st : Unit) (g : Unit) => [(0, vp_a_1), (1, vp_b_1), (5, .int .i64 ((k1 : Nat) : Int))]) (fun (k1 : Nat) (st : Unit) (g : Unit) => [rdV Kd.i64 vp_a_1 p_a, rdV Kd.i64 vp_b_1 p_b] ++ F) () el1 (Nat.zero_le _) aK (tH [(0, true), (1, true)] 2) ?_ ?_
   ·
    rintro ⟨⟩ ⟨⟩ hr1 j
    refine wh_seq ?_
    refine wh_seq ?_
    refine wh_region ?_
    refine w_p Tb_ok 2 (by kernel_rfl) ?_
    refine w_len (rd_hd 0 rfl) (by kernel_rfl) ts_25 ?_
    refine w_p Tb_ok 1 (by kernel_rfl) ?_
    refine wi_end (by kernel_rfl) ?_
    refine qh_then ?_
    refine h_cf (b := (decide ((((p_a.length) : Nat) : Int) < ((p_a.length : Nat) : Int)))) rgF (by kernel_rfl) ?_
    refine wh_exit ?_
    refine qh_then_exit ?_
    refine q_rzX ?_
    refine qh_block_exit ?_
    exact q_join ((), ()) hr1 aK (tH [] 2)
   ·
    rintro rem k1 ⟨⟩ ⟨⟩ o1 hk1 h3 hn1 j
    have h3 : privityref08_Places_L0 p_a p_b k1 = some o1 := h3
    unfold privityref08_Places_L0 at h3
    refine wh_seq ?_
    refine wh_seq ?_
    refine wh_region ?_
    refine w_p Tb_ok 2 (by kernel_rfl) ?_
    refine w_len (rd_hd 0 rfl) (by kernel_rfl) ts_25 ?_
    refine w_p Tb_ok 1 (by kernel_rfl) ?_
    refine wi_end (by kernel_rfl) ?_
    refine qh_then ?_
    refine h_ct (b := (decide (((k1 : Nat) : Int) < ((p_a.length : Nat) : Int)))) (rgT hk1) (by kernel_rfl) ?_
    refine wh_skip ?_
    refine qh_then ?_
    refine wh_seq ?_
    refine wh_block ?_
    refine wh_seq ?_
    obtain ⟨x1, ex1, h4⟩ := bnd h3
    obtain ⟨x2, ex2, h5⟩ := bnd h4
    refine h_flow [0, 0, 3, 7, 0, 0, 48, 112, 255] ⟨2, [0, 0, 0, 0, 0, 0, 0, 0, 0], [], [], [(2, [(0, 0)]), (3, [(0, 0)]), (6, [(0, 1)]), (7, [(0, 1)])]⟩ (fun γ => [vp_a_1, .int .i64 ((k1 : Nat) : Int), .pointer (some (elV vp_a_1 (k1 * Kd.i64.size))), .int .i64 x1, vp_b_1, .int .i64 ((k1 : Nat) : Int), .pointer (some (elV vp_b_1 (k1 * Kd.i64.size))), .int .i64 x2, .bool (x1 != x2)]) (fun _ _ => []) (fun γ => [rdV Kd.i64 vp_a_1 p_a, rdV Kd.i64 vp_b_1 p_b] ++ F) [0, 1, 4, 5, 8] tryd_mix Tb_ok (by kernel_rfl) (by kernel_rfl) (fun _ => by kernel_rfl) (fun _ => by kernel_rfl) (fun _ => by kernel_rfl) (fun _ => by kernel_rfl) (fun _ => by kernel_rfl) (fun _ => by kernel_rfl) (fun _ => by kernel_rfl) ?_ ?_
    ·
     refine ⟨?_, ?_, ?_, ?_, trivial⟩
     ·
      intro γ F
      refine WI.reH (H' := [rdV Kd.i64 vp_a_1 p_a] ++ F) (by kernel_rfl) ?_
      refine w_ix (k := .i64) (rd_hd 0 rfl) (nbd ex1) rfl (by kernel_rfl) ts_25 ti_3 ?_
      exact wE (gl []) [] 1
     ·
      intro γ F
      refine WI.reH (H' := [rdV Kd.i64 vp_a_1 p_a] ++ F) (by kernel_rfl) ?_
      refine w_ldR 0 0 rfl ex1 (by kernel_rfl) ti_3 rfl rfl ?_
      rintro _
      exact wE (gl []) [] 1
     ·
      intro γ F
      refine WI.reH (H' := [rdV Kd.i64 vp_b_1 p_b] ++ F) (by kernel_rfl) ?_
      refine w_ix (k := .i64) (rd_hd 0 rfl) (nbd ex2) rfl (by kernel_rfl) ts_25 ti_3 ?_
      exact wE (gl []) [] 1
     ·
      intro γ F
      refine WI.reH (H' := [rdV Kd.i64 vp_b_1 p_b] ++ F) (by kernel_rfl) ?_
      refine w_ldR 0 0 rfl ex2 (by kernel_rfl) ti_3 rfl rfl ?_
      rintro _
      exact wE (gl []) [] 1
    ·
     intro γ1
     refine qh_then ?_
     rcases bcase h5 with ⟨t2, h6⟩ | ⟨t2, h6⟩
     ·
      refine h_ct (b := (x1 != x2)) t2 (by kernel_rfl) ?_
      refine wh_seq ?_
      refine wh_region ?_
      refine w_p Tb_ok 1 (by kernel_rfl) ?_
      refine wi_end (by kernel_rfl) ?_
      refine qh_then ?_
      refine wh_ret ?_
      refine qh_block_ret ?_
      refine qh_then_ret ?_
      refine q_rgR ?_
      refine qh_block_ret ?_
      refine q_joinR ?_
      refine qh_then_ret ?_
      have h6 := Option.some.inj h6; subst h6
      have hn := (show _ = _ from hn1); subst hn
      have h2 := Option.some.inj (show some _ = some _ from h2); subst h2
      exact q_end (l := [.bool false]) [] 2 ⟨rfl, rfl⟩ (.inl rfl) (by kernel_rfl) (by kernel_rfl) (by kernel_rfl)
     ·
      refine h_cf (b := (x1 != x2)) t2 (by kernel_rfl) ?_
      refine wh_skip ?_
      refine qh_block_normal ?_
      refine qh_then ?_
      refine wh_region ?_
      refine w_p Tb_ok 1 (by kernel_rfl) ?_
      refine w_bi (zinc hk1 hN1) (by kernel_rfl) ?_
      refine w_p Tb_ok 1 (by kernel_rfl) ?_
      refine wi_end (by kernel_rfl) ?_
      have h6 := Option.some.inj h6; subst h6
      exact q_rgo () hn1 aK (tH [(0, true), (1, true)] 2)
  ·
   rintro ⟨⟨⟩, ⟨⟩⟩ hc j
   subst hc
   refine qh_then ?_
   refine wh_seq ?_
   refine wh_region ?_
   refine w_p Tb_ok 1 (by kernel_rfl) ?_
   refine wi_end (by kernel_rfl) ?_
   refine qh_then ?_
   refine wh_ret ?_
   have h2 := Option.some.inj h2; subst h2
   exact q_end (l := [.bool true]) [] 0 ⟨rfl, rfl⟩ (.inl rfl) (by kernel_rfl) (by kernel_rfl) (by kernel_rfl)
theorem c_privityref20_Numbers {p_a : List Int} {p_b : List Int} {vp_a_1 : Value} {vp_b_1 : Value} {r : Bool} (h : privityref20_Numbers p_a p_b = some r) : Ct Tryd.prog 71 [vp_a_1, vp_b_1] [rdV Kd.i64 vp_a_1 p_a, rdV Kd.i64 vp_b_1 p_b] (fun v L => v = .bool r ∧ L = []) := by
 refine ct_intro Tryd.func71 rfl (by kernel_rfl) (fun F => ?_)
 unfold privityref20_Numbers at h
 refine wh_seq ?_
 refine wh_region ?_
 refine w_p Tb_ok 1 (by kernel_rfl) ?_
 refine wi_end (by kernel_rfl) ?_
 refine qh_then ?_
 refine wh_seq ?_
 refine wh_region ?_
 refine w_p Tb_ok 2 (by kernel_rfl) ?_
 obtain ⟨r1, er1, h1⟩ := bnd h
 refine w_fn [(0, true), (1, true)] (c_privityref08_Places er1) rfl fok_103 (by kernel_rfl) ?_
 rintro _ _ ⟨hv, rfl⟩; have hv := hv.symm; subst hv
 refine w_p Tb_ok 1 (by kernel_rfl) ?_
 refine wi_end (by kernel_rfl) ?_
 refine qh_then ?_
 refine wh_ret ?_
 have h1 := Option.some.inj h1; subst h1
 exact q_end (l := [.bool r1]) [] 2 ⟨rfl, rfl⟩ (.inl rfl) (by kernel_rfl) (by kernel_rfl) (by kernel_rfl)
theorem c_privitylaw20_awake  {r : Bool} (h : privitylaw20_awake = some r) : Ct Tryd.prog 36 [] [exF] (fun v L => v = .bool r ∧ L = []) := by
 refine ct_intro Tryd.func36 rfl (by kernel_rfl) (fun F => ?_)
 unfold privitylaw20_awake at h
 refine wh_seq ?_
 refine wh_region ?_
 refine w_p Tb_ok 1 (by kernel_rfl) ?_
 refine wi_end (by kernel_rfl) ?_
 refine qh_then ?_
 refine wh_seq ?_
 refine wh_region ?_
 refine w_bd (v := .agg #[.int .u64 ((31 : Nat) : Int), .int .i64 ((4 : Nat) : Int), .int .i64 ((1 : Nat) : Int)]) (t := 24) (ps0 := [(0, .int .u64 ((31 : Nat) : Int)), (1, .int .i64 ((4 : Nat) : Int)), (2, .int .i64 ((1 : Nat) : Int))]) (ps := [(0, .int .u64 ((31 : Nat) : Int)), (1, .int .i64 ((4 : Nat) : Int)), (2, .int .i64 ((1 : Nat) : Int))]) (scI (scI (scI sc0))) (by kernel_rfl) (fun w => by kernel_rfl) ?_
 refine w_lt (kd := Kd.i64) (t := 25) (len := 1) (ps0 := [(0, .int .i64 ((2 : Nat) : Int))]) (ps := [(0, .int .i64 ((2 : Nat) : Int))]) ([((2 : Nat) : Int)] : List Int) _ (rowC (x := ((2 : Nat) : Int)) (g := ()) (it0 rfl) row0) (scI sc0) (by kernel_rfl) ts_25 ti_3 (by kernel_rfl) rfl rfl (fun v1 => ?_)
 refine w_bd (v := .agg #[.int .i64 ((0 : Nat) : Int), .int .i64 ((2 : Nat) : Int), .int .i64 ((0 : Nat) : Int), .int .i64 ((0 : Nat) : Int), .int .i64 ((1 : Nat) : Int), .int .u64 ((0 : Nat) : Int), .int .i64 ((1 : Nat) : Int), .int .i64 ((0 : Nat) : Int)]) (t := 124) (ps0 := [(1, .int .i64 ((2 : Nat) : Int)), (4, .int .i64 ((1 : Nat) : Int)), (6, .int .i64 ((1 : Nat) : Int))]) (ps := [(1, .int .i64 ((2 : Nat) : Int)), (4, .int .i64 ((1 : Nat) : Int)), (6, .int .i64 ((1 : Nat) : Int))]) (scI (scI (scI sc0))) (by kernel_rfl) (fun w => by kernel_rfl) ?_
 refine w_lt (kd := K_api_Deviation) (t := 26) (len := 1) (ps0 := [(0, .agg #[.int .i64 ((0 : Nat) : Int), .int .i64 ((2 : Nat) : Int), .int .i64 ((0 : Nat) : Int), .int .i64 ((0 : Nat) : Int), .int .i64 ((1 : Nat) : Int), .int .u64 ((0 : Nat) : Int), .int .i64 ((1 : Nat) : Int), .int .i64 ((0 : Nat) : Int)])]) (ps := [(0, .agg #[.int .i64 ((0 : Nat) : Int), .int .i64 ((2 : Nat) : Int), .int .i64 ((0 : Nat) : Int), .int .i64 ((0 : Nat) : Int), .int .i64 ((1 : Nat) : Int), .int .u64 ((0 : Nat) : Int), .int .i64 ((1 : Nat) : Int), .int .i64 ((0 : Nat) : Int)])]) ([(⟨((0 : Nat) : Int), ((2 : Nat) : Int), ((0 : Nat) : Int), ((0 : Nat) : Int), ((1 : Nat) : Int), 0, ((1 : Nat) : Int), ((0 : Nat) : Int)⟩ : T_api_Deviation)] : List T_api_Deviation) _ (rowC (x := (⟨((0 : Nat) : Int), ((2 : Nat) : Int), ((0 : Nat) : Int), ((0 : Nat) : Int), ((1 : Nat) : Int), 0, ((1 : Nat) : Int), ((0 : Nat) : Int)⟩ : T_api_Deviation)) (g := ((), (), (), (), (), (), (), ())) (itC (itA (it0 rfl) (itA (it0 rfl) (itA (it0 rfl) (itA (it0 rfl) (itA (it0 rfl) (itA (it0 rfl) (itA (it0 rfl) (it0 rfl))))))))) row0) (scI sc0) (by kernel_rfl) ts_26 ti_124 (by kernel_rfl) rfl rfl (fun v2 => ?_)
 refine WI.ent (rdNil (kd := Kd.u64)) ?_
 obtain ⟨l1, el1, h1⟩ := bnd h
 refine w_mk (kd := (Kd.sl Kd.u64)) (kl := .i64) (kc := .i64) (.slice none 0 0) el1 (by kernel_rfl) ts_27 ti_30 rfl (by kernel_rfl) (itS 0 rfl) (fun v3 => ?_)
 refine w_bd (v := .agg #[.int .u64 ((31 : Nat) : Int), .int .i64 ((4 : Nat) : Int), .int .i64 ((1 : Nat) : Int), v1, v2, v3]) (t := 29) (ps0 := [(0, .agg #[.int .u64 ((31 : Nat) : Int), .int .i64 ((4 : Nat) : Int), .int .i64 ((1 : Nat) : Int)]), (1, v1), (2, v2), (3, v3)]) (ps := [(0, .agg #[.int .u64 ((31 : Nat) : Int), .int .i64 ((4 : Nat) : Int), .int .i64 ((1 : Nat) : Int)]), (1, .agg #[v1]), (2, .agg #[v2]), (3, .agg #[v3])]) (scI (scS (own_hd 3 rfl) (scS (own_hd 2 rfl) (scS (own_hd 0 rfl) sc0)))) (by kernel_rfl) (fun w => by kernel_rfl) ?_
 refine w_al (by kernel_rfl) ti_29 (fun q1 => ?_)
 refine WI.hd (y := blkP q1 29 [.int .u64 ((0 : Nat) : Int), .int .i64 ((0 : Nat) : Int), .int .i64 ((0 : Nat) : Int), (.slice none 0 0), (.slice none 0 0), (.slice none 0 0)]) (by kernel_rfl) ?_
 refine w_opP 0 rfl (fun b1 hb => ?_)
 subst hb
 refine w_stB (v := .agg #[.int .u64 ((31 : Nat) : Int), .int .i64 ((4 : Nat) : Int), .int .i64 ((1 : Nat) : Int), v1, v2, v3]) (off := 0) (cs := [.int .u64 ((31 : Nat) : Int), .int .i64 ((4 : Nat) : Int), .int .i64 ((1 : Nat) : Int), v1, v2, v3]) 0 rfl (cv0 (by kernel_rfl)) (by kernel_rfl) ti_29 rfl rfl (oC (fun _ _ => rfl) (oC (fun _ _ => rfl) (oC (fun _ _ => rfl) (oC (sl_one (own_hd 4 rfl)) (oC (sl_one (own_hd 3 rfl)) (oC (sl_one (own_hd 1 rfl)) oN)))))) ?_
 refine WI.hd (y := blkP (.pointer (some ⟨b1, 0, none⟩)) 29 [.int .u64 ((31 : Nat) : Int), .int .i64 ((4 : Nat) : Int), .int .i64 ((1 : Nat) : Int), v1, v2, v3]) (by kernel_rfl) ?_
 refine wi_end (by kernel_rfl) ?_
 refine qh_then ?_
 refine wh_seq ?_
 refine wh_region ?_
 refine w_ldB 0 0 rfl (by kernel_rfl) ti_29 rfl rfl ?_
 refine WI.ent (frzAt 4 rfl) ?_
 refine WI.ent (frzAt 4 rfl) ?_
 refine WI.ent (frzAt 3 rfl) ?_
 obtain ⟨r1, er1, h2⟩ := bnd h1
 rcases r1 with r2 | r3
 ·
  have h3 := sumL h2
  refine w_fn [(2, true), (1, true), (0, true), (5, true)] (c_privitylaw20_nets er1) rfl fok_37 (by kernel_rfl) ?_
  rintro _ _ ⟨hv, rfl⟩; have hv := hv.symm; subst hv
  refine w_p Tb_ok 7 (by kernel_rfl) ?_
  refine wi_end (by kernel_rfl) ?_
  refine qh_then ?_
  refine wh_seq ?_
  refine wh_seq ?_
  refine wh_region ?_
  refine w_p Tb_ok 2 (by kernel_rfl) ?_
  refine wi_end (by kernel_rfl) ?_
  refine qh_then ?_
  refine h_ct (b := true) rfl (by kernel_rfl) ?_
  refine wh_seq ?_
  refine wh_region ?_
  refine w_p Tb_ok 1 (by kernel_rfl) ?_
  refine wi_end (by kernel_rfl) ?_
  refine qh_then ?_
  refine wh_ret ?_
  refine qh_then_ret ?_
  have h3 := Option.some.inj h3; subst h3
  exact q_end (l := [.bool false]) [] 6 ⟨rfl, rfl⟩ (.inl rfl) (by kernel_rfl) (by kernel_rfl) (by kernel_rfl)
 ·
  have h4 := sumR h2
  rcases r3 with r4 | r5
  ·
   have h5 := sumL h4
   refine w_fn [(2, true), (1, true), (0, true), (5, true)] (c_privitylaw20_nets er1) rfl fok_37 (by kernel_rfl) ?_
   rintro _ _ ⟨w5, w5__0_1, w5__0_2, w5__0_3, w5__2, w5__3, hv, rfl⟩; have hv := hv.symm; subst hv
   refine w_opP 0 rfl (fun b2 hb => ?_)
   subst hb
   refine w_p Tb_ok 7 (by kernel_rfl) ?_
   refine wi_end (by kernel_rfl) ?_
   refine qh_then ?_
   refine wh_seq ?_
   refine wh_seq ?_
   refine wh_region ?_
   refine w_p Tb_ok 2 (by kernel_rfl) ?_
   refine wi_end (by kernel_rfl) ?_
   refine qh_then ?_
   refine h_ct (b := true) rfl (by kernel_rfl) ?_
   refine wh_seq ?_
   refine wh_region ?_
   refine w_p Tb_ok 1 (by kernel_rfl) ?_
   refine wi_end (by kernel_rfl) ?_
   refine qh_then ?_
   refine wh_ret ?_
   refine qh_then_ret ?_
   have h5 := Option.some.inj h5; subst h5
   exact q_end (l := [.bool false]) [] 12 ⟨rfl, rfl⟩ (.inl rfl) (by kernel_rfl) (by kernel_rfl) (by kernel_rfl)
  ·
   have h6 := sumR h4
   rcases r5 with r6 | r7
   ·
    have h7 := sumL h6
    refine w_fn [(2, true), (1, true), (0, true), (5, true)] (c_privitylaw20_nets er1) rfl fok_37 (by kernel_rfl) ?_
    rintro _ _ ⟨w7, w7__0_1, w7__0_2, w7__0_3, w7__2, w7__3, hv, rfl⟩; have hv := hv.symm; subst hv
    refine w_opP 0 rfl (fun b3 hb => ?_)
    subst hb
    refine w_p Tb_ok 7 (by kernel_rfl) ?_
    refine wi_end (by kernel_rfl) ?_
    refine qh_then ?_
    refine wh_seq ?_
    refine wh_seq ?_
    refine wh_region ?_
    refine w_p Tb_ok 2 (by kernel_rfl) ?_
    refine wi_end (by kernel_rfl) ?_
    refine qh_then ?_
    refine h_ct (b := true) rfl (by kernel_rfl) ?_
    refine wh_seq ?_
    refine wh_region ?_
    refine w_p Tb_ok 1 (by kernel_rfl) ?_
    refine wi_end (by kernel_rfl) ?_
    refine qh_then ?_
    refine wh_ret ?_
    refine qh_then_ret ?_
    have h7 := Option.some.inj h7; subst h7
    exact q_end (l := [.bool false]) [] 12 ⟨rfl, rfl⟩ (.inl rfl) (by kernel_rfl) (by kernel_rfl) (by kernel_rfl)
   ·
    have h8 := sumR h6
    refine w_fn [(2, true), (1, true), (0, true), (5, true)] (c_privitylaw20_nets er1) rfl fok_37 (by kernel_rfl) ?_
    rintro _ _ ⟨w10, w10__0_1, w10__0_2, w10__0_3, w10__2, w10__3, w11, w11__0_1, w11__0_2, w11__0_3, w11__2, w11__3, hv, rfl⟩; have hv := hv.symm; subst hv
    refine w_opP 0 rfl (fun b4 hb => ?_)
    subst hb
    refine w_opP 6 rfl (fun b5 hb => ?_)
    subst hb
    refine w_p Tb_ok 7 (by kernel_rfl) ?_
    refine wi_end (by kernel_rfl) ?_
    refine qh_then ?_
    refine wh_seq ?_
    refine wh_seq ?_
    refine wh_region ?_
    refine w_p Tb_ok 2 (by kernel_rfl) ?_
    refine wi_end (by kernel_rfl) ?_
    refine qh_then ?_
    refine h_cf (b := false) rfl (by kernel_rfl) ?_
    refine wh_skip ?_
    refine qh_then ?_
    refine wh_seq ?_
    refine wh_region ?_
    refine w_p Tb_ok 1 (by kernel_rfl) ?_
    refine w_lt (kd := Kd.u64) (t := 30) (len := 1) (ps0 := [(0, .int .u64 ((4 : Nat) : Int))]) (ps := [(0, .int .u64 ((4 : Nat) : Int))]) ([4] : List Nat) _ (rowC (x := 4) (g := ()) (it0 rfl) row0) (scI sc0) (by kernel_rfl) ts_30 ti_22 (by kernel_rfl) rfl rfl (fun v4 => ?_)
    refine w_lt (kd := Kd.u64) (t := 30) (len := 1) (ps0 := [(0, .int .u64 ((5 : Nat) : Int))]) (ps := [(0, .int .u64 ((5 : Nat) : Int))]) ([5] : List Nat) _ (rowC (x := 5) (g := ()) (it0 rfl) row0) (scI sc0) (by kernel_rfl) ts_30 ti_22 (by kernel_rfl) rfl rfl (fun v5 => ?_)
    refine w_lt (kd := Kd.u64) (t := 30) (len := 1) (ps0 := [(0, .int .u64 ((6 : Nat) : Int))]) (ps := [(0, .int .u64 ((6 : Nat) : Int))]) ([6] : List Nat) _ (rowC (x := 6) (g := ()) (it0 rfl) row0) (scI sc0) (by kernel_rfl) ts_30 ti_22 (by kernel_rfl) rfl rfl (fun v6 => ?_)
    refine w_lt (kd := Kd.u64) (t := 30) (len := 1) (ps0 := [(0, .int .u64 ((7 : Nat) : Int))]) (ps := [(0, .int .u64 ((7 : Nat) : Int))]) ([7] : List Nat) _ (rowC (x := 7) (g := ()) (it0 rfl) row0) (scI sc0) (by kernel_rfl) ts_30 ti_22 (by kernel_rfl) rfl rfl (fun v7 => ?_)
    refine WI.ent (frzAt 3 rfl) ?_
    refine WI.ent (frzAt 3 rfl) ?_
    refine WI.ent (frzAt 3 rfl) ?_
    refine WI.ent (frzAt 3 rfl) ?_
    refine w_lt (kd := (Kd.sl Kd.u64)) (t := 27) (len := 4) (ps0 := [(0, v4), (1, v5), (2, v6), (3, v7)]) (ps := [(0, .agg #[v4]), (1, .agg #[v5]), (2, .agg #[v6]), (3, .agg #[v7])]) ([([4] : List Nat), ([5] : List Nat), ([6] : List Nat), ([7] : List Nat)] : List (List Nat)) _ (rowC (x := ([4] : List Nat)) (g := v4) (itS 3 rfl) (rowC (x := ([5] : List Nat)) (g := v5) (itS 2 rfl) (rowC (x := ([6] : List Nat)) (g := v6) (itS 1 rfl) (rowC (x := ([7] : List Nat)) (g := v7) (itS 0 rfl) row0)))) (scS (rd_hd 3 rfl) (scS (rd_hd 2 rfl) (scS (rd_hd 1 rfl) (scS (rd_hd 0 rfl) sc0)))) (by kernel_rfl) ts_27 ti_30 (by kernel_rfl) rfl rfl (fun v8 => ?_)
    refine WI.ent (frzAt 10 rfl) ?_
    refine WI.ent (frzAt 1 rfl) ?_
    obtain ⟨r8, er8, h9⟩ := bnd h8
    refine w_fn [(6, false), (6, true), (7, true), (8, true), (9, false), (1, true), (0, true)] (c_reconstruct_Values er8) rfl fok_38 (by kernel_rfl) ?_
    rintro _ _ ⟨w13, w14, w16, hv, rfl⟩; have hv := hv.symm; subst hv
    refine w_p Tb_ok 5 (by kernel_rfl) ?_
    refine wi_end (by kernel_rfl) ?_
    refine qh_then ?_
    refine wh_seq ?_
    refine wh_region ?_
    refine w_p Tb_ok 1 (by kernel_rfl) ?_
    refine w_len (own_hd 0 rfl) (by kernel_rfl) ts_27 ?_
    refine w_p Tb_ok 2 (by kernel_rfl) ?_
    rcases bcase h9 with ⟨t1, h10⟩ | ⟨t1, h10⟩
    ·
     refine w_kb (t := 34) t1 (by kernel_rfl) ?_
     refine w_p Tb_ok 1 (by kernel_rfl) ?_
     refine w_len (own_hd 1 rfl) (by kernel_rfl) ts_58 ?_
     refine w_p Tb_ok 3 (by kernel_rfl) ?_
     rcases bcase h10 with ⟨t2, h11⟩ | ⟨t2, h11⟩
     ·
      refine w_kb (t := 39) t2 (by kernel_rfl) ?_
      refine w_p Tb_ok 1 (by kernel_rfl) ?_
      obtain ⟨x1, ex1, h12⟩ := bnd h11
      refine w_ix (k := .i64) (own_hd 0 rfl) (nbd ex1) rfl (by kernel_rfl) ts_27 ti_30 ?_
      refine w_ldO 0 0 rfl ex1 (by kernel_rfl) ti_30 rfl rfl ?_
      rintro v9
      refine w_lt (kd := Kd.u64) (t := 30) (len := 1) (ps0 := [(0, .int .u64 ((3 : Nat) : Int))]) (ps := [(0, .int .u64 ((3 : Nat) : Int))]) ([3] : List Nat) _ (rowC (x := 3) (g := ()) (it0 rfl) row0) (scI sc0) (by kernel_rfl) ts_30 ti_22 (by kernel_rfl) rfl rfl (fun v10 => ?_)
      refine WI.ent (frzAt 0 rfl) ?_
      obtain ⟨r9, er9, h13⟩ := bnd h12
      refine w_fn [(1, true), (0, true)] (c_privityref04_Equal er9) rfl fok_48 (by kernel_rfl) ?_
      rintro _ _ ⟨hv, rfl⟩; have hv := hv.symm; subst hv
      refine w_p Tb_ok 2 (by kernel_rfl) ?_
      rcases bcase h13 with ⟨t3, h14⟩ | ⟨t3, h14⟩
      ·
       refine w_kb (t := 46) t3 (by kernel_rfl) ?_
       refine w_p Tb_ok 1 (by kernel_rfl) ?_
       obtain ⟨x2, ex2, h15⟩ := bnd h14
       refine w_ix (k := .i64) (own_hd 3 rfl) (nbd ex2) rfl (by kernel_rfl) ts_58 ti_25 ?_
       refine w_ldO 3 0 rfl ex2 (by kernel_rfl) ti_25 rfl rfl ?_
       rintro v11
       refine w_lt (kd := Kd.i64) (t := 25) (len := 1) (ps0 := [(0, .int .i64 ((2 : Nat) : Int))]) (ps := [(0, .int .i64 ((2 : Nat) : Int))]) ([((2 : Nat) : Int)] : List Int) _ (rowC (x := ((2 : Nat) : Int)) (g := ()) (it0 rfl) row0) (scI sc0) (by kernel_rfl) ts_25 ti_3 (by kernel_rfl) rfl rfl (fun v12 => ?_)
       refine WI.ent (frzAt 0 rfl) ?_
       obtain ⟨r10, er10, h16⟩ := bnd h15
       refine w_fn [(1, true), (0, true)] (c_privityref20_Numbers er10) rfl fok_71 (by kernel_rfl) ?_
       rintro _ _ ⟨hv, rfl⟩; have hv := hv.symm; subst hv
       refine w_p Tb_ok 2 (by kernel_rfl) ?_
       rcases bcase h16 with ⟨t4, h17⟩ | ⟨t4, h17⟩
       ·
        refine w_kb (t := 53) t4 (by kernel_rfl) ?_
        refine w_p Tb_ok 1 (by kernel_rfl) ?_
        obtain ⟨x3, ex3, h18⟩ := bnd h17
        refine w_ix (k := .i64) (own_hd 4 rfl) (nbd ex3) rfl (by kernel_rfl) ts_27 ti_30 ?_
        refine w_ldO 4 0 rfl ex3 (by kernel_rfl) ti_30 rfl rfl ?_
        rintro v13
        refine w_lt (kd := Kd.u64) (t := 30) (len := 1) (ps0 := [(0, .int .u64 ((3 : Nat) : Int))]) (ps := [(0, .int .u64 ((3 : Nat) : Int))]) ([3] : List Nat) _ (rowC (x := 3) (g := ()) (it0 rfl) row0) (scI sc0) (by kernel_rfl) ts_30 ti_22 (by kernel_rfl) rfl rfl (fun v14 => ?_)
        refine WI.ent (frzAt 0 rfl) ?_
        obtain ⟨r11, er11, h19⟩ := bnd h18
        refine w_fn [(1, true), (0, true)] (c_privityref04_Equal er11) rfl fok_48 (by kernel_rfl) ?_
        rintro _ _ ⟨hv, rfl⟩; have hv := hv.symm; subst hv
        refine w_p Tb_ok 2 (by kernel_rfl) ?_
        rcases bcase h19 with ⟨t5, h20⟩ | ⟨t5, h20⟩
        ·
         refine w_kb (t := 60) t5 (by kernel_rfl) ?_
         refine w_p Tb_ok 1 (by kernel_rfl) ?_
         obtain ⟨x4, ex4, h21⟩ := bnd h20
         refine w_ix (k := .i64) (own_hd 7 rfl) (nbd ex4) rfl (by kernel_rfl) ts_58 ti_25 ?_
         refine w_ldO 7 0 rfl ex4 (by kernel_rfl) ti_25 rfl rfl ?_
         rintro v15
         refine WI.ent (rdNil (kd := Kd.i64)) ?_
         obtain ⟨r12, er12, h22⟩ := bnd h21
         refine w_fn [(1, true), (0, true)] (c_privityref20_Numbers er12) rfl fok_71 (by kernel_rfl) ?_
         rintro _ _ ⟨hv, rfl⟩; have hv := hv.symm; subst hv
         refine w_p Tb_ok 2 (by kernel_rfl) ?_
         refine wi_end (by kernel_rfl) ?_
         refine qh_then ?_
         refine wh_ret ?_
         have h22 := Option.some.inj h22; subst h22
         exact q_end (l := [.bool r12]) [] 33 ⟨rfl, rfl⟩ (.inl rfl) (by kernel_rfl) (by kernel_rfl) (by kernel_rfl)
        ·
         refine w_kb (t := 60) t5 (by kernel_rfl) ?_
         refine w_p Tb_ok 6 (by kernel_rfl) ?_
         refine wi_end (by kernel_rfl) ?_
         refine qh_then ?_
         refine wh_ret ?_
         have h20 := Option.some.inj h20; subst h20
         exact q_end (l := [.bool false]) [] 31 ⟨rfl, rfl⟩ (.inl rfl) (by kernel_rfl) (by kernel_rfl) (by kernel_rfl)
       ·
        refine w_kb (t := 53) t4 (by kernel_rfl) ?_
        refine w_p Tb_ok 13 (by kernel_rfl) ?_
        refine wi_end (by kernel_rfl) ?_
        refine qh_then ?_
        refine wh_ret ?_
        have h17 := Option.some.inj h17; subst h17
        exact q_end (l := [.bool false]) [] 29 ⟨rfl, rfl⟩ (.inl rfl) (by kernel_rfl) (by kernel_rfl) (by kernel_rfl)
      ·
       refine w_kb (t := 46) t3 (by kernel_rfl) ?_
       refine w_p Tb_ok 20 (by kernel_rfl) ?_
       refine wi_end (by kernel_rfl) ?_
       refine qh_then ?_
       refine wh_ret ?_
       have h14 := Option.some.inj h14; subst h14
       exact q_end (l := [.bool false]) [] 27 ⟨rfl, rfl⟩ (.inl rfl) (by kernel_rfl) (by kernel_rfl) (by kernel_rfl)
     ·
      refine w_kb (t := 39) t2 (by kernel_rfl) ?_
      refine w_p Tb_ok 27 (by kernel_rfl) ?_
      refine wi_end (by kernel_rfl) ?_
      refine qh_then ?_
      refine wh_ret ?_
      have h11 := Option.some.inj h11; subst h11
      exact q_end (l := [.bool false]) [] 25 ⟨rfl, rfl⟩ (.inl rfl) (by kernel_rfl) (by kernel_rfl) (by kernel_rfl)
    ·
     refine w_kb (t := 34) t1 (by kernel_rfl) ?_
     refine w_p Tb_ok 32 (by kernel_rfl) ?_
     refine wi_end (by kernel_rfl) ?_
     refine qh_then ?_
     refine wh_ret ?_
     have h10 := Option.some.inj h10; subst h10
     exact q_end (l := [.bool false]) [] 25 ⟨rfl, rfl⟩ (.inl rfl) (by kernel_rfl) (by kernel_rfl) (by kernel_rfl)
theorem c_privityref04_Words {p_p : Nat} {p_l : List Nat} {p_most : Int} {vp_l_1 : Value} {r : (List Nat)} (h : privityref04_Words p_p p_l p_most = some r) : Ct Tryd.prog 42 [.int .u64 p_p, vp_l_1, .int .i64 p_most] [rdV Kd.u64 vp_l_1 p_l] (fun v L => ∃ w0 : Value, v = w0 ∧ L = [ownV Kd.u64 22 w0 r]) := by
 refine ct_intro Tryd.func42 rfl (by kernel_rfl) (fun F => ?_)
 unfold privityref04_Words at h
 refine wh_seq ?_
 refine wh_region ?_
 refine w_p Tb_ok 1 (by kernel_rfl) ?_
 refine wi_end (by kernel_rfl) ?_
 refine qh_then ?_
 refine wh_seq ?_
 refine wh_region ?_
 refine w_p Tb_ok 1 (by kernel_rfl) ?_
 refine wi_end (by kernel_rfl) ?_
 refine qh_then ?_
 refine wh_seq ?_
 refine wh_seq ?_
 refine wh_region ?_
 refine w_p Tb_ok 1 (by kernel_rfl) ?_
 refine wi_end (by kernel_rfl) ?_
 refine qh_then ?_
 refine WH.ent (ownNil (kd := Kd.u64) (e := 22)) ?_
 obtain ⟨l3, el1, h1⟩ := bnd h
 refine h_join (X := Value) (fun g => [(7, g)]) (fun g => [ownV Kd.u64 22 g l3] ++ F) (fun _ => True) ?_ ?_
 ·
  refine wh_block ?_
  refine h_lp (fun (st : (List Nat) × Int) (g : Value) => [(0, .int .u64 p_p), (1, vp_l_1), (2, .int .i64 p_most), (7, g), (8, .int .i64 st.2)]) (fun (st : (List Nat) × Int) (g : Value) => [rdV Kd.u64 vp_l_1 p_l, ownV Kd.u64 22 g st.1] ++ F) (.slice none 0 0) el1 aK (tH [(1, true), (0, false)] 1) ?_
  rintro kk ⟨l1, x1⟩ g1 o1 h2 hn1 j
  have h2 : privityref04_Words_L0 p_p p_l p_most l1 x1 = some o1 := h2
  unfold privityref04_Words_L0 at h2
  refine wh_seq ?_
  refine wh_seq ?_
  obtain ⟨x2, ej1, h3⟩ := bnd h2
  refine h_join (X := Unit) (fun g => [(0, .int .u64 p_p), (1, vp_l_1), (2, .int .i64 p_most), (7, g1), (8, .int .i64 x1), (17, .bool x2)]) (fun g => [rdV Kd.u64 vp_l_1 p_l, ownV Kd.u64 22 g1 l1] ++ F) (fun _ => True) ?_ ?_
  ·
   refine wh_region ?_
   refine w_p Tb_ok 2 (by kernel_rfl) ?_
   refine w_len (rd_hd 0 rfl) (by kernel_rfl) ts_30 ?_
   refine w_p Tb_ok 2 (by kernel_rfl) ?_
   rcases bcase ej1 with ⟨t1, h4⟩ | ⟨t1, h4⟩
   ·
    refine w_kb (t := 13) t1 (by kernel_rfl) ?_
    refine w_p Tb_ok 4 (by kernel_rfl) ?_
    refine wi_end (by kernel_rfl) ?_
    cases h4
    exact q_join () trivial aK (tH [(0, true), (1, false)] 1)
   ·
    refine w_kb (t := 13) t1 (by kernel_rfl) ?_
    refine w_p Tb_ok 4 (by kernel_rfl) ?_
    refine wi_end (by kernel_rfl) ?_
    cases h4
    exact q_join () trivial aK (tH [(0, true), (1, false)] 1)
  ·
   rintro ⟨⟩ - j
   refine qh_then ?_
   rcases bcase h3 with ⟨t2, h5⟩ | ⟨t2, h5⟩
   ·
    refine h_ct (b := x2) t2 (by kernel_rfl) ?_
    refine wh_skip ?_
    refine qh_then ?_
    refine wh_seq ?_
    refine wh_block ?_
    refine wh_region ?_
    refine w_p Tb_ok 3 (by kernel_rfl) ?_
    obtain ⟨x3, ex3, h6⟩ := bnd h5
    refine w_ix (k := .i64) (rd_hd 0 rfl) (ib ex3) (iz ex3) (by kernel_rfl) ts_30 ti_22 ?_
    refine w_ldR 0 0 rfl (ig ex3) (by kernel_rfl) ti_22 rfl rfl ?_
    rintro _
    refine w_p Tb_ok 1 (by kernel_rfl) ?_
    obtain ⟨x4, ex4, h7⟩ := bnd h6
    refine w_bi (zremU ex4) (by kernel_rfl) ?_
    refine w_lt (kd := Kd.u64) (t := 30) (len := 1) (ps0 := [(0, .int .u64 x4)]) (ps := [(0, .int .u64 x4)]) ([x4] : List Nat) _ (rowC (x := x4) (g := ()) (it0 rfl) row0) (scI sc0) (by kernel_rfl) ts_30 ti_22 (by kernel_rfl) rfl rfl (fun v1 => ?_)
    obtain ⟨l4, el4, h8⟩ := bnd h7
    refine w_app 2 rfl (own_src 0 rfl) el4 (by kernel_rfl) ts_30 ti_22 rfl (fun v2 => ?_)
    refine w_p Tb_ok 1 (by kernel_rfl) ?_
    refine wi_end (by kernel_rfl) ?_
    refine qh_block_normal ?_
    refine qh_then ?_
    refine wh_region ?_
    refine w_p Tb_ok 1 (by kernel_rfl) ?_
    obtain ⟨x5, ex5, h9⟩ := bnd h8
    refine w_bi (zaddI ex5) (by kernel_rfl) ?_
    refine w_p Tb_ok 1 (by kernel_rfl) ?_
    refine wi_end (by kernel_rfl) ?_
    have h9 := Option.some.inj h9; subst h9
    exact q_go v2 hn1 aK (tH [(2, true), (0, false)] 2)
   ·
    refine h_cf (b := x2) t2 (by kernel_rfl) ?_
    refine wh_exit ?_
    refine qh_then_exit ?_
    refine q_lpX ?_
    refine qh_block_exit ?_
    have h5 := Option.some.inj h5; subst h5
    cases (show _ = _ from hn1)
    exact q_join g1 trivial aK (tH [(1, false)] 1)
 ·
  rintro g3 - j
  refine qh_then ?_
  refine wh_seq ?_
  refine wh_region ?_
  refine w_p Tb_ok 2 (by kernel_rfl) ?_
  refine wi_end (by kernel_rfl) ?_
  refine qh_then ?_
  refine wh_ret ?_
  have h1 := Option.some.inj h1; subst h1
  exact q_end (l := [g3]) [(0, false)] 0 ⟨g3, rfl, rfl⟩ (.inl rfl) (by kernel_rfl) (by kernel_rfl) (by kernel_rfl)
theorem c_privityref14_Honest {p_w : T_api_Scenario} {p_i : Int} {vp_w_1 : Value} {vp_w_2 : Value} {vp_w_3 : Value} {r : Bool} (h : privityref14_Honest p_w p_i = some r) : Ct Tryd.prog 40 [.agg #[.int .u64 p_w.S.P, .int .i64 p_w.S.N, .int .i64 p_w.S.T, vp_w_1, vp_w_2, vp_w_3], .int .i64 p_i] [rdV Kd.i64 vp_w_1 p_w.Corrupt, rdV K_api_Deviation vp_w_2 p_w.Deviations, rdV (Kd.sl Kd.u64) vp_w_3 p_w.Tapes] (fun v L => v = .bool r ∧ L = []) := by
 refine ct_intro Tryd.func40 rfl (by kernel_rfl) (fun F => ?_)
 unfold privityref14_Honest at h
 refine wh_seq ?_
 refine wh_region ?_
 refine w_box (t := 29) (v := .agg #[.int .u64 p_w.S.P, .int .i64 p_w.S.N, .int .i64 p_w.S.T, vp_w_1, vp_w_2, vp_w_3]) (cs := [.int .u64 p_w.S.P, .int .i64 p_w.S.N, .int .i64 p_w.S.T, vp_w_1, vp_w_2, vp_w_3]) (cv0 (by kernel_rfl)) (by kernel_rfl) (fun q1 => ?_)
 refine WI.hd (y := blkP q1 29 [.int .u64 p_w.S.P, .int .i64 p_w.S.N, .int .i64 p_w.S.T, vp_w_1, vp_w_2, vp_w_3]) (by kernel_rfl) ?_
 refine w_opP 0 rfl (fun b1 hb => ?_)
 subst hb
 refine w_p Tb_ok 1 (by kernel_rfl) ?_
 refine wi_end (by kernel_rfl) ?_
 refine qh_then ?_
 refine wh_seq ?_
 refine wh_seq ?_
 refine wh_region ?_
 refine w_p Tb_ok 1 (by kernel_rfl) ?_
 refine wi_end (by kernel_rfl) ?_
 refine qh_then ?_
 refine h_lenle (rd_lenle 1 rfl) (fun hN1 => ?_)
 obtain ⟨r1, el1, h1⟩ := bnd h
 refine h_join (X := Unit × Unit) (fun g => []) (fun g => [] ++ F) (fun g => r1 = .go g.2) ?_ ?_
 ·
  refine wh_block ?_
  refine h_rg (fun (k1 : Nat) (st : Unit) (g : Unit) => [(1, .int .i64 p_i), (2, (.pointer (some ⟨b1, 0, none⟩))), (5, .int .i64 ((k1 : Nat) : Int))]) (fun (k1 : Nat) (st : Unit) (g : Unit) => [blkP (.pointer (some ⟨b1, 0, none⟩)) 29 [.int .u64 p_w.S.P, .int .i64 p_w.S.N, .int .i64 p_w.S.T, vp_w_1, vp_w_2, vp_w_3], rdV Kd.i64 vp_w_1 p_w.Corrupt, rdV K_api_Deviation vp_w_2 p_w.Deviations, rdV (Kd.sl Kd.u64) vp_w_3 p_w.Tapes] ++ F) () el1 (Nat.zero_le _) aK (tH [(0, false), (0, true), (1, true), (2, true)] 3) ?_ ?_
  ·
   rintro ⟨⟩ ⟨⟩ hr1 j
   refine wh_seq ?_
   refine wh_seq ?_
   refine wh_region ?_
   refine w_p Tb_ok 2 (by kernel_rfl) ?_
   refine w_ldB 0 3 rfl (by kernel_rfl) ti_25 rfl rfl ?_
   refine w_len (rd_hd 1 rfl) (by kernel_rfl) ts_25 ?_
   refine w_p Tb_ok 1 (by kernel_rfl) ?_
   refine wi_end (by kernel_rfl) ?_
   refine qh_then ?_
   refine h_cf (b := (decide ((((p_w.Corrupt.length) : Nat) : Int) < ((p_w.Corrupt.length : Nat) : Int)))) rgF (by kernel_rfl) ?_
   refine wh_exit ?_
   refine qh_then_exit ?_
   refine q_rzX ?_
   refine qh_block_exit ?_
   exact q_join ((), ()) hr1 aK (tH [] 4)
  ·
   rintro rem k1 ⟨⟩ ⟨⟩ o1 hk1 h2 hn1 j
   have h2 : privityref14_Honest_L0 p_w p_i k1 = some o1 := h2
   unfold privityref14_Honest_L0 at h2
   refine wh_seq ?_
   refine wh_seq ?_
   refine wh_region ?_
   refine w_p Tb_ok 2 (by kernel_rfl) ?_
   refine w_ldB 0 3 rfl (by kernel_rfl) ti_25 rfl rfl ?_
   refine w_len (rd_hd 1 rfl) (by kernel_rfl) ts_25 ?_
   refine w_p Tb_ok 1 (by kernel_rfl) ?_
   refine wi_end (by kernel_rfl) ?_
   refine qh_then ?_
   refine h_ct (b := (decide (((k1 : Nat) : Int) < ((p_w.Corrupt.length : Nat) : Int)))) (rgT hk1) (by kernel_rfl) ?_
   refine wh_skip ?_
   refine qh_then ?_
   refine wh_seq ?_
   refine wh_block ?_
   refine wh_seq ?_
   refine wh_region ?_
   refine w_p Tb_ok 1 (by kernel_rfl) ?_
   refine w_ldB 0 3 rfl (by kernel_rfl) ti_25 rfl rfl ?_
   refine w_p Tb_ok 1 (by kernel_rfl) ?_
   obtain ⟨x1, ex1, h3⟩ := bnd h2
   refine w_ix (k := .i64) (rd_hd 1 rfl) (nbd ex1) rfl (by kernel_rfl) ts_25 ti_3 ?_
   refine w_ldR 1 0 rfl ex1 (by kernel_rfl) ti_3 rfl rfl ?_
   rintro _
   refine w_p Tb_ok 2 (by kernel_rfl) ?_
   refine wi_end (by kernel_rfl) ?_
   refine qh_then ?_
   rcases bcase h3 with ⟨t1, h4⟩ | ⟨t1, h4⟩
   ·
    refine h_ct (b := (x1 == p_i)) t1 (by kernel_rfl) ?_
    refine wh_seq ?_
    refine wh_region ?_
    refine w_p Tb_ok 1 (by kernel_rfl) ?_
    refine wi_end (by kernel_rfl) ?_
    refine qh_then ?_
    refine wh_ret ?_
    refine qh_block_ret ?_
    refine qh_then_ret ?_
    refine q_rgR ?_
    refine qh_block_ret ?_
    refine q_joinR ?_
    refine qh_then_ret ?_
    have h4 := Option.some.inj h4; subst h4
    have hn := (show _ = _ from hn1); subst hn
    have h1 := Option.some.inj (show some _ = some _ from h1); subst h1
    exact q_end (l := [.bool false]) [] 4 ⟨rfl, rfl⟩ (.inl rfl) (by kernel_rfl) (by kernel_rfl) (by kernel_rfl)
   ·
    refine h_cf (b := (x1 == p_i)) t1 (by kernel_rfl) ?_
    refine wh_skip ?_
    refine qh_block_normal ?_
    refine qh_then ?_
    refine wh_region ?_
    refine w_p Tb_ok 1 (by kernel_rfl) ?_
    refine w_bi (zinc hk1 hN1) (by kernel_rfl) ?_
    refine w_p Tb_ok 1 (by kernel_rfl) ?_
    refine wi_end (by kernel_rfl) ?_
    have h4 := Option.some.inj h4; subst h4
    exact q_rgo () hn1 aK (tH [(0, false), (0, true), (1, true), (2, true)] 3)
 ·
  rintro ⟨⟨⟩, ⟨⟩⟩ hc j
  subst hc
  refine qh_then ?_
  refine wh_seq ?_
  refine wh_region ?_
  refine w_p Tb_ok 1 (by kernel_rfl) ?_
  refine wi_end (by kernel_rfl) ?_
  refine qh_then ?_
  refine wh_ret ?_
  have h1 := Option.some.inj h1; subst h1
  exact q_end (l := [.bool true]) [] 0 ⟨rfl, rfl⟩ (.inl rfl) (by kernel_rfl) (by kernel_rfl) (by kernel_rfl)
theorem c_privitylaw20_shared {p_z : T_privitylaw20_Poly} {vp_z_1 : Value} {vp_z_2 : Value} {vp_z_3 : Value} {vp_z_4 : Value} {vp_z_5 : Value} {r : (List (List Nat))} (h : privitylaw20_shared p_z = some r) : Ct Tryd.prog 39 [.agg #[.int .u64 p_z.W.S.P, .int .i64 p_z.W.S.N, .int .i64 p_z.W.S.T, vp_z_1, vp_z_2, vp_z_3, vp_z_4, vp_z_5]] [rdV Kd.i64 vp_z_1 p_z.W.Corrupt, rdV K_api_Deviation vp_z_2 p_z.W.Deviations, rdV (Kd.sl Kd.u64) vp_z_3 p_z.W.Tapes, rdV (Kd.sl Kd.u64) vp_z_4 p_z.F, rdV Kd.u64 vp_z_5 p_z.Other] (fun v L => ∃ w0 : Value, v = w0 ∧ L = [ownV (Kd.sl Kd.u64) 30 w0 r]) := by
 refine ct_intro Tryd.func39 rfl (by kernel_rfl) (fun F => ?_)
 unfold privitylaw20_shared at h
 refine wh_seq ?_
 refine wh_region ?_
 refine w_box (t := 56) (v := .agg #[.int .u64 p_z.W.S.P, .int .i64 p_z.W.S.N, .int .i64 p_z.W.S.T, vp_z_1, vp_z_2, vp_z_3, vp_z_4, vp_z_5]) (cs := [.int .u64 p_z.W.S.P, .int .i64 p_z.W.S.N, .int .i64 p_z.W.S.T, vp_z_1, vp_z_2, vp_z_3, vp_z_4, vp_z_5]) (cv0 (by kernel_rfl)) (by kernel_rfl) (fun q1 => ?_)
 refine WI.hd (y := blkP q1 56 [.int .u64 p_z.W.S.P, .int .i64 p_z.W.S.N, .int .i64 p_z.W.S.T, vp_z_1, vp_z_2, vp_z_3, vp_z_4, vp_z_5]) (by kernel_rfl) ?_
 refine w_opP 0 rfl (fun b1 hb => ?_)
 subst hb
 refine w_p Tb_ok 1 (by kernel_rfl) ?_
 refine wi_end (by kernel_rfl) ?_
 refine qh_then ?_
 refine wh_seq ?_
 refine wh_region ?_
 refine w_p Tb_ok 2 (by kernel_rfl) ?_
 refine w_ldB 0 0 rfl (by kernel_rfl) ti_24 rfl rfl ?_
 refine w_al (by kernel_rfl) ti_24 (fun q2 => ?_)
 refine WI.hd (y := blkP q2 24 [.int .u64 ((0 : Nat) : Int), .int .i64 ((0 : Nat) : Int), .int .i64 ((0 : Nat) : Int)]) (by kernel_rfl) ?_
 refine w_opP 0 rfl (fun b2 hb => ?_)
 subst hb
 refine w_stB (v := .agg #[.int .u64 p_z.W.S.P, .int .i64 p_z.W.S.N, .int .i64 p_z.W.S.T]) (off := 0) (cs := [.int .u64 p_z.W.S.P, .int .i64 p_z.W.S.N, .int .i64 p_z.W.S.T]) 0 rfl (cv0 (by kernel_rfl)) (by kernel_rfl) ti_24 rfl rfl (oC (fun _ _ => rfl) (oC (fun _ _ => rfl) (oC (fun _ _ => rfl) oN))) ?_
 refine WI.hd (y := blkP (.pointer (some ⟨b2, 0, none⟩)) 24 [.int .u64 p_z.W.S.P, .int .i64 p_z.W.S.N, .int .i64 p_z.W.S.T]) (by kernel_rfl) ?_
 refine wi_end (by kernel_rfl) ?_
 refine qh_then ?_
 refine wh_seq ?_
 refine wh_region ?_
 refine w_p Tb_ok 1 (by kernel_rfl) ?_
 refine wi_end (by kernel_rfl) ?_
 refine qh_then ?_
 refine wh_seq ?_
 refine wh_seq ?_
 refine wh_region ?_
 refine w_p Tb_ok 1 (by kernel_rfl) ?_
 refine wi_end (by kernel_rfl) ?_
 refine qh_then ?_
 refine WH.ent (ownNil (kd := (Kd.sl Kd.u64)) (e := 30)) ?_
 obtain ⟨u1, eu1, h1⟩ := bnd h
 have hN1 := ckN_some eu1
 obtain ⟨l2, el1, h2⟩ := bnd h1
 refine h_join (X := Value) (fun g => [(4, g)]) (fun g => [ownV (Kd.sl Kd.u64) 30 g l2] ++ F) (fun _ => True) ?_ ?_
 ·
  refine wh_block ?_
  refine h_rs (fun (k1 : Nat) (st : (List (List Nat))) (g : Value) => [(1, (.pointer (some ⟨b1, 0, none⟩))), (3, (.pointer (some ⟨b2, 0, none⟩))), (4, g), (5, .int .i64 ((k1 : Nat) : Int))]) (fun (k1 : Nat) (st : (List (List Nat))) (g : Value) => [blkP (.pointer (some ⟨b1, 0, none⟩)) 56 [.int .u64 p_z.W.S.P, .int .i64 p_z.W.S.N, .int .i64 p_z.W.S.T, vp_z_1, vp_z_2, vp_z_3, vp_z_4, vp_z_5], rdV Kd.i64 vp_z_1 p_z.W.Corrupt, rdV K_api_Deviation vp_z_2 p_z.W.Deviations, rdV (Kd.sl Kd.u64) vp_z_3 p_z.W.Tapes, rdV (Kd.sl Kd.u64) vp_z_4 p_z.F, rdV Kd.u64 vp_z_5 p_z.Other, blkP (.pointer (some ⟨b2, 0, none⟩)) 24 [.int .u64 p_z.W.S.P, .int .i64 p_z.W.S.N, .int .i64 p_z.W.S.T], ownV (Kd.sl Kd.u64) 30 g st] ++ F) (.slice none 0 0) el1 (Nat.le_max_left ..) aK (tH [(2, false), (2, true), (3, true), (4, true), (5, true), (6, true), (1, false), (0, false)] 5) ?_ ?_
  ·
   rintro g3 j
   refine wh_seq ?_
   refine wh_seq ?_
   refine wh_region ?_
   refine w_p Tb_ok 2 (by kernel_rfl) ?_
   refine w_ldB 6 1 rfl (by kernel_rfl) ti_3 rfl rfl ?_
   refine w_p Tb_ok 1 (by kernel_rfl) ?_
   refine wi_end (by kernel_rfl) ?_
   refine qh_then ?_
   refine h_cf (b := (decide ((((max 1 (p_z.W.S.N + 1).toNat) : Nat) : Int) ≤ p_z.W.S.N))) rgEF (by kernel_rfl) ?_
   refine wh_exit ?_
   refine qh_then_exit ?_
   refine q_rzX ?_
   refine qh_block_exit ?_
   exact q_join g3 trivial aK (tH [(7, false)] 7)
  ·
   rintro rem k1 l1 g1 o1 hk1 h3 hn1 j
   have h3 : privitylaw20_shared_L0 p_z k1 l1 = some o1 := h3
   unfold privitylaw20_shared_L0 at h3
   refine wh_seq ?_
   refine wh_seq ?_
   refine wh_region ?_
   refine w_p Tb_ok 2 (by kernel_rfl) ?_
   refine w_ldB 6 1 rfl (by kernel_rfl) ti_3 rfl rfl ?_
   refine w_p Tb_ok 1 (by kernel_rfl) ?_
   refine wi_end (by kernel_rfl) ?_
   refine qh_then ?_
   refine h_ct (b := (decide (((k1 : Nat) : Int) ≤ p_z.W.S.N))) (rgET hk1) (by kernel_rfl) ?_
   refine wh_skip ?_
   refine qh_then ?_
   refine wh_seq ?_
   refine wh_block ?_
   refine wh_seq ?_
   refine wh_region ?_
   refine w_p Tb_ok 1 (by kernel_rfl) ?_
   refine wi_end (by kernel_rfl) ?_
   refine qh_then ?_
   refine wh_seq ?_
   refine wh_seq ?_
   refine wh_region ?_
   refine w_p Tb_ok 1 (by kernel_rfl) ?_
   refine wi_end (by kernel_rfl) ?_
   refine qh_then ?_
   refine WH.ent (ownNil (kd := Kd.u64) (e := 22)) ?_
   refine h_lenle (rd_lenle 5 rfl) (fun hN2 => ?_)
   obtain ⟨l4, el2, h4⟩ := bnd h3
   refine h_join (X := Value) (fun g => [(1, (.pointer (some ⟨b1, 0, none⟩))), (3, (.pointer (some ⟨b2, 0, none⟩))), (4, g1), (5, .int .i64 ((k1 : Nat) : Int)), (6, g)]) (fun g => [blkP (.pointer (some ⟨b1, 0, none⟩)) 56 [.int .u64 p_z.W.S.P, .int .i64 p_z.W.S.N, .int .i64 p_z.W.S.T, vp_z_1, vp_z_2, vp_z_3, vp_z_4, vp_z_5], rdV Kd.i64 vp_z_1 p_z.W.Corrupt, rdV K_api_Deviation vp_z_2 p_z.W.Deviations, rdV (Kd.sl Kd.u64) vp_z_3 p_z.W.Tapes, rdV (Kd.sl Kd.u64) vp_z_4 p_z.F, rdV Kd.u64 vp_z_5 p_z.Other, blkP (.pointer (some ⟨b2, 0, none⟩)) 24 [.int .u64 p_z.W.S.P, .int .i64 p_z.W.S.N, .int .i64 p_z.W.S.T], ownV (Kd.sl Kd.u64) 30 g1 l1, ownV Kd.u64 22 g l4] ++ F) (fun _ => True) ?_ ?_
   ·
    refine wh_block ?_
    refine h_rs (fun (k2 : Nat) (st : (List Nat)) (g : Value) => [(1, (.pointer (some ⟨b1, 0, none⟩))), (3, (.pointer (some ⟨b2, 0, none⟩))), (4, g1), (5, .int .i64 ((k1 : Nat) : Int)), (6, g), (7, .int .i64 ((k2 : Nat) : Int))]) (fun (k2 : Nat) (st : (List Nat)) (g : Value) => [blkP (.pointer (some ⟨b1, 0, none⟩)) 56 [.int .u64 p_z.W.S.P, .int .i64 p_z.W.S.N, .int .i64 p_z.W.S.T, vp_z_1, vp_z_2, vp_z_3, vp_z_4, vp_z_5], rdV Kd.i64 vp_z_1 p_z.W.Corrupt, rdV K_api_Deviation vp_z_2 p_z.W.Deviations, rdV (Kd.sl Kd.u64) vp_z_3 p_z.W.Tapes, rdV (Kd.sl Kd.u64) vp_z_4 p_z.F, rdV Kd.u64 vp_z_5 p_z.Other, blkP (.pointer (some ⟨b2, 0, none⟩)) 24 [.int .u64 p_z.W.S.P, .int .i64 p_z.W.S.N, .int .i64 p_z.W.S.T], ownV (Kd.sl Kd.u64) 30 g1 l1, ownV Kd.u64 22 g st] ++ F) (.slice none 0 0) el2 (Nat.zero_le _) aK (tH [(1, false), (1, true), (2, true), (3, true), (4, true), (5, true), (6, false), (6, false), (0, false)] 5) ?_ ?_
    ·
     rintro g6 j
     refine wh_seq ?_
     refine wh_seq ?_
     refine wh_region ?_
     refine w_p Tb_ok 2 (by kernel_rfl) ?_
     refine w_ldB 0 6 rfl (by kernel_rfl) ti_27 rfl rfl ?_
     refine w_len (rd_hd 4 rfl) (by kernel_rfl) ts_27 ?_
     refine w_p Tb_ok 1 (by kernel_rfl) ?_
     refine wi_end (by kernel_rfl) ?_
     refine qh_then ?_
     refine h_cf (b := (decide ((((p_z.F.length) : Nat) : Int) < ((p_z.F.length : Nat) : Int)))) rgF (by kernel_rfl) ?_
     refine wh_exit ?_
     refine qh_then_exit ?_
     refine q_rzX ?_
     refine qh_block_exit ?_
     exact q_join g6 trivial aK (tH [(0, false), (0, true), (1, true), (2, true), (3, true), (4, true), (5, false), (5, false), (5, false)] 5)
    ·
     rintro rem k2 l3 g4 o2 hk2 h5 hn2 j
     have h5 : privitylaw20_shared_L1 p_z k1 k2 l3 = some o2 := h5
     unfold privitylaw20_shared_L1 at h5
     refine wh_seq ?_
     refine wh_seq ?_
     refine wh_region ?_
     refine w_p Tb_ok 2 (by kernel_rfl) ?_
     refine w_ldB 0 6 rfl (by kernel_rfl) ti_27 rfl rfl ?_
     refine w_len (rd_hd 4 rfl) (by kernel_rfl) ts_27 ?_
     refine w_p Tb_ok 1 (by kernel_rfl) ?_
     refine wi_end (by kernel_rfl) ?_
     refine qh_then ?_
     refine h_ct (b := (decide (((k2 : Nat) : Int) < ((p_z.F.length : Nat) : Int)))) (rgT hk2) (by kernel_rfl) ?_
     refine wh_skip ?_
     refine qh_then ?_
     refine wh_seq ?_
     refine wh_block ?_
     refine wh_seq ?_
     obtain ⟨x3, ex3, h6⟩ := bnd h5
     obtain ⟨x4, ex4, h7⟩ := bnd h6
     obtain ⟨r3, er3, h8⟩ := bnd h7
     obtain ⟨x5, ex5, h9⟩ := bnd h8
     obtain ⟨r4, er4, h10⟩ := bnd h9
     refine h_flow [0, 1, 0, 4, 0, 16, 0, 112, 240, 0, 512, 1536, 4092, 0, 8192, 32767, 65535] ⟨9, [0, 0, 0, 0, 0, 0, 0, 0, 1, 0, 0, 0, 1, 0, 0, 0, 0], [], [(1, [(0, 6)]), (3, [(0, 6)]), (5, [(0, 0)]), (10, [(0, 6)])], [(7, [(0, 4)]), (8, [(0, 4)]), (12, [(9, 0)]), (15, [(13, 0)])]⟩ (fun γ => [.pointer (some ⟨b2, 0, none⟩), .int .u64 p_z.W.S.P, .pointer (some ⟨b2, 0, none⟩), .int .u64 p_z.W.S.P, .pointer (some ⟨b1, 6, none⟩), vp_z_4, .int .i64 ((k2 : Nat) : Int), .pointer (some (elV vp_z_4 (k2 * (Kd.sl Kd.u64).size))), (γ 8 0), .pointer (some ⟨b2, 2, none⟩), .int .i64 p_z.W.S.T, .int .i64 x4, (γ 12 0), .int .i64 ((k1 : Nat) : Int), .int .u64 x5, .int .u64 r4, .int .u64 r4]) (fun i γ => match i with | 8 => [rdV Kd.u64 (γ 8 0) x3] | 12 => [rdV Kd.u64 (γ 12 0) r3] | _ => []) (fun γ => [blkP (.pointer (some ⟨b1, 0, none⟩)) 56 [.int .u64 p_z.W.S.P, .int .i64 p_z.W.S.N, .int .i64 p_z.W.S.T, vp_z_1, vp_z_2, vp_z_3, vp_z_4, vp_z_5], rdV Kd.i64 vp_z_1 p_z.W.Corrupt, rdV K_api_Deviation vp_z_2 p_z.W.Deviations, rdV (Kd.sl Kd.u64) vp_z_3 p_z.W.Tapes, rdV (Kd.sl Kd.u64) vp_z_4 p_z.F, rdV Kd.u64 vp_z_5 p_z.Other, blkP (.pointer (some ⟨b2, 0, none⟩)) 24 [.int .u64 p_z.W.S.P, .int .i64 p_z.W.S.N, .int .i64 p_z.W.S.T], ownV (Kd.sl Kd.u64) 30 g1 l1, ownV Kd.u64 22 g4 l3, rdV Kd.u64 (γ 8 0) x3, rdV Kd.u64 (γ 12 0) r3] ++ F) [0, 2, 4, 6, 9, 13, 16] tryd_mix Tb_ok (by kernel_rfl) (by kernel_rfl) (fun _ => by kernel_rfl) (fun _ => by kernel_rfl) (fun _ => by kernel_rfl) (fun _ => by kernel_rfl) (fun _ => by kernel_rfl) (fun _ => by kernel_rfl) (fun _ => by kernel_rfl) ?_ ?_
     ·
      refine ⟨?_, ?_, ?_, ?_, ?_, ?_, ?_, ?_, ?_, ?_, trivial⟩
      ·
       intro γ F
       refine WI.reH (H' := [blkP (.pointer (some ⟨b2, 0, none⟩)) 24 [.int .u64 p_z.W.S.P, .int .i64 p_z.W.S.N, .int .i64 p_z.W.S.T]] ++ F) (by kernel_rfl) ?_
       refine w_ldB 0 0 rfl (by kernel_rfl) ti_22 rfl rfl ?_
       exact wE (gl []) [(0, false)] 0
      ·
       intro γ F
       refine WI.reH (H' := [blkP (.pointer (some ⟨b2, 0, none⟩)) 24 [.int .u64 p_z.W.S.P, .int .i64 p_z.W.S.N, .int .i64 p_z.W.S.T]] ++ F) (by kernel_rfl) ?_
       refine w_ldB 0 0 rfl (by kernel_rfl) ti_22 rfl rfl ?_
       exact wE (gl []) [(0, false)] 0
      ·
       intro γ F
       refine WI.reH (H' := [blkP (.pointer (some ⟨b1, 0, none⟩)) 56 [.int .u64 p_z.W.S.P, .int .i64 p_z.W.S.N, .int .i64 p_z.W.S.T, vp_z_1, vp_z_2, vp_z_3, vp_z_4, vp_z_5]] ++ F) (by kernel_rfl) ?_
       refine w_ldB 0 6 rfl (by kernel_rfl) ti_27 rfl rfl ?_
       exact wE (gl []) [(0, false)] 0
      ·
       intro γ F
       refine WI.reH (H' := [rdV (Kd.sl Kd.u64) vp_z_4 p_z.F] ++ F) (by kernel_rfl) ?_
       refine w_ix (k := .i64) (rd_hd 0 rfl) (nbd ex3) rfl (by kernel_rfl) ts_27 ti_30 ?_
       exact wE (gl []) [] 1
      ·
       intro γ F
       refine WI.reH (H' := [rdV (Kd.sl Kd.u64) vp_z_4 p_z.F] ++ F) (by kernel_rfl) ?_
       refine w_ldR 0 0 rfl ex3 (by kernel_rfl) ti_30 rfl rfl ?_
       rintro v1
       exact wE (gl [v1]) [(0, true)] 2
      ·
       intro γ F
       refine WI.reH (H' := [blkP (.pointer (some ⟨b2, 0, none⟩)) 24 [.int .u64 p_z.W.S.P, .int .i64 p_z.W.S.N, .int .i64 p_z.W.S.T]] ++ F) (by kernel_rfl) ?_
       refine w_ldB 0 2 rfl (by kernel_rfl) ti_3 rfl rfl ?_
       exact wE (gl []) [(0, false)] 0
      ·
       intro γ F
       refine WI.reH (H' := [] ++ F) (by kernel_rfl) ?_
       refine w_bi (zaddI ex4) (by kernel_rfl) ?_
       exact wE (gl []) [] 0
      ·
       intro γ F
       refine WI.reH (H' := [rdV Kd.u64 (γ 8 0) x3] ++ F) (by kernel_rfl) ?_
       refine w_fn [(0, true)] (c_privityref04_Words er3) rfl fok_42 (by kernel_rfl) ?_
       rintro _ _ ⟨w1, hv, rfl⟩; have hv := hv.symm; subst hv
       refine WI.ent (frzAt 0 rfl) ?_
       exact wE (gl [w1]) [(0, true)] 2
      ·
       intro γ F
       refine WI.reH (H' := [] ++ F) (by kernel_rfl) ?_
       refine w_cv Tb_ok (ecU ex5) (by kernel_rfl) ?_
       exact wE (gl []) [] 0
      ·
       intro γ F
       refine WI.reH (H' := [rdV Kd.u64 (γ 12 0) r3] ++ F) (by kernel_rfl) ?_
       refine w_fn [(0, true)] (c_privityref04_Eval er4) rfl fok_44 (by kernel_rfl) ?_
       rintro _ _ ⟨hv, rfl⟩; have hv := hv.symm; subst hv
       exact wE (gl []) [] 1
     ·
      intro γ1
      refine qh_then ?_
      refine wh_seq ?_
      refine wh_seq ?_
      obtain ⟨x6, ej1, h11⟩ := bnd h10
      refine h_join (X := Unit) (fun g => [(1, (.pointer (some ⟨b1, 0, none⟩))), (3, (.pointer (some ⟨b2, 0, none⟩))), (4, g1), (5, .int .i64 ((k1 : Nat) : Int)), (6, g4), (7, .int .i64 ((k2 : Nat) : Int)), (8, .int .u64 r4), (51, .bool x6)]) (fun g => [blkP (.pointer (some ⟨b1, 0, none⟩)) 56 [.int .u64 p_z.W.S.P, .int .i64 p_z.W.S.N, .int .i64 p_z.W.S.T, vp_z_1, vp_z_2, vp_z_3, vp_z_4, vp_z_5], rdV Kd.i64 vp_z_1 p_z.W.Corrupt, rdV K_api_Deviation vp_z_2 p_z.W.Deviations, rdV (Kd.sl Kd.u64) vp_z_3 p_z.W.Tapes, rdV (Kd.sl Kd.u64) vp_z_4 p_z.F, rdV Kd.u64 vp_z_5 p_z.Other, blkP (.pointer (some ⟨b2, 0, none⟩)) 24 [.int .u64 p_z.W.S.P, .int .i64 p_z.W.S.N, .int .i64 p_z.W.S.T], ownV (Kd.sl Kd.u64) 30 g1 l1, ownV Kd.u64 22 g4 l3] ++ F) (fun _ => True) ?_ ?_
      ·
       refine wh_region ?_
       refine w_p Tb_ok 1 (by kernel_rfl) ?_
       refine w_ldB 0 0 rfl (by kernel_rfl) ti_29 rfl rfl ?_
       refine w_p Tb_ok 1 (by kernel_rfl) ?_
       obtain ⟨r5, er5, h12⟩ := bnd ej1
       refine w_fn [(1, true), (2, true), (3, true)] (c_privityref14_Honest er5) rfl fok_40 (by kernel_rfl) ?_
       rintro _ _ ⟨hv, rfl⟩; have hv := hv.symm; subst hv
       refine w_p Tb_ok 2 (by kernel_rfl) ?_
       rcases bcase h12 with ⟨t1, h13⟩ | ⟨t1, h13⟩
       ·
        refine w_kb (t := 46) t1 (by kernel_rfl) ?_
        refine w_p Tb_ok 1 (by kernel_rfl) ?_
        refine w_ldB 0 7 rfl (by kernel_rfl) ti_30 rfl rfl ?_
        refine w_len (rd_hd 5 rfl) (by kernel_rfl) ts_30 ?_
        refine w_p Tb_ok 2 (by kernel_rfl) ?_
        refine wi_end (by kernel_rfl) ?_
        cases h13
        exact q_join () trivial aK (tH [(0, false), (0, true), (1, true), (2, true), (3, true), (4, true), (5, false), (5, false), (5, false)] 7)
       ·
        refine w_kb (t := 46) t1 (by kernel_rfl) ?_
        refine w_p Tb_ok 5 (by kernel_rfl) ?_
        refine wi_end (by kernel_rfl) ?_
        cases h13
        exact q_join () trivial aK (tH [(0, false), (0, true), (1, true), (2, true), (3, true), (4, true), (5, false), (5, false), (5, false)] 7)
      ·
       rintro ⟨⟩ - j
       refine qh_then ?_
       rcases bcase h11 with ⟨t2, h14⟩ | ⟨t2, h14⟩
       ·
        refine h_ct (b := x6) t2 (by kernel_rfl) ?_
        obtain ⟨x7, ex7, h15⟩ := bnd h14
        obtain ⟨x8, ex8, h16⟩ := bnd h15
        obtain ⟨x9, ex9, h17⟩ := bnd h16
        obtain ⟨x10, ex10, h18⟩ := bnd h17
        refine h_flow [0, 1, 0, 0, 12, 0, 32, 96, 252, 511, 1023, 0, 2048, 8191, 16383] ⟨9, [0, 0, 0, 0, 0, 0, 0, 0, 0, 0, 0, 0, 0, 0, 0], [], [(1, [(0, 0)]), (6, [(0, 0)]), (12, [(0, 6)])], [(7, [(0, 5)]), (9, [(0, 5)]), (10, [(0, 5)])]⟩ (fun γ => [.pointer (some ⟨b1, 7, none⟩), vp_z_5, .int .i64 ((k1 : Nat) : Int), .int .i64 ((k2 : Nat) : Int), .int .i64 x7, .pointer (some ⟨b1, 7, none⟩), vp_z_5, .int .i64 ((p_z.Other.length : Nat) : Int), .int .i64 x8, .pointer (some (elV vp_z_5 (x8.toNat * Kd.u64.size))), .int .u64 x9, .pointer (some ⟨b2, 0, none⟩), .int .u64 p_z.W.S.P, .int .u64 x10, .int .u64 x10]) (fun _ _ => []) (fun γ => [blkP (.pointer (some ⟨b1, 0, none⟩)) 56 [.int .u64 p_z.W.S.P, .int .i64 p_z.W.S.N, .int .i64 p_z.W.S.T, vp_z_1, vp_z_2, vp_z_3, vp_z_4, vp_z_5], rdV Kd.i64 vp_z_1 p_z.W.Corrupt, rdV K_api_Deviation vp_z_2 p_z.W.Deviations, rdV (Kd.sl Kd.u64) vp_z_3 p_z.W.Tapes, rdV (Kd.sl Kd.u64) vp_z_4 p_z.F, rdV Kd.u64 vp_z_5 p_z.Other, blkP (.pointer (some ⟨b2, 0, none⟩)) 24 [.int .u64 p_z.W.S.P, .int .i64 p_z.W.S.N, .int .i64 p_z.W.S.T], ownV (Kd.sl Kd.u64) 30 g1 l1, ownV Kd.u64 22 g4 l3] ++ F) [0, 2, 3, 5, 11, 14] tryd_mix Tb_ok (by kernel_rfl) (by kernel_rfl) (fun _ => by kernel_rfl) (fun _ => by kernel_rfl) (fun _ => by kernel_rfl) (fun _ => by kernel_rfl) (fun _ => by kernel_rfl) (fun _ => by kernel_rfl) (fun _ => by kernel_rfl) ?_ ?_
        ·
         refine ⟨?_, ?_, ?_, ?_, ?_, ?_, ?_, ?_, ?_, trivial⟩
         ·
          intro γ F
          refine WI.reH (H' := [blkP (.pointer (some ⟨b1, 0, none⟩)) 56 [.int .u64 p_z.W.S.P, .int .i64 p_z.W.S.N, .int .i64 p_z.W.S.T, vp_z_1, vp_z_2, vp_z_3, vp_z_4, vp_z_5]] ++ F) (by kernel_rfl) ?_
          refine w_ldB 0 7 rfl (by kernel_rfl) ti_30 rfl rfl ?_
          exact wE (gl []) [(0, false)] 0
         ·
          intro γ F
          refine WI.reH (H' := [] ++ F) (by kernel_rfl) ?_
          refine w_bi (zaddI ex7) (by kernel_rfl) ?_
          exact wE (gl []) [] 0
         ·
          intro γ F
          refine WI.reH (H' := [blkP (.pointer (some ⟨b1, 0, none⟩)) 56 [.int .u64 p_z.W.S.P, .int .i64 p_z.W.S.N, .int .i64 p_z.W.S.T, vp_z_1, vp_z_2, vp_z_3, vp_z_4, vp_z_5]] ++ F) (by kernel_rfl) ?_
          refine w_ldB 0 7 rfl (by kernel_rfl) ti_30 rfl rfl ?_
          exact wE (gl []) [(0, false)] 0
         ·
          intro γ F
          refine WI.reH (H' := [rdV Kd.u64 vp_z_5 p_z.Other] ++ F) (by kernel_rfl) ?_
          refine w_len (rd_hd 0 rfl) (by kernel_rfl) ts_30 ?_
          exact wE (gl []) [] 1
         ·
          intro γ F
          refine WI.reH (H' := [] ++ F) (by kernel_rfl) ?_
          refine w_bi (zremI ex8) (by kernel_rfl) ?_
          exact wE (gl []) [] 0
         ·
          intro γ F
          refine WI.reH (H' := [rdV Kd.u64 vp_z_5 p_z.Other] ++ F) (by kernel_rfl) ?_
          refine w_ix (k := .i64) (rd_hd 0 rfl) (ib ex9) (iz ex9) (by kernel_rfl) ts_30 ti_22 ?_
          exact wE (gl []) [] 1
         ·
          intro γ F
          refine WI.reH (H' := [rdV Kd.u64 vp_z_5 p_z.Other] ++ F) (by kernel_rfl) ?_
          refine w_ldR 0 0 rfl (ig ex9) (by kernel_rfl) ti_22 rfl rfl ?_
          rintro _
          exact wE (gl []) [] 1
         ·
          intro γ F
          refine WI.reH (H' := [blkP (.pointer (some ⟨b2, 0, none⟩)) 24 [.int .u64 p_z.W.S.P, .int .i64 p_z.W.S.N, .int .i64 p_z.W.S.T]] ++ F) (by kernel_rfl) ?_
          refine w_ldB 0 0 rfl (by kernel_rfl) ti_22 rfl rfl ?_
          exact wE (gl []) [(0, false)] 0
         ·
          intro γ F
          refine WI.reH (H' := [] ++ F) (by kernel_rfl) ?_
          refine w_bi (zremU ex10) (by kernel_rfl) ?_
          exact wE (gl []) [] 0
        ·
         intro γ2
         refine qh_then ?_
         refine wh_region ?_
         refine w_p Tb_ok 2 (by kernel_rfl) ?_
         refine w_lt (kd := Kd.u64) (t := 30) (len := 1) (ps0 := [(0, .int .u64 x10)]) (ps := [(0, .int .u64 x10)]) ([x10] : List Nat) _ (rowC (x := x10) (g := ()) (it0 rfl) row0) (scI sc0) (by kernel_rfl) ts_30 ti_22 (by kernel_rfl) rfl rfl (fun v2 => ?_)
         obtain ⟨l5, el5, h19⟩ := bnd h18
         refine w_app 9 rfl (own_src 0 rfl) el5 (by kernel_rfl) ts_30 ti_22 rfl (fun v3 => ?_)
         refine w_p Tb_ok 1 (by kernel_rfl) ?_
         refine wi_end (by kernel_rfl) ?_
         refine qh_block_normal ?_
         refine qh_then ?_
         refine wh_region ?_
         refine w_p Tb_ok 1 (by kernel_rfl) ?_
         refine w_bi (zinc hk2 hN2) (by kernel_rfl) ?_
         refine w_p Tb_ok 1 (by kernel_rfl) ?_
         refine wi_end (by kernel_rfl) ?_
         have h19 := Option.some.inj h19; subst h19
         exact q_rs v3 hn2 aK (tH [(2, false), (2, true), (3, true), (4, true), (5, true), (6, true), (7, false), (7, false), (0, false)] 6)
       ·
        refine h_cf (b := x6) t2 (by kernel_rfl) ?_
        refine wh_skip ?_
        refine qh_then ?_
        refine wh_region ?_
        refine w_p Tb_ok 2 (by kernel_rfl) ?_
        refine w_lt (kd := Kd.u64) (t := 30) (len := 1) (ps0 := [(0, .int .u64 r4)]) (ps := [(0, .int .u64 r4)]) ([r4] : List Nat) _ (rowC (x := r4) (g := ()) (it0 rfl) row0) (scI sc0) (by kernel_rfl) ts_30 ti_22 (by kernel_rfl) rfl rfl (fun v4 => ?_)
        obtain ⟨l6, el6, h20⟩ := bnd h14
        refine w_app 9 rfl (own_src 0 rfl) el6 (by kernel_rfl) ts_30 ti_22 rfl (fun v5 => ?_)
        refine w_p Tb_ok 1 (by kernel_rfl) ?_
        refine wi_end (by kernel_rfl) ?_
        refine qh_block_normal ?_
        refine qh_then ?_
        refine wh_region ?_
        refine w_p Tb_ok 1 (by kernel_rfl) ?_
        refine w_bi (zinc hk2 hN2) (by kernel_rfl) ?_
        refine w_p Tb_ok 1 (by kernel_rfl) ?_
        refine wi_end (by kernel_rfl) ?_
        have h20 := Option.some.inj h20; subst h20
        exact q_rs v5 hn2 aK (tH [(2, false), (2, true), (3, true), (4, true), (5, true), (6, true), (7, false), (7, false), (0, false)] 6)
   ·
    rintro g5 - j
    refine qh_then ?_
    refine wh_region ?_
    refine w_p Tb_ok 2 (by kernel_rfl) ?_
    refine WI.ent (frzAt 8 rfl) ?_
    refine w_lt (kd := (Kd.sl Kd.u64)) (t := 27) (len := 1) (ps0 := [(0, g5)]) (ps := [(0, .agg #[g5])]) ([l4] : List (List Nat)) _ (rowC (x := l4) (g := g5) (itS 0 rfl) row0) (scS (rd_hd 0 rfl) sc0) (by kernel_rfl) ts_27 ti_30 (by kernel_rfl) rfl rfl (fun v6 => ?_)
    obtain ⟨l7, el7, h21⟩ := bnd h4
    refine w_app 9 rfl (own_src 0 rfl) el7 (by kernel_rfl) ts_27 ti_30 rfl (fun v7 => ?_)
    refine w_p Tb_ok 1 (by kernel_rfl) ?_
    refine wi_end (by kernel_rfl) ?_
    refine qh_block_normal ?_
    refine qh_then ?_
    refine wh_region ?_
    refine w_p Tb_ok 1 (by kernel_rfl) ?_
    refine w_bi (zinc hk1 hN1) (by kernel_rfl) ?_
    refine w_p Tb_ok 1 (by kernel_rfl) ?_
    refine wi_end (by kernel_rfl) ?_
    have h21 := Option.some.inj h21; subst h21
    exact q_rs v7 hn1 aK (tH [(3, false), (3, true), (4, true), (5, true), (6, true), (7, true), (8, false), (0, false)] 7)
 ·
  rintro g2 - j
  refine qh_then ?_
  refine wh_seq ?_
  refine wh_region ?_
  refine w_p Tb_ok 2 (by kernel_rfl) ?_
  refine wi_end (by kernel_rfl) ?_
  refine qh_then ?_
  refine wh_ret ?_
  have h2 := Option.some.inj h2; subst h2
  exact q_end (l := [g2]) [(0, false)] 0 ⟨g2, rfl, rfl⟩ (.inl rfl) (by kernel_rfl) (by kernel_rfl) (by kernel_rfl)
theorem c_privityref04_Coefficient {p_f : List Nat} {p_i : Int} {vp_f_1 : Value} {r : Nat} (h : privityref04_Coefficient p_f p_i = some r) : Ct Tryd.prog 41 [vp_f_1, .int .i64 p_i] [rdV Kd.u64 vp_f_1 p_f] (fun v L => v = .int .u64 r ∧ L = []) := by
 refine ct_intro Tryd.func41 rfl (by kernel_rfl) (fun F => ?_)
 unfold privityref04_Coefficient at h
 refine wh_seq ?_
 refine wh_region ?_
 refine w_p Tb_ok 1 (by kernel_rfl) ?_
 refine wi_end (by kernel_rfl) ?_
 refine qh_then ?_
 refine wh_seq ?_
 refine wh_seq ?_
 refine wh_region ?_
 refine w_p Tb_ok 3 (by kernel_rfl) ?_
 rcases bcase h with ⟨t1, h1⟩ | ⟨t1, h1⟩
 ·
  refine w_kb (t := 7) t1 (by kernel_rfl) ?_
  refine w_p Tb_ok 5 (by kernel_rfl) ?_
  refine wi_end (by kernel_rfl) ?_
  refine qh_then ?_
  refine h_ct (b := true) rfl (by kernel_rfl) ?_
  refine wh_seq ?_
  refine wh_region ?_
  refine w_p Tb_ok 1 (by kernel_rfl) ?_
  refine wi_end (by kernel_rfl) ?_
  refine qh_then ?_
  refine wh_ret ?_
  refine qh_then_ret ?_
  have h1 := Option.some.inj h1; subst h1
  exact q_end (l := [.int .u64 ((0 : Nat) : Int)]) [] 1 ⟨rfl, rfl⟩ (.inl rfl) (by kernel_rfl) (by kernel_rfl) (by kernel_rfl)
 ·
  refine w_kb (t := 7) t1 (by kernel_rfl) ?_
  refine w_p Tb_ok 2 (by kernel_rfl) ?_
  refine w_len (rd_hd 0 rfl) (by kernel_rfl) ts_30 ?_
  refine w_p Tb_ok 2 (by kernel_rfl) ?_
  refine wi_end (by kernel_rfl) ?_
  refine qh_then ?_
  rcases bcase h1 with ⟨t2, h2⟩ | ⟨t2, h2⟩
  ·
   refine h_ct (b := (decide (p_i ≥ ((p_f.length : Nat) : Int)))) t2 (by kernel_rfl) ?_
   refine wh_seq ?_
   refine wh_region ?_
   refine w_p Tb_ok 1 (by kernel_rfl) ?_
   refine wi_end (by kernel_rfl) ?_
   refine qh_then ?_
   refine wh_ret ?_
   refine qh_then_ret ?_
   have h2 := Option.some.inj h2; subst h2
   exact q_end (l := [.int .u64 ((0 : Nat) : Int)]) [] 1 ⟨rfl, rfl⟩ (.inl rfl) (by kernel_rfl) (by kernel_rfl) (by kernel_rfl)
  ·
   refine h_cf (b := (decide (p_i ≥ ((p_f.length : Nat) : Int)))) t2 (by kernel_rfl) ?_
   refine wh_skip ?_
   refine qh_then ?_
   refine wh_seq ?_
   refine wh_region ?_
   refine w_p Tb_ok 2 (by kernel_rfl) ?_
   obtain ⟨x1, ex1, h3⟩ := bnd h2
   refine w_ix (k := .i64) (rd_hd 0 rfl) (ib ex1) (iz ex1) (by kernel_rfl) ts_30 ti_22 ?_
   refine w_ldR 0 0 rfl (ig ex1) (by kernel_rfl) ti_22 rfl rfl ?_
   rintro _
   refine w_p Tb_ok 1 (by kernel_rfl) ?_
   refine wi_end (by kernel_rfl) ?_
   refine qh_then ?_
   refine wh_ret ?_
   have h3 := Option.some.inj h3; subst h3
   exact q_end (l := [.int .u64 x1]) [] 1 ⟨rfl, rfl⟩ (.inl rfl) (by kernel_rfl) (by kernel_rfl) (by kernel_rfl)
theorem c_privitylaw20_ReconstructRobust {p_z : T_privitylaw20_Poly} {vp_z_1 : Value} {vp_z_2 : Value} {vp_z_3 : Value} {vp_z_4 : Value} {vp_z_5 : Value} {r : Bool} (h : privitylaw20_ReconstructRobust p_z = some r) : Ct Tryd.prog 8 [.agg #[.int .u64 p_z.W.S.P, .int .i64 p_z.W.S.N, .int .i64 p_z.W.S.T, vp_z_1, vp_z_2, vp_z_3, vp_z_4, vp_z_5]] [rdV Kd.i64 vp_z_1 p_z.W.Corrupt, rdV K_api_Deviation vp_z_2 p_z.W.Deviations, rdV (Kd.sl Kd.u64) vp_z_3 p_z.W.Tapes, rdV (Kd.sl Kd.u64) vp_z_4 p_z.F, rdV Kd.u64 vp_z_5 p_z.Other, exF] (fun v L => v = .bool r ∧ L = []) := by
 refine ct_intro Tryd.func8 rfl (by kernel_rfl) (fun F => ?_)
 unfold privitylaw20_ReconstructRobust at h
 refine wh_seq ?_
 refine wh_region ?_
 refine w_box (t := 56) (v := .agg #[.int .u64 p_z.W.S.P, .int .i64 p_z.W.S.N, .int .i64 p_z.W.S.T, vp_z_1, vp_z_2, vp_z_3, vp_z_4, vp_z_5]) (cs := [.int .u64 p_z.W.S.P, .int .i64 p_z.W.S.N, .int .i64 p_z.W.S.T, vp_z_1, vp_z_2, vp_z_3, vp_z_4, vp_z_5]) (cv0 (by kernel_rfl)) (by kernel_rfl) (fun q1 => ?_)
 refine WI.hd (y := blkP q1 56 [.int .u64 p_z.W.S.P, .int .i64 p_z.W.S.N, .int .i64 p_z.W.S.T, vp_z_1, vp_z_2, vp_z_3, vp_z_4, vp_z_5]) (by kernel_rfl) ?_
 refine w_opP 0 rfl (fun b1 hb => ?_)
 subst hb
 refine w_p Tb_ok 1 (by kernel_rfl) ?_
 refine wi_end (by kernel_rfl) ?_
 refine qh_then ?_
 refine wh_seq ?_
 refine wh_seq ?_
 refine wh_region ?_
 refine w_ldB 0 0 rfl (by kernel_rfl) ti_56 rfl rfl ?_
 obtain ⟨r1, er1, h1⟩ := bnd h
 refine w_fn [(1, true), (2, true), (3, true), (4, true), (5, true)] (c_privitylaw20_small er1) rfl fok_35 (by kernel_rfl) ?_
 rintro _ _ ⟨hv, rfl⟩; have hv := hv.symm; subst hv
 refine w_p Tb_ok 1 (by kernel_rfl) ?_
 refine wi_end (by kernel_rfl) ?_
 refine qh_then ?_
 rcases bcase h1 with ⟨t1, h2⟩ | ⟨t1, h2⟩
 ·
  refine h_ct (b := (!r1)) t1 (by kernel_rfl) ?_
  refine wh_seq ?_
  refine wh_region ?_
  obtain ⟨r2, er2, h3⟩ := bnd h2
  refine w_fn [(6, true)] (c_privitylaw20_awake er2) rfl fok_36 (by kernel_rfl) ?_
  rintro _ _ ⟨hv, rfl⟩; have hv := hv.symm; subst hv
  refine w_p Tb_ok 1 (by kernel_rfl) ?_
  refine wi_end (by kernel_rfl) ?_
  refine qh_then ?_
  refine wh_ret ?_
  refine qh_then_ret ?_
  have h3 := Option.some.inj h3; subst h3
  exact q_end (l := [.bool r2]) [] 7 ⟨rfl, rfl⟩ (.inl rfl) (by kernel_rfl) (by kernel_rfl) (by kernel_rfl)
 ·
  refine h_cf (b := (!r1)) t1 (by kernel_rfl) ?_
  refine wh_skip ?_
  refine qh_then ?_
  refine wh_seq ?_
  refine wh_region ?_
  refine w_p Tb_ok 1 (by kernel_rfl) ?_
  refine w_ldB 0 0 rfl (by kernel_rfl) ti_29 rfl rfl ?_
  obtain ⟨r3, er3, h4⟩ := bnd h2
  rcases r3 with r4 | r5
  ·
   have h5 := sumL h4
   refine w_fn [(1, true), (2, true), (3, true), (6, true)] (c_privitylaw20_nets er3) rfl fok_37 (by kernel_rfl) ?_
   rintro _ _ ⟨hv, rfl⟩; have hv := hv.symm; subst hv
   refine w_p Tb_ok 7 (by kernel_rfl) ?_
   refine wi_end (by kernel_rfl) ?_
   refine qh_then ?_
   refine wh_seq ?_
   refine wh_seq ?_
   refine wh_region ?_
   refine w_p Tb_ok 2 (by kernel_rfl) ?_
   refine wi_end (by kernel_rfl) ?_
   refine qh_then ?_
   refine h_ct (b := true) rfl (by kernel_rfl) ?_
   refine wh_seq ?_
   refine wh_region ?_
   refine w_p Tb_ok 1 (by kernel_rfl) ?_
   refine wi_end (by kernel_rfl) ?_
   refine qh_then ?_
   refine wh_ret ?_
   refine qh_then_ret ?_
   have h5 := Option.some.inj h5; subst h5
   exact q_end (l := [.bool false]) [] 7 ⟨rfl, rfl⟩ (.inl rfl) (by kernel_rfl) (by kernel_rfl) (by kernel_rfl)
  ·
   have h6 := sumR h4
   rcases r5 with r6 | r7
   ·
    have h7 := sumL h6
    refine w_fn [(1, true), (2, true), (3, true), (6, true)] (c_privitylaw20_nets er3) rfl fok_37 (by kernel_rfl) ?_
    rintro _ _ ⟨w7, w7__0_1, w7__0_2, w7__0_3, w7__2, w7__3, hv, rfl⟩; have hv := hv.symm; subst hv
    refine w_opP 0 rfl (fun b2 hb => ?_)
    subst hb
    refine w_p Tb_ok 7 (by kernel_rfl) ?_
    refine wi_end (by kernel_rfl) ?_
    refine qh_then ?_
    refine wh_seq ?_
    refine wh_seq ?_
    refine wh_region ?_
    refine w_p Tb_ok 2 (by kernel_rfl) ?_
    refine wi_end (by kernel_rfl) ?_
    refine qh_then ?_
    refine h_ct (b := true) rfl (by kernel_rfl) ?_
    refine wh_seq ?_
    refine wh_region ?_
    refine w_p Tb_ok 1 (by kernel_rfl) ?_
    refine wi_end (by kernel_rfl) ?_
    refine qh_then ?_
    refine wh_ret ?_
    refine qh_then_ret ?_
    have h7 := Option.some.inj h7; subst h7
    exact q_end (l := [.bool false]) [] 13 ⟨rfl, rfl⟩ (.inl rfl) (by kernel_rfl) (by kernel_rfl) (by kernel_rfl)
   ·
    have h8 := sumR h6
    rcases r7 with r8 | r9
    ·
     have h9 := sumL h8
     refine w_fn [(1, true), (2, true), (3, true), (6, true)] (c_privitylaw20_nets er3) rfl fok_37 (by kernel_rfl) ?_
     rintro _ _ ⟨w9, w9__0_1, w9__0_2, w9__0_3, w9__2, w9__3, hv, rfl⟩; have hv := hv.symm; subst hv
     refine w_opP 0 rfl (fun b3 hb => ?_)
     subst hb
     refine w_p Tb_ok 7 (by kernel_rfl) ?_
     refine wi_end (by kernel_rfl) ?_
     refine qh_then ?_
     refine wh_seq ?_
     refine wh_seq ?_
     refine wh_region ?_
     refine w_p Tb_ok 2 (by kernel_rfl) ?_
     refine wi_end (by kernel_rfl) ?_
     refine qh_then ?_
     refine h_ct (b := true) rfl (by kernel_rfl) ?_
     refine wh_seq ?_
     refine wh_region ?_
     refine w_p Tb_ok 1 (by kernel_rfl) ?_
     refine wi_end (by kernel_rfl) ?_
     refine qh_then ?_
     refine wh_ret ?_
     refine qh_then_ret ?_
     have h9 := Option.some.inj h9; subst h9
     exact q_end (l := [.bool false]) [] 13 ⟨rfl, rfl⟩ (.inl rfl) (by kernel_rfl) (by kernel_rfl) (by kernel_rfl)
    ·
     have h10 := sumR h8
     refine w_fn [(1, true), (2, true), (3, true), (6, true)] (c_privitylaw20_nets er3) rfl fok_37 (by kernel_rfl) ?_
     rintro _ _ ⟨w12, w12__0_1, w12__0_2, w12__0_3, w12__2, w12__3, w13, w13__0_1, w13__0_2, w13__0_3, w13__2, w13__3, hv, rfl⟩; have hv := hv.symm; subst hv
     refine w_opP 0 rfl (fun b4 hb => ?_)
     subst hb
     refine w_opP 6 rfl (fun b5 hb => ?_)
     subst hb
     refine w_p Tb_ok 7 (by kernel_rfl) ?_
     refine wi_end (by kernel_rfl) ?_
     refine qh_then ?_
     refine wh_seq ?_
     refine wh_seq ?_
     refine wh_region ?_
     refine w_p Tb_ok 2 (by kernel_rfl) ?_
     refine wi_end (by kernel_rfl) ?_
     refine qh_then ?_
     refine h_cf (b := false) rfl (by kernel_rfl) ?_
     refine wh_skip ?_
     refine qh_then ?_
     refine wh_seq ?_
     refine wh_region ?_
     refine w_p Tb_ok 1 (by kernel_rfl) ?_
     refine w_ldB 12 0 rfl (by kernel_rfl) ti_56 rfl rfl ?_
     obtain ⟨r10, er10, h11⟩ := bnd h10
     refine w_fn [(13, true), (14, true), (15, true), (16, true), (17, true)] (c_privitylaw20_shared er10) rfl fok_39 (by kernel_rfl) ?_
     rintro _ _ ⟨w15, hv, rfl⟩; have hv := hv.symm; subst hv
     refine WI.ent (frzAt 6 rfl) ?_
     refine WI.ent (frzAt 1 rfl) ?_
     obtain ⟨r11, er11, h12⟩ := bnd h11
     refine w_fn [(2, false), (2, true), (3, true), (4, true), (5, false), (1, true), (0, true)] (c_reconstruct_Values er11) rfl fok_38 (by kernel_rfl) ?_
     rintro _ _ ⟨w16, w17, w19, hv, rfl⟩; have hv := hv.symm; subst hv
     refine w_p Tb_ok 5 (by kernel_rfl) ?_
     refine wi_end (by kernel_rfl) ?_
     refine qh_then ?_
     refine wh_seq ?_
     refine wh_seq ?_
     obtain ⟨x1, ej1, h13⟩ := bnd h12
     refine h_join (X := Unit) (fun g => [(1, (.pointer (some ⟨b1, 0, none⟩))), (6, w16), (7, w17), (46, .bool x1)]) (fun g => [blkP (.pointer (some ⟨b1, 0, none⟩)) 56 [.int .u64 p_z.W.S.P, .int .i64 p_z.W.S.N, .int .i64 p_z.W.S.T, vp_z_1, vp_z_2, vp_z_3, vp_z_4, vp_z_5], rdV Kd.i64 vp_z_1 p_z.W.Corrupt, rdV K_api_Deviation vp_z_2 p_z.W.Deviations, rdV (Kd.sl Kd.u64) vp_z_3 p_z.W.Tapes, rdV (Kd.sl Kd.u64) vp_z_4 p_z.F, rdV Kd.u64 vp_z_5 p_z.Other, ownV (Kd.sl Kd.u64) 30 w16 r11.1, ownV (Kd.sl Kd.i64) 25 w17 r11.2.1, exF] ++ F) (fun _ => True) ?_ ?_
     ·
      refine wh_region ?_
      refine w_p Tb_ok 1 (by kernel_rfl) ?_
      refine w_len (own_hd 0 rfl) (by kernel_rfl) ts_27 ?_
      refine w_p Tb_ok 3 (by kernel_rfl) ?_
      refine w_ldB 15 1 rfl (by kernel_rfl) ti_3 rfl rfl ?_
      refine w_p Tb_ok 2 (by kernel_rfl) ?_
      rcases bcase ej1 with ⟨t2, h14⟩ | ⟨t2, h14⟩
      ·
       refine w_kb (t := 38) t2 (by kernel_rfl) ?_
       refine w_p Tb_ok 8 (by kernel_rfl) ?_
       refine wi_end (by kernel_rfl) ?_
       cases h14
       exact q_join () trivial aK (tH [(15, false), (15, true), (16, true), (17, true), (18, true), (19, true), (0, false), (0, false), (18, true)] 19)
      ·
       refine w_kb (t := 38) t2 (by kernel_rfl) ?_
       refine w_p Tb_ok 1 (by kernel_rfl) ?_
       refine w_len (own_hd 1 rfl) (by kernel_rfl) ts_58 ?_
       refine w_p Tb_ok 3 (by kernel_rfl) ?_
       refine w_ldB 15 1 rfl (by kernel_rfl) ti_3 rfl rfl ?_
       refine w_p Tb_ok 2 (by kernel_rfl) ?_
       refine wi_end (by kernel_rfl) ?_
       cases h14
       exact q_join () trivial aK (tH [(15, false), (15, true), (16, true), (17, true), (18, true), (19, true), (0, false), (0, false), (18, true)] 19)
     ·
      rintro ⟨⟩ - j
      refine qh_then ?_
      rcases bcase h13 with ⟨t3, h15⟩ | ⟨t3, h15⟩
      ·
       refine h_ct (b := x1) t3 (by kernel_rfl) ?_
       refine wh_seq ?_
       refine wh_region ?_
       refine w_p Tb_ok 1 (by kernel_rfl) ?_
       refine wi_end (by kernel_rfl) ?_
       refine qh_then ?_
       refine wh_ret ?_
       refine qh_then_ret ?_
       have h15 := Option.some.inj h15; subst h15
       exact q_end (l := [.bool false]) [] 9 ⟨rfl, rfl⟩ (.inl rfl) (by kernel_rfl) (by kernel_rfl) (by kernel_rfl)
      ·
       refine h_cf (b := x1) t3 (by kernel_rfl) ?_
       refine wh_skip ?_
       refine qh_then ?_
       refine wh_seq ?_
       refine wh_seq ?_
       refine wh_region ?_
       refine w_p Tb_ok 1 (by kernel_rfl) ?_
       refine wi_end (by kernel_rfl) ?_
       refine qh_then ?_
       obtain ⟨u1, eu1, h16⟩ := bnd h15
       have hN1 := ckN_some eu1
       obtain ⟨r12, el1, h17⟩ := bnd h16
       refine h_join (X := Unit × Unit) (fun g => []) (fun g => [exF] ++ F) (fun g => r12 = .go g.2) ?_ ?_
       ·
        refine wh_block ?_
        refine h_rg (fun (k1 : Nat) (st : Unit) (g : Unit) => [(1, (.pointer (some ⟨b1, 0, none⟩))), (6, w16), (7, w17), (8, .int .i64 ((k1 : Nat) : Int))]) (fun (k1 : Nat) (st : Unit) (g : Unit) => [blkP (.pointer (some ⟨b1, 0, none⟩)) 56 [.int .u64 p_z.W.S.P, .int .i64 p_z.W.S.N, .int .i64 p_z.W.S.T, vp_z_1, vp_z_2, vp_z_3, vp_z_4, vp_z_5], rdV Kd.i64 vp_z_1 p_z.W.Corrupt, rdV K_api_Deviation vp_z_2 p_z.W.Deviations, rdV (Kd.sl Kd.u64) vp_z_3 p_z.W.Tapes, rdV (Kd.sl Kd.u64) vp_z_4 p_z.F, rdV Kd.u64 vp_z_5 p_z.Other, ownV (Kd.sl Kd.u64) 30 w16 r11.1, ownV (Kd.sl Kd.i64) 25 w17 r11.2.1, exF] ++ F) () el1 (Nat.le_max_left ..) aK (tH [(0, false), (0, true), (1, true), (2, true), (3, true), (4, true), (5, false), (5, false), (5, true)] 6) ?_ ?_
        ·
         rintro ⟨⟩ ⟨⟩ hr1 j
         refine wh_seq ?_
         refine wh_seq ?_
         refine wh_region ?_
         refine w_p Tb_ok 4 (by kernel_rfl) ?_
         refine w_ldB 0 1 rfl (by kernel_rfl) ti_3 rfl rfl ?_
         refine w_p Tb_ok 1 (by kernel_rfl) ?_
         refine wi_end (by kernel_rfl) ?_
         refine qh_then ?_
         refine h_cf (b := (decide ((((max 1 (p_z.W.S.N + 1).toNat) : Nat) : Int) ≤ p_z.W.S.N))) rgEF (by kernel_rfl) ?_
         refine wh_exit ?_
         refine qh_then_exit ?_
         refine q_rzX ?_
         refine qh_block_exit ?_
         exact q_join ((), ()) hr1 aK (tH [(8, true)] 9)
        ·
         rintro rem k1 ⟨⟩ ⟨⟩ o1 hk1 h18 hn1 j
         have h18 : privitylaw20_ReconstructRobust_L0 p_z r11 k1 = some o1 := h18
         unfold privitylaw20_ReconstructRobust_L0 at h18
         refine wh_seq ?_
         refine wh_seq ?_
         refine wh_region ?_
         refine w_p Tb_ok 4 (by kernel_rfl) ?_
         refine w_ldB 0 1 rfl (by kernel_rfl) ti_3 rfl rfl ?_
         refine w_p Tb_ok 1 (by kernel_rfl) ?_
         refine wi_end (by kernel_rfl) ?_
         refine qh_then ?_
         refine h_ct (b := (decide (((k1 : Nat) : Int) ≤ p_z.W.S.N))) (rgET hk1) (by kernel_rfl) ?_
         refine wh_skip ?_
         refine qh_then ?_
         refine wh_seq ?_
         refine wh_block ?_
         refine wh_seq ?_
         refine wh_seq ?_
         refine wh_region ?_
         refine w_p Tb_ok 1 (by kernel_rfl) ?_
         refine w_ldB 0 0 rfl (by kernel_rfl) ti_29 rfl rfl ?_
         refine w_p Tb_ok 1 (by kernel_rfl) ?_
         obtain ⟨r13, er13, h19⟩ := bnd h18
         refine w_fn [(1, true), (2, true), (3, true)] (c_privityref14_Honest er13) rfl fok_40 (by kernel_rfl) ?_
         rintro _ _ ⟨hv, rfl⟩; have hv := hv.symm; subst hv
         refine w_p Tb_ok 1 (by kernel_rfl) ?_
         refine wi_end (by kernel_rfl) ?_
         refine qh_then ?_
         rcases bcase h19 with ⟨t4, h20⟩ | ⟨t4, h20⟩
         ·
          refine h_ct (b := (!r13)) t4 (by kernel_rfl) ?_
          refine wh_exit ?_
          refine qh_then_exit ?_
          refine qh_block_exit ?_
          refine qh_then ?_
          refine wh_region ?_
          refine w_p Tb_ok 1 (by kernel_rfl) ?_
          refine w_bi (zinc hk1 hN1) (by kernel_rfl) ?_
          refine w_p Tb_ok 1 (by kernel_rfl) ?_
          refine wi_end (by kernel_rfl) ?_
          have h20 := Option.some.inj h20; subst h20
          exact q_rgo () hn1 aK (tH [(0, false), (0, true), (1, true), (2, true), (3, true), (4, true), (5, false), (5, false), (5, true)] 6)
         ·
          refine h_cf (b := (!r13)) t4 (by kernel_rfl) ?_
          refine wh_skip ?_
          refine qh_then ?_
          refine wh_seq ?_
          refine wh_seq ?_
          obtain ⟨x2, ex2, h21⟩ := bnd h20
          obtain ⟨x3, ex3, h22⟩ := bnd h21
          refine h_flow [0, 0, 2, 7, 15, 31, 0, 64, 192, 511] ⟨9, [0, 0, 0, 0, 1, 0, 0, 0, 0, 0], [], [(3, [(0, 6)]), (4, [(0, 6)]), (7, [(0, 0)])], [(5, [(5, 0)]), (8, [(0, 4)])]⟩ (fun γ => [w16, .int .i64 ((k1 : Nat) : Int), .int .i64 x2, .pointer (some (elV w16 (x2.toNat * (Kd.sl Kd.u64).size))), (γ 4 0), .int .i64 ((x3.length : Nat) : Int), .pointer (some ⟨b1, 6, none⟩), vp_z_4, .int .i64 ((p_z.F.length : Nat) : Int), .bool (((x3.length : Nat) : Int) != ((p_z.F.length : Nat) : Int))]) (fun i γ => match i with | 4 => [rdV Kd.u64 (γ 4 0) x3] | _ => []) (fun γ => [blkP (.pointer (some ⟨b1, 0, none⟩)) 56 [.int .u64 p_z.W.S.P, .int .i64 p_z.W.S.N, .int .i64 p_z.W.S.T, vp_z_1, vp_z_2, vp_z_3, vp_z_4, vp_z_5], rdV Kd.i64 vp_z_1 p_z.W.Corrupt, rdV K_api_Deviation vp_z_2 p_z.W.Deviations, rdV (Kd.sl Kd.u64) vp_z_3 p_z.W.Tapes, rdV (Kd.sl Kd.u64) vp_z_4 p_z.F, rdV Kd.u64 vp_z_5 p_z.Other, ownV (Kd.sl Kd.u64) 30 w16 r11.1, ownV (Kd.sl Kd.i64) 25 w17 r11.2.1, exF, rdV Kd.u64 (γ 4 0) x3] ++ F) [0, 1, 6, 9] tryd_mix Tb_ok (by kernel_rfl) (by kernel_rfl) (fun _ => by kernel_rfl) (fun _ => by kernel_rfl) (fun _ => by kernel_rfl) (fun _ => by kernel_rfl) (fun _ => by kernel_rfl) (fun _ => by kernel_rfl) (fun _ => by kernel_rfl) ?_ ?_
          ·
           refine ⟨?_, ?_, ?_, ?_, ?_, ?_, trivial⟩
           ·
            intro γ F
            refine WI.reH (H' := [] ++ F) (by kernel_rfl) ?_
            refine w_bi (zsubI ex2) (by kernel_rfl) ?_
            exact wE (gl []) [] 0
           ·
            intro γ F
            refine WI.reH (H' := [ownV (Kd.sl Kd.u64) 30 w16 r11.1] ++ F) (by kernel_rfl) ?_
            refine w_ix (k := .i64) (own_hd 0 rfl) (ib ex3) (iz ex3) (by kernel_rfl) ts_27 ti_30 ?_
            exact wE (gl []) [(0, false)] 0
           ·
            intro γ F
            refine WI.reH (H' := [ownV (Kd.sl Kd.u64) 30 w16 r11.1] ++ F) (by kernel_rfl) ?_
            refine w_ldO 0 0 rfl (ig ex3) (by kernel_rfl) ti_30 rfl rfl ?_
            rintro v1
            exact wE (gl [v1]) [(0, true), (1, false)] 1
           ·
            intro γ F
            refine WI.reH (H' := [rdV Kd.u64 (γ 4 0) x3] ++ F) (by kernel_rfl) ?_
            refine w_len (rd_hd 0 rfl) (by kernel_rfl) ts_30 ?_
            exact wE (gl []) [] 1
           ·
            intro γ F
            refine WI.reH (H' := [blkP (.pointer (some ⟨b1, 0, none⟩)) 56 [.int .u64 p_z.W.S.P, .int .i64 p_z.W.S.N, .int .i64 p_z.W.S.T, vp_z_1, vp_z_2, vp_z_3, vp_z_4, vp_z_5]] ++ F) (by kernel_rfl) ?_
            refine w_ldB 0 6 rfl (by kernel_rfl) ti_27 rfl rfl ?_
            exact wE (gl []) [(0, false)] 0
           ·
            intro γ F
            refine WI.reH (H' := [rdV (Kd.sl Kd.u64) vp_z_4 p_z.F] ++ F) (by kernel_rfl) ?_
            refine w_len (rd_hd 0 rfl) (by kernel_rfl) ts_27 ?_
            exact wE (gl []) [] 1
          ·
           intro γ1
           refine qh_then ?_
           rcases bcase h22 with ⟨t5, h23⟩ | ⟨t5, h23⟩
           ·
            refine h_ct (b := (((x3.length : Nat) : Int) != ((p_z.F.length : Nat) : Int))) t5 (by kernel_rfl) ?_
            refine wh_seq ?_
            refine wh_region ?_
            refine w_p Tb_ok 1 (by kernel_rfl) ?_
            refine wi_end (by kernel_rfl) ?_
            refine qh_then ?_
            refine wh_ret ?_
            refine qh_then_ret ?_
            refine qh_block_ret ?_
            refine qh_then_ret ?_
            refine q_rgR ?_
            refine qh_block_ret ?_
            refine q_joinR ?_
            refine qh_then_ret ?_
            have h23 := Option.some.inj h23; subst h23
            have hn := (show _ = _ from hn1); subst hn
            have h17 := Option.some.inj (show some _ = some _ from h17); subst h17
            exact q_end (l := [.bool false]) [] 10 ⟨rfl, rfl⟩ (.inl rfl) (by kernel_rfl) (by kernel_rfl) (by kernel_rfl)
           ·
            refine h_cf (b := (((x3.length : Nat) : Int) != ((p_z.F.length : Nat) : Int))) t5 (by kernel_rfl) ?_
            refine wh_skip ?_
            refine qh_then ?_
            refine wh_seq ?_
            refine wh_seq ?_
            refine wh_region ?_
            refine w_p Tb_ok 1 (by kernel_rfl) ?_
            refine wi_end (by kernel_rfl) ?_
            refine qh_then ?_
            refine h_lenle (rd_lenle 4 rfl) (fun hN2 => ?_)
            obtain ⟨r14, el2, h24⟩ := bnd h23
            refine h_join (X := Unit × Unit) (fun g => [(1, (.pointer (some ⟨b1, 0, none⟩))), (6, w16), (7, w17), (8, .int .i64 ((k1 : Nat) : Int))]) (fun g => [blkP (.pointer (some ⟨b1, 0, none⟩)) 56 [.int .u64 p_z.W.S.P, .int .i64 p_z.W.S.N, .int .i64 p_z.W.S.T, vp_z_1, vp_z_2, vp_z_3, vp_z_4, vp_z_5], rdV Kd.i64 vp_z_1 p_z.W.Corrupt, rdV K_api_Deviation vp_z_2 p_z.W.Deviations, rdV (Kd.sl Kd.u64) vp_z_3 p_z.W.Tapes, rdV (Kd.sl Kd.u64) vp_z_4 p_z.F, rdV Kd.u64 vp_z_5 p_z.Other, ownV (Kd.sl Kd.u64) 30 w16 r11.1, ownV (Kd.sl Kd.i64) 25 w17 r11.2.1, exF] ++ F) (fun g => r14 = .go g.2) ?_ ?_
            ·
             refine wh_block ?_
             refine h_rg (fun (k2 : Nat) (st : Unit) (g : Unit) => [(1, (.pointer (some ⟨b1, 0, none⟩))), (6, w16), (7, w17), (8, .int .i64 ((k1 : Nat) : Int)), (9, .int .i64 ((k2 : Nat) : Int))]) (fun (k2 : Nat) (st : Unit) (g : Unit) => [blkP (.pointer (some ⟨b1, 0, none⟩)) 56 [.int .u64 p_z.W.S.P, .int .i64 p_z.W.S.N, .int .i64 p_z.W.S.T, vp_z_1, vp_z_2, vp_z_3, vp_z_4, vp_z_5], rdV Kd.i64 vp_z_1 p_z.W.Corrupt, rdV K_api_Deviation vp_z_2 p_z.W.Deviations, rdV (Kd.sl Kd.u64) vp_z_3 p_z.W.Tapes, rdV (Kd.sl Kd.u64) vp_z_4 p_z.F, rdV Kd.u64 vp_z_5 p_z.Other, ownV (Kd.sl Kd.u64) 30 w16 r11.1, ownV (Kd.sl Kd.i64) 25 w17 r11.2.1, exF] ++ F) () el2 (Nat.zero_le _) aK (tH [(0, false), (0, true), (1, true), (2, true), (3, true), (4, true), (5, false), (5, false), (5, true)] 7) ?_ ?_
             ·
              rintro ⟨⟩ ⟨⟩ hr2 j
              refine wh_seq ?_
              refine wh_seq ?_
              refine wh_region ?_
              refine w_p Tb_ok 2 (by kernel_rfl) ?_
              refine w_ldB 0 6 rfl (by kernel_rfl) ti_27 rfl rfl ?_
              refine w_len (rd_hd 4 rfl) (by kernel_rfl) ts_27 ?_
              refine w_p Tb_ok 1 (by kernel_rfl) ?_
              refine wi_end (by kernel_rfl) ?_
              refine qh_then ?_
              refine h_cf (b := (decide ((((p_z.F.length) : Nat) : Int) < ((p_z.F.length : Nat) : Int)))) rgF (by kernel_rfl) ?_
              refine wh_exit ?_
              refine qh_then_exit ?_
              refine q_rzX ?_
              refine qh_block_exit ?_
              exact q_join ((), ()) hr2 aK (tH [(0, false), (0, true), (1, true), (2, true), (3, true), (4, true), (5, false), (5, false), (5, true)] 6)
             ·
              rintro rem k2 ⟨⟩ ⟨⟩ o2 hk2 h25 hn2 j
              have h25 : privitylaw20_ReconstructRobust_L1 p_z x3 k2 = some o2 := h25
              unfold privitylaw20_ReconstructRobust_L1 at h25
              refine wh_seq ?_
              refine wh_seq ?_
              refine wh_region ?_
              refine w_p Tb_ok 2 (by kernel_rfl) ?_
              refine w_ldB 0 6 rfl (by kernel_rfl) ti_27 rfl rfl ?_
              refine w_len (rd_hd 4 rfl) (by kernel_rfl) ts_27 ?_
              refine w_p Tb_ok 1 (by kernel_rfl) ?_
              refine wi_end (by kernel_rfl) ?_
              refine qh_then ?_
              refine h_ct (b := (decide (((k2 : Nat) : Int) < ((p_z.F.length : Nat) : Int)))) (rgT hk2) (by kernel_rfl) ?_
              refine wh_skip ?_
              refine qh_then ?_
              refine wh_seq ?_
              refine wh_block ?_
              refine wh_seq ?_
              obtain ⟨x4, ex4, h26⟩ := bnd h25
              obtain ⟨x5, ex5, h27⟩ := bnd h26
              obtain ⟨x6, ex6, h28⟩ := bnd h27
              obtain ⟨r15, er15, h29⟩ := bnd h28
              obtain ⟨r16, er16, h30⟩ := bnd h29
              refine h_flow [0, 0, 2, 7, 15, 0, 63, 127, 0, 256, 768, 1792, 0, 4096, 0, 28672, 61440, 0, 131072, 393216, 917504, 1966080, 4194048, 8388352, 16777215] ⟨9, [0, 0, 0, 0, 1, 0, 0, 0, 0, 0, 0, 0, 0, 0, 0, 0, 1, 0, 0, 0, 0, 0, 1, 0, 0], [], [(3, [(0, 6)]), (4, [(0, 6)]), (11, [(0, 0)]), (13, [(0, 0)]), (20, [(0, 0)])], [(6, [(5, 0)]), (7, [(5, 0)]), (15, [(0, 4)]), (16, [(0, 4)]), (22, [(17, 0)]), (23, [(23, 0)])]⟩ (fun γ => [w16, .int .i64 ((k1 : Nat) : Int), .int .i64 x2, .pointer (some (elV w16 (x2.toNat * (Kd.sl Kd.u64).size))), (γ 4 0), .int .i64 ((k2 : Nat) : Int), .pointer (some (elV (γ 4 0) (k2 * Kd.u64.size))), .int .u64 x4, .pointer (some ⟨b1, 0, none⟩), .pointer (some ⟨b1, 0, none⟩), .pointer (some ⟨b1, 0, none⟩), .int .u64 p_z.W.S.P, .pointer (some ⟨b1, 6, none⟩), vp_z_4, .int .i64 ((k2 : Nat) : Int), .pointer (some (elV vp_z_4 (k2 * (Kd.sl Kd.u64).size))), (γ 16 0), .pointer (some ⟨b1, 0, none⟩), .pointer (some ⟨b1, 0, none⟩), .pointer (some ⟨b1, 2, none⟩), .int .i64 p_z.W.S.T, .int .i64 x6, (γ 22 0), .int .u64 r16, .bool (((x4 : Nat) : Int) != ((r16 : Nat) : Int))]) (fun i γ => match i with | 4 => [rdV Kd.u64 (γ 4 0) x3] | 16 => [rdV Kd.u64 (γ 16 0) x5] | 22 => [rdV Kd.u64 (γ 22 0) r15] | _ => []) (fun γ => [blkP (.pointer (some ⟨b1, 0, none⟩)) 56 [.int .u64 p_z.W.S.P, .int .i64 p_z.W.S.N, .int .i64 p_z.W.S.T, vp_z_1, vp_z_2, vp_z_3, vp_z_4, vp_z_5], rdV Kd.i64 vp_z_1 p_z.W.Corrupt, rdV K_api_Deviation vp_z_2 p_z.W.Deviations, rdV (Kd.sl Kd.u64) vp_z_3 p_z.W.Tapes, rdV (Kd.sl Kd.u64) vp_z_4 p_z.F, rdV Kd.u64 vp_z_5 p_z.Other, ownV (Kd.sl Kd.u64) 30 w16 r11.1, ownV (Kd.sl Kd.i64) 25 w17 r11.2.1, exF, rdV Kd.u64 (γ 4 0) x3, rdV Kd.u64 (γ 16 0) x5, rdV Kd.u64 (γ 22 0) r15] ++ F) [0, 1, 5, 8, 9, 10, 12, 14, 17, 18, 19, 24] tryd_mix Tb_ok (by kernel_rfl) (by kernel_rfl) (fun _ => by kernel_rfl) (fun _ => by kernel_rfl) (fun _ => by kernel_rfl) (fun _ => by kernel_rfl) (fun _ => by kernel_rfl) (fun _ => by kernel_rfl) (fun _ => by kernel_rfl) ?_ ?_
              ·
               refine ⟨?_, ?_, ?_, ?_, ?_, ?_, ?_, ?_, ?_, ?_, ?_, ?_, ?_, trivial⟩
               ·
                intro γ F
                refine WI.reH (H' := [] ++ F) (by kernel_rfl) ?_
                refine w_bi (zsubI ex2) (by kernel_rfl) ?_
                exact wE (gl []) [] 0
               ·
                intro γ F
                refine WI.reH (H' := [ownV (Kd.sl Kd.u64) 30 w16 r11.1] ++ F) (by kernel_rfl) ?_
                refine w_ix (k := .i64) (own_hd 0 rfl) (ib ex3) (iz ex3) (by kernel_rfl) ts_27 ti_30 ?_
                exact wE (gl []) [(0, false)] 0
               ·
                intro γ F
                refine WI.reH (H' := [ownV (Kd.sl Kd.u64) 30 w16 r11.1] ++ F) (by kernel_rfl) ?_
                refine w_ldO 0 0 rfl (ig ex3) (by kernel_rfl) ti_30 rfl rfl ?_
                rintro v2
                exact wE (gl [v2]) [(0, true), (1, false)] 1
               ·
                intro γ F
                refine WI.reH (H' := [rdV Kd.u64 (γ 4 0) x3] ++ F) (by kernel_rfl) ?_
                refine w_ix (k := .i64) (rd_hd 0 rfl) (nbd ex4) rfl (by kernel_rfl) ts_30 ti_22 ?_
                exact wE (gl []) [] 1
               ·
                intro γ F
                refine WI.reH (H' := [rdV Kd.u64 (γ 4 0) x3] ++ F) (by kernel_rfl) ?_
                refine w_ldR 0 0 rfl ex4 (by kernel_rfl) ti_22 rfl rfl ?_
                rintro _
                exact wE (gl []) [] 1
               ·
                intro γ F
                refine WI.reH (H' := [blkP (.pointer (some ⟨b1, 0, none⟩)) 56 [.int .u64 p_z.W.S.P, .int .i64 p_z.W.S.N, .int .i64 p_z.W.S.T, vp_z_1, vp_z_2, vp_z_3, vp_z_4, vp_z_5]] ++ F) (by kernel_rfl) ?_
                refine w_ldB 0 0 rfl (by kernel_rfl) ti_22 rfl rfl ?_
                exact wE (gl []) [(0, false)] 0
               ·
                intro γ F
                refine WI.reH (H' := [blkP (.pointer (some ⟨b1, 0, none⟩)) 56 [.int .u64 p_z.W.S.P, .int .i64 p_z.W.S.N, .int .i64 p_z.W.S.T, vp_z_1, vp_z_2, vp_z_3, vp_z_4, vp_z_5]] ++ F) (by kernel_rfl) ?_
                refine w_ldB 0 6 rfl (by kernel_rfl) ti_27 rfl rfl ?_
                exact wE (gl []) [(0, false)] 0
               ·
                intro γ F
                refine WI.reH (H' := [rdV (Kd.sl Kd.u64) vp_z_4 p_z.F] ++ F) (by kernel_rfl) ?_
                refine w_ix (k := .i64) (rd_hd 0 rfl) (nbd ex5) rfl (by kernel_rfl) ts_27 ti_30 ?_
                exact wE (gl []) [] 1
               ·
                intro γ F
                refine WI.reH (H' := [rdV (Kd.sl Kd.u64) vp_z_4 p_z.F] ++ F) (by kernel_rfl) ?_
                refine w_ldR 0 0 rfl ex5 (by kernel_rfl) ti_30 rfl rfl ?_
                rintro v3
                exact wE (gl [v3]) [(0, true)] 2
               ·
                intro γ F
                refine WI.reH (H' := [blkP (.pointer (some ⟨b1, 0, none⟩)) 56 [.int .u64 p_z.W.S.P, .int .i64 p_z.W.S.N, .int .i64 p_z.W.S.T, vp_z_1, vp_z_2, vp_z_3, vp_z_4, vp_z_5]] ++ F) (by kernel_rfl) ?_
                refine w_ldB 0 2 rfl (by kernel_rfl) ti_3 rfl rfl ?_
                exact wE (gl []) [(0, false)] 0
               ·
                intro γ F
                refine WI.reH (H' := [] ++ F) (by kernel_rfl) ?_
                refine w_bi (zaddI ex6) (by kernel_rfl) ?_
                exact wE (gl []) [] 0
               ·
                intro γ F
                refine WI.reH (H' := [rdV Kd.u64 (γ 16 0) x5] ++ F) (by kernel_rfl) ?_
                refine w_fn [(0, true)] (c_privityref04_Words er15) rfl fok_42 (by kernel_rfl) ?_
                rintro _ _ ⟨w21, hv, rfl⟩; have hv := hv.symm; subst hv
                refine WI.ent (frzAt 0 rfl) ?_
                exact wE (gl [w21]) [(0, true)] 2
               ·
                intro γ F
                refine WI.reH (H' := [rdV Kd.u64 (γ 22 0) r15] ++ F) (by kernel_rfl) ?_
                refine w_fn [(0, true)] (c_privityref04_Coefficient er16) rfl fok_41 (by kernel_rfl) ?_
                rintro _ _ ⟨hv, rfl⟩; have hv := hv.symm; subst hv
                exact wE (gl []) [] 1
              ·
               intro γ2
               refine qh_then ?_
               rcases bcase h30 with ⟨t6, h31⟩ | ⟨t6, h31⟩
               ·
                refine h_ct (b := (((x4 : Nat) : Int) != ((r16 : Nat) : Int))) t6 (by kernel_rfl) ?_
                refine wh_seq ?_
                refine wh_region ?_
                refine w_p Tb_ok 1 (by kernel_rfl) ?_
                refine wi_end (by kernel_rfl) ?_
                refine qh_then ?_
                refine wh_ret ?_
                refine qh_block_ret ?_
                refine qh_then_ret ?_
                refine q_rgR ?_
                refine qh_block_ret ?_
                refine q_joinR ?_
                refine qh_then_ret ?_
                refine qh_block_ret ?_
                refine qh_then_ret ?_
                refine q_rgR ?_
                refine qh_block_ret ?_
                refine q_joinR ?_
                refine qh_then_ret ?_
                have h31 := Option.some.inj h31; subst h31
                have hn := (show _ = _ from hn2); subst hn
                have h24 := Option.some.inj (show some _ = some _ from h24); subst h24
                have hn := (show _ = _ from hn1); subst hn
                have h17 := Option.some.inj (show some _ = some _ from h17); subst h17
                exact q_end (l := [.bool false]) [] 12 ⟨rfl, rfl⟩ (.inl rfl) (by kernel_rfl) (by kernel_rfl) (by kernel_rfl)
               ·
                refine h_cf (b := (((x4 : Nat) : Int) != ((r16 : Nat) : Int))) t6 (by kernel_rfl) ?_
                refine wh_skip ?_
                refine qh_block_normal ?_
                refine qh_then ?_
                refine wh_region ?_
                refine w_p Tb_ok 1 (by kernel_rfl) ?_
                refine w_bi (zinc hk2 hN2) (by kernel_rfl) ?_
                refine w_p Tb_ok 1 (by kernel_rfl) ?_
                refine wi_end (by kernel_rfl) ?_
                have h31 := Option.some.inj h31; subst h31
                exact q_rgo () hn2 aK (tH [(0, false), (0, true), (1, true), (2, true), (3, true), (4, true), (5, false), (5, false), (5, true)] 9)
            ·
             rintro ⟨⟨⟩, ⟨⟩⟩ hc j
             subst hc
             refine qh_then ?_
             refine wh_seq ?_
             refine wh_region ?_
             refine w_p Tb_ok 1 (by kernel_rfl) ?_
             refine wi_end (by kernel_rfl) ?_
             refine qh_then ?_
             obtain ⟨r17, el3, h32⟩ := bnd h24
             refine h_join (X := Unit × Unit) (fun g => [(1, (.pointer (some ⟨b1, 0, none⟩))), (6, w16), (7, w17), (8, .int .i64 ((k1 : Nat) : Int))]) (fun g => [blkP (.pointer (some ⟨b1, 0, none⟩)) 56 [.int .u64 p_z.W.S.P, .int .i64 p_z.W.S.N, .int .i64 p_z.W.S.T, vp_z_1, vp_z_2, vp_z_3, vp_z_4, vp_z_5], rdV Kd.i64 vp_z_1 p_z.W.Corrupt, rdV K_api_Deviation vp_z_2 p_z.W.Deviations, rdV (Kd.sl Kd.u64) vp_z_3 p_z.W.Tapes, rdV (Kd.sl Kd.u64) vp_z_4 p_z.F, rdV Kd.u64 vp_z_5 p_z.Other, ownV (Kd.sl Kd.u64) 30 w16 r11.1, ownV (Kd.sl Kd.i64) 25 w17 r11.2.1, exF] ++ F) (fun g => r17 = .inr g.2) ?_ ?_
             ·
              refine wh_block ?_
              refine h_lp (fun (st : Int) (g : Unit) => [(1, (.pointer (some ⟨b1, 0, none⟩))), (6, w16), (7, w17), (8, .int .i64 ((k1 : Nat) : Int)), (10, .int .i64 st)]) (fun (st : Int) (g : Unit) => [blkP (.pointer (some ⟨b1, 0, none⟩)) 56 [.int .u64 p_z.W.S.P, .int .i64 p_z.W.S.N, .int .i64 p_z.W.S.T, vp_z_1, vp_z_2, vp_z_3, vp_z_4, vp_z_5], rdV Kd.i64 vp_z_1 p_z.W.Corrupt, rdV K_api_Deviation vp_z_2 p_z.W.Deviations, rdV (Kd.sl Kd.u64) vp_z_3 p_z.W.Tapes, rdV (Kd.sl Kd.u64) vp_z_4 p_z.F, rdV Kd.u64 vp_z_5 p_z.Other, ownV (Kd.sl Kd.u64) 30 w16 r11.1, ownV (Kd.sl Kd.i64) 25 w17 r11.2.1, exF] ++ F) () el3 aK (tH [(0, false), (0, true), (1, true), (2, true), (3, true), (4, true), (5, false), (5, false), (5, true)] 6) ?_
              rintro kk x7 ⟨⟩ o3 h33 hn3 j
              have h33 : privitylaw20_ReconstructRobust_L2 p_z r11 x2 x7 = some o3 := h33
              unfold privitylaw20_ReconstructRobust_L2 at h33
              refine wh_seq ?_
              refine wh_seq ?_
              refine wh_region ?_
              refine w_p Tb_ok 3 (by kernel_rfl) ?_
              refine w_bi (zsubI ex2) (by kernel_rfl) ?_
              obtain ⟨x8, ex8, h34⟩ := bnd h33
              refine w_ix (k := .i64) (own_hd 7 rfl) (ib ex8) (iz ex8) (by kernel_rfl) ts_58 ti_25 ?_
              refine w_ldO 7 0 rfl (ig ex8) (by kernel_rfl) ti_25 rfl rfl ?_
              rintro v4
              refine w_len (rd_hd 0 rfl) (by kernel_rfl) ts_25 ?_
              refine w_p Tb_ok 1 (by kernel_rfl) ?_
              refine wi_end (by kernel_rfl) ?_
              refine qh_then ?_
              rcases bcase h34 with ⟨t7, h35⟩ | ⟨t7, h35⟩
              ·
               refine h_ct (b := (decide (x7 < ((x8.length : Nat) : Int)))) t7 (by kernel_rfl) ?_
               refine wh_skip ?_
               refine qh_then ?_
               refine wh_seq ?_
               refine wh_block ?_
               refine wh_seq ?_
               obtain ⟨x9, ex9, h36⟩ := bnd h35
               obtain ⟨r18, er18, h37⟩ := bnd h36
               refine h_flow [0, 1, 0, 0, 8, 28, 60, 0, 252, 508, 1023] ⟨10, [0, 0, 0, 0, 0, 0, 1, 0, 0, 0, 0], [], [(1, [(0, 1)]), (5, [(0, 8)]), (6, [(0, 8)])], [(8, [(7, 0)]), (9, [(7, 0)]), (10, [(0, 2), (0, 3), (0, 4)])]⟩ (fun γ => [.pointer (some ⟨b1, 0, none⟩), .agg #[.int .u64 p_z.W.S.P, .int .i64 p_z.W.S.N, .int .i64 p_z.W.S.T, vp_z_1, vp_z_2, vp_z_3], w17, .int .i64 ((k1 : Nat) : Int), .int .i64 x2, .pointer (some (elV w17 (x2.toNat * (Kd.sl Kd.i64).size))), (γ 6 0), .int .i64 x7, .pointer (some (elV (γ 6 0) (x7.toNat * Kd.i64.size))), .int .i64 x9, .bool r18]) (fun i γ => match i with | 6 => [rdV Kd.i64 (γ 6 0) x8] | _ => []) (fun γ => [rdV Kd.i64 v4 x8, blkP (.pointer (some ⟨b1, 0, none⟩)) 56 [.int .u64 p_z.W.S.P, .int .i64 p_z.W.S.N, .int .i64 p_z.W.S.T, vp_z_1, vp_z_2, vp_z_3, vp_z_4, vp_z_5], rdV Kd.i64 vp_z_1 p_z.W.Corrupt, rdV K_api_Deviation vp_z_2 p_z.W.Deviations, rdV (Kd.sl Kd.u64) vp_z_3 p_z.W.Tapes, rdV (Kd.sl Kd.u64) vp_z_4 p_z.F, rdV Kd.u64 vp_z_5 p_z.Other, ownV (Kd.sl Kd.u64) 30 w16 r11.1, ownV (Kd.sl Kd.i64) 25 w17 r11.2.1, exF, rdV Kd.i64 (γ 6 0) x8] ++ F) [0, 2, 3, 7] tryd_mix Tb_ok (by kernel_rfl) (by kernel_rfl) (fun _ => by kernel_rfl) (fun _ => by kernel_rfl) (fun _ => by kernel_rfl) (fun _ => by kernel_rfl) (fun _ => by kernel_rfl) (fun _ => by kernel_rfl) (fun _ => by kernel_rfl) ?_ ?_
               ·
                refine ⟨?_, ?_, ?_, ?_, ?_, ?_, ?_, trivial⟩
                ·
                 intro γ F
                 refine WI.reH (H' := [blkP (.pointer (some ⟨b1, 0, none⟩)) 56 [.int .u64 p_z.W.S.P, .int .i64 p_z.W.S.N, .int .i64 p_z.W.S.T, vp_z_1, vp_z_2, vp_z_3, vp_z_4, vp_z_5]] ++ F) (by kernel_rfl) ?_
                 refine w_ldB 0 0 rfl (by kernel_rfl) ti_29 rfl rfl ?_
                 exact wE (gl []) [(0, false)] 0
                ·
                 intro γ F
                 refine WI.reH (H' := [] ++ F) (by kernel_rfl) ?_
                 refine w_bi (zsubI ex2) (by kernel_rfl) ?_
                 exact wE (gl []) [] 0
                ·
                 intro γ F
                 refine WI.reH (H' := [ownV (Kd.sl Kd.i64) 25 w17 r11.2.1] ++ F) (by kernel_rfl) ?_
                 refine w_ix (k := .i64) (own_hd 0 rfl) (ib ex8) (iz ex8) (by kernel_rfl) ts_58 ti_25 ?_
                 exact wE (gl []) [(0, false)] 0
                ·
                 intro γ F
                 refine WI.reH (H' := [ownV (Kd.sl Kd.i64) 25 w17 r11.2.1] ++ F) (by kernel_rfl) ?_
                 refine w_ldO 0 0 rfl (ig ex8) (by kernel_rfl) ti_25 rfl rfl ?_
                 rintro v5
                 exact wE (gl [v5]) [(0, true), (1, false)] 1
                ·
                 intro γ F
                 refine WI.reH (H' := [rdV Kd.i64 (γ 6 0) x8] ++ F) (by kernel_rfl) ?_
                 refine w_ix (k := .i64) (rd_hd 0 rfl) (ib ex9) (iz ex9) (by kernel_rfl) ts_25 ti_3 ?_
                 exact wE (gl []) [] 1
                ·
                 intro γ F
                 refine WI.reH (H' := [rdV Kd.i64 (γ 6 0) x8] ++ F) (by kernel_rfl) ?_
                 refine w_ldR 0 0 rfl (ig ex9) (by kernel_rfl) ti_3 rfl rfl ?_
                 rintro _
                 exact wE (gl []) [] 1
                ·
                 intro γ F
                 refine WI.reH (H' := [rdV Kd.i64 vp_z_1 p_z.W.Corrupt, rdV K_api_Deviation vp_z_2 p_z.W.Deviations, rdV (Kd.sl Kd.u64) vp_z_3 p_z.W.Tapes] ++ F) (by kernel_rfl) ?_
                 refine w_fn [(0, true), (1, true), (2, true)] (c_privityref14_Honest er18) rfl fok_40 (by kernel_rfl) ?_
                 rintro _ _ ⟨hv, rfl⟩; have hv := hv.symm; subst hv
                 exact wE (gl []) [] 3
               ·
                intro γ3
                refine qh_then ?_
                rcases bcase h37 with ⟨t8, h38⟩ | ⟨t8, h38⟩
                ·
                 refine h_ct (b := r18) t8 (by kernel_rfl) ?_
                 refine wh_seq ?_
                 refine wh_region ?_
                 refine w_p Tb_ok 1 (by kernel_rfl) ?_
                 refine wi_end (by kernel_rfl) ?_
                 refine qh_then ?_
                 refine wh_ret ?_
                 refine qh_block_ret ?_
                 refine qh_then_ret ?_
                 refine q_lpR ?_
                 refine qh_block_ret ?_
                 refine q_joinR ?_
                 refine qh_block_ret ?_
                 refine qh_then_ret ?_
                 refine q_rgR ?_
                 refine qh_block_ret ?_
                 refine q_joinR ?_
                 refine qh_then_ret ?_
                 have h38 := Option.some.inj h38; subst h38
                 have hn := (show _ = _ from hn3); subst hn
                 have h32 := Option.some.inj (show some _ = some _ from h32); subst h32
                 have hn := (show _ = _ from hn1); subst hn
                 have h17 := Option.some.inj (show some _ = some _ from h17); subst h17
                 exact q_end (l := [.bool false]) [] 11 ⟨rfl, rfl⟩ (.inl rfl) (by kernel_rfl) (by kernel_rfl) (by kernel_rfl)
                ·
                 refine h_cf (b := r18) t8 (by kernel_rfl) ?_
                 refine wh_skip ?_
                 refine qh_block_normal ?_
                 refine qh_then ?_
                 refine wh_region ?_
                 refine w_p Tb_ok 1 (by kernel_rfl) ?_
                 obtain ⟨x10, ex10, h39⟩ := bnd h38
                 refine w_bi (zaddI ex10) (by kernel_rfl) ?_
                 refine w_p Tb_ok 1 (by kernel_rfl) ?_
                 refine wi_end (by kernel_rfl) ?_
                 have h39 := Option.some.inj h39; subst h39
                 exact q_go () hn3 aK (tH [(1, false), (1, true), (2, true), (3, true), (4, true), (5, true), (6, false), (6, false), (6, true)] 8)
              ·
               refine h_cf (b := (decide (x7 < ((x8.length : Nat) : Int)))) t7 (by kernel_rfl) ?_
               refine wh_exit ?_
               refine qh_then_exit ?_
               refine q_lpX ?_
               refine qh_block_exit ?_
               have h35 := Option.some.inj h35; subst h35
               exact q_join ((), ()) (Eq.symm hn3) aK (tH [(1, false), (1, true), (2, true), (3, true), (4, true), (5, true), (6, false), (6, false), (6, true)] 7)
             ·
              rintro ⟨⟨⟩, ⟨⟩⟩ hc j
              subst hc
              refine qh_block_normal ?_
              refine qh_then ?_
              refine wh_region ?_
              refine w_p Tb_ok 1 (by kernel_rfl) ?_
              refine w_bi (zinc hk1 hN1) (by kernel_rfl) ?_
              refine w_p Tb_ok 1 (by kernel_rfl) ?_
              refine wi_end (by kernel_rfl) ?_
              have h32 := Option.some.inj h32; subst h32
              exact q_rgo () hn1 aK (tH [(0, false), (0, true), (1, true), (2, true), (3, true), (4, true), (5, false), (5, false), (5, true)] 6)
       ·
        rintro ⟨⟨⟩, ⟨⟩⟩ hc j
        subst hc
        refine qh_then ?_
        refine wh_seq ?_
        refine wh_region ?_
        obtain ⟨r19, er19, h40⟩ := bnd h17
        refine w_fn [(0, true)] (c_privitylaw20_awake er19) rfl fok_36 (by kernel_rfl) ?_
        rintro _ _ ⟨hv, rfl⟩; have hv := hv.symm; subst hv
        refine w_p Tb_ok 1 (by kernel_rfl) ?_
        refine wi_end (by kernel_rfl) ?_
        refine qh_then ?_
        refine wh_ret ?_
        have h40 := Option.some.inj h40; subst h40
        exact q_end (l := [.bool r19]) [] 1 ⟨rfl, rfl⟩ (.inl rfl) (by kernel_rfl) (by kernel_rfl) (by kernel_rfl)
end Go.Proofs.YtclhpomlfadohaaDoor
