/- Contracts of Go functions, one theorem each: the call returns just what the plain function says. Printed by a program of this claim. -/
import Derived.Test.YtclhpomlfadohaaDoorKAc1
set_option linter.unusedVariables false
namespace Go.Proofs.YtclhpomlfadohaaDoor
open Go Gv Gw Pu
set_option maxHeartbeats 4000000
theorem c_triplestore_Verify {p_n : T_network_Net} {p_a : T_api_Triple} {p_b : T_api_Triple} {p_r : List (List Nat)} {bp_n : Nat} {vp_n_1 : Value} {vp_n_2 : Value} {vp_n_3 : Value} {vp_n_4 : Value} {vp_n_5 : Value} {vp_a_1 : Value} {vp_a_2 : Value} {vp_a_3 : Value} {vp_b_1 : Value} {vp_b_2 : Value} {vp_b_3 : Value} {vp_r_1 : Value} {r : (List Bool) × Int × (List (List T_api_Event))} (h : triplestore_Verify p_n p_a p_b p_r = some r) : Ct Tryd.prog 57 [(.pointer (some ⟨bp_n, 0, none⟩)), .agg #[vp_a_1, vp_a_2, vp_a_3], .agg #[vp_b_1, vp_b_2, vp_b_3], vp_r_1] [blkP (.pointer (some ⟨bp_n, 0, none⟩)) 119 [.int .u64 p_n.zw.S.P, .int .i64 p_n.zw.S.N, .int .i64 p_n.zw.S.T, vp_n_1, vp_n_2, vp_n_3, .int .i64 p_n.zround, (th vp_n_4), vp_n_5], rdV Kd.i64 vp_n_1 p_n.zw.Corrupt, rdV K_api_Deviation vp_n_2 p_n.zw.Deviations, rdV (Kd.sl Kd.u64) vp_n_3 p_n.zw.Tapes, treeV (rowK K_api_Event 67) 46 (th vp_n_4) (tg vp_n_4) p_n.zviews, rdV Kd.any vp_n_5 p_n.ztapes, rdV (Kd.sl Kd.u64) vp_a_1 p_a.A, rdV (Kd.sl Kd.u64) vp_a_2 p_a.B, rdV (Kd.sl Kd.u64) vp_a_3 p_a.C, rdV (Kd.sl Kd.u64) vp_b_1 p_b.A, rdV (Kd.sl Kd.u64) vp_b_2 p_b.B, rdV (Kd.sl Kd.u64) vp_b_3 p_b.C, rdV (Kd.sl Kd.u64) vp_r_1 p_r] (fun v L => ∃ w0 w2 : Value, v = w0 ∧ L = [ownV Kd.bool 4 w0 r.1, blkP (.pointer (some ⟨bp_n, 0, none⟩)) 119 [.int .u64 p_n.zw.S.P, .int .i64 p_n.zw.S.N, .int .i64 p_n.zw.S.T, vp_n_1, vp_n_2, vp_n_3, .int .i64 r.2.1, (th w2), vp_n_5], treeV (rowK K_api_Event 67) 46 (th w2) (tg w2) r.2.2]) := by
 refine ct_intro Tryd.func57 rfl (by kernel_rfl) (fun F => ?_)
 unfold triplestore_Verify at h
 refine wh_seq ?_
 refine wh_region ?_
 refine w_box (t := 101) (v := .agg #[vp_a_1, vp_a_2, vp_a_3]) (cs := [vp_a_1, vp_a_2, vp_a_3]) (cv0 (by kernel_rfl)) (by kernel_rfl) (fun q1 => ?_)
 refine WI.hd (y := blkP q1 101 [vp_a_1, vp_a_2, vp_a_3]) (by kernel_rfl) ?_
 refine w_opP 0 rfl (fun b1 hb => ?_)
 subst hb
 refine w_box (t := 101) (v := .agg #[vp_b_1, vp_b_2, vp_b_3]) (cs := [vp_b_1, vp_b_2, vp_b_3]) (cv0 (by kernel_rfl)) (by kernel_rfl) (fun q2 => ?_)
 refine WI.hd (y := blkP q2 101 [vp_b_1, vp_b_2, vp_b_3]) (by kernel_rfl) ?_
 refine w_opP 0 rfl (fun b2 hb => ?_)
 subst hb
 refine w_p Tb_ok 1 (by kernel_rfl) ?_
 refine wi_end (by kernel_rfl) ?_
 refine qh_then ?_
 refine wh_seq ?_
 refine wh_region ?_
 refine w_p Tb_ok 1 (by kernel_rfl) ?_
 obtain ⟨r1, er1, h1⟩ := bnd h
 refine w_fn [(2, false), (2, true), (3, true), (4, true), (5, false), (5, true)] (c_network_Net_Scenario er1) rfl fok_64 (by kernel_rfl) ?_
 rintro _ _ ⟨w1_1, w1_2, w1_3, hv, rfl⟩; have hv := hv.symm; subst hv
 refine w_run (v := .agg #[.int .u64 r1.S.P, .int .i64 r1.S.N, .int .i64 r1.S.T]) (fun w => by kernel_rfl) ?_
 refine w_run (v := .int .u64 r1.S.P) (fun w => by kernel_rfl) ?_
 refine w_al (by kernel_rfl) ti_22 (fun q3 => ?_)
 refine WI.hd (y := blkP q3 22 [.int .u64 ((0 : Nat) : Int)]) (by kernel_rfl) ?_
 refine w_opP 0 rfl (fun b3 hb => ?_)
 subst hb
 refine w_stB (v := .int .u64 r1.S.P) (off := 0) (cs := [.int .u64 r1.S.P]) 0 rfl (cv0 (by kernel_rfl)) (by kernel_rfl) ti_22 rfl rfl (oC (fun _ _ => rfl) oN) ?_
 refine WI.hd (y := blkP (.pointer (some ⟨b3, 0, none⟩)) 22 [.int .u64 r1.S.P]) (by kernel_rfl) ?_
 refine wi_end (by kernel_rfl) ?_
 refine qh_then ?_
 refine wh_seq ?_
 refine wh_region ?_
 refine w_p Tb_ok 2 (by kernel_rfl) ?_
 refine w_lt (kd := (Kd.sl (Kd.sl Kd.u64))) (t := 40) (len := 1) (ps0 := [(0, vp_r_1)]) (ps := [(0, .agg #[vp_r_1])]) ([p_r] : List (List (List Nat))) _ (rowC (x := p_r) (g := vp_r_1) (itS 18 rfl) row0) (scS (rd_hd 18 rfl) sc0) (by kernel_rfl) ts_40 ti_44 (by kernel_rfl) rfl rfl (fun v1 => ?_)
 refine WI.ent (frzAt 0 rfl) ?_
 obtain ⟨r2, er2, h2⟩ := bnd h1
 refine w_fn [(0, true)] (c_triplestore_first er2) rfl fok_84 (by kernel_rfl) ?_
 rintro _ _ ⟨w2, hv, rfl⟩; have hv := hv.symm; subst hv
 refine WI.ent (frzAt 0 rfl) ?_
 obtain ⟨r3, er3, h3⟩ := bnd h2
 refine w_fn [(6, false), (9, true), (10, true), (11, true), (6, false), (11, true), (0, true)] (c_reconstruct_Values er3) rfl fok_38 (by kernel_rfl) ?_
 rintro _ _ ⟨w3, w4, w6, hv, rfl⟩; have hv := hv.symm; subst hv
 refine w_p Tb_ok 3 (by kernel_rfl) ?_
 refine w_al (by kernel_rfl) ti_27 (fun q4 => ?_)
 refine WI.hd (y := blkP q4 27 [(.slice none 0 0)]) (by kernel_rfl) ?_
 refine w_opP 0 rfl (fun b4 hb => ?_)
 subst hb
 refine w_stB (v := w3) (off := 0) (cs := [w3]) 0 rfl (cvS (own_hd 1 rfl)) (by kernel_rfl) ti_27 rfl rfl (oC (sl_one (own_hd 1 rfl)) oN) ?_
 refine WI.hd (y := blkP (.pointer (some ⟨b4, 0, none⟩)) 27 [w3]) (by kernel_rfl) ?_
 refine w_p Tb_ok 1 (by kernel_rfl) ?_
 refine wi_end (by kernel_rfl) ?_
 refine qh_then ?_
 refine wh_seq ?_
 refine wh_region ?_
 refine w_p Tb_ok 2 (by kernel_rfl) ?_
 refine wi_end (by kernel_rfl) ?_
 refine qh_then ?_
 refine wh_seq ?_
 refine WH.ent (frzAt 1 rfl) ?_
 refine WH.ent (hd_add (tree_hdI (inP 4 rfl))) ?_
 obtain ⟨r4, er4, h4⟩ := bnd h3
 obtain ⟨r5, er5, h5⟩ := bnd h4
 obtain ⟨r6, er6, h6⟩ := bnd h5
 obtain ⟨r7, er7, h7⟩ := bnd h6
 refine h_flow [0, 0, 0, 4, 0, 16, 62, 0, 0, 256, 0, 1024, 4094, 8190, 16382, 32767, 65535, 131071, 131071, 262143, 1048575] ⟨25, [0, 0, 0, 0, 0, 0, 1, 0, 0, 0, 0, 0, 1, 1, 1, 4, 0, 0, 0, 0, 0], [(15, [(0, 4), (0, 5)])], [(3, [(0, 13)]), (5, [(0, 12)]), (6, [(0, 2), (0, 8)]), (7, [(0, 8)]), (9, [(0, 13)]), (11, [(0, 12)])], [(6, [(0, 1), (0, 18), (0, 21)]), (12, [(0, 19), (0, 22)]), (13, [(13, 0), (7, 0)]), (14, [(14, 0)]), (15, [(15, 0), (0, 14), (0, 15), (0, 16), (0, 17)])]⟩ (fun γ => [(.pointer (some ⟨bp_n, 0, none⟩)), .func (.func 85) #[] #[(.pointer (some ⟨b3, 0, none⟩)), (.pointer (some ⟨b4, 0, none⟩))], .pointer (some ⟨b1, 0, none⟩), vp_a_1, .pointer (some ⟨b2, 0, none⟩), vp_b_1, (th (γ 6 0)), .int .u64 r1.S.P, .pointer (some ⟨b1, 1, none⟩), vp_a_2, .pointer (some ⟨b2, 1, none⟩), vp_b_2, (γ 12 0), (γ 13 0), (γ 14 0), .tuple #[(γ 15 0), (γ 15 1)], .tuple #[(γ 15 0), (γ 15 1)], (γ 15 0), (γ 15 1), (γ 15 0), (γ 15 1)]) (fun i γ => match i with | 6 => [rdV (Kd.sl Kd.u64) (th (γ 6 0)) r4] | 12 => [rdV (Kd.sl Kd.u64) (γ 12 0) r5] | 13 => [rdV (Kd.sl (Kd.sl Kd.u64)) (γ 13 0) ([r4, r5] : List (List (List Nat)))] | 14 => [rdV (Kd.sl Kd.u64) (γ 14 0) r6] | 15 => [ownV (Kd.sl Kd.u64) 30 (γ 15 0) r7.1, ownV (Kd.sl Kd.i64) 25 (γ 15 1) r7.2.1, blkP (.pointer (some ⟨bp_n, 0, none⟩)) 119 [.int .u64 p_n.zw.S.P, .int .i64 p_n.zw.S.N, .int .i64 p_n.zw.S.T, vp_n_1, vp_n_2, vp_n_3, .int .i64 r7.2.2.1, (th (γ 15 2)), vp_n_5], treeV (rowK K_api_Event 67) 46 (th (γ 15 2)) (tg (γ 15 2)) r7.2.2.2] | _ => []) (fun γ => [hdP (th w6) r3.2.2.2.length, rdV (Kd.sl Kd.u64) w3 r3.1, blkP (.pointer (some ⟨b4, 0, none⟩)) 27 [w3], ownV (Kd.sl Kd.i64) 25 w4 r3.2.1, rdV (Kd.sl Kd.u64) w2 r2, rdV (Kd.sl (Kd.sl Kd.u64)) v1 ([p_r] : List (List (List Nat))), blkP (.pointer (some ⟨b3, 0, none⟩)) 22 [.int .u64 r1.S.P], rdV Kd.i64 w1_1 r1.Corrupt, rdV K_api_Deviation w1_2 r1.Deviations, rdV (Kd.sl Kd.u64) w1_3 r1.Tapes, blkP (.pointer (some ⟨b2, 0, none⟩)) 101 [vp_b_1, vp_b_2, vp_b_3], blkP (.pointer (some ⟨b1, 0, none⟩)) 101 [vp_a_1, vp_a_2, vp_a_3], rdV Kd.i64 vp_n_1 p_n.zw.Corrupt, rdV K_api_Deviation vp_n_2 p_n.zw.Deviations, rdV (Kd.sl Kd.u64) vp_n_3 p_n.zw.Tapes, rdV Kd.any vp_n_5 p_n.ztapes, rdV (Kd.sl Kd.u64) vp_a_1 p_a.A, rdV (Kd.sl Kd.u64) vp_a_2 p_a.B, rdV (Kd.sl Kd.u64) vp_a_3 p_a.C, rdV (Kd.sl Kd.u64) vp_b_1 p_b.A, rdV (Kd.sl Kd.u64) vp_b_2 p_b.B, rdV (Kd.sl Kd.u64) vp_b_3 p_b.C, rdV (Kd.sl Kd.u64) vp_r_1 p_r, rdV (Kd.sl Kd.u64) (th (γ 6 0)) r4, rdV (Kd.sl Kd.u64) (γ 12 0) r5, rdV (Kd.sl (Kd.sl Kd.u64)) (γ 13 0) ([r4, r5] : List (List (List Nat))), rdV (Kd.sl Kd.u64) (γ 14 0) r6, ownV (Kd.sl Kd.u64) 30 (γ 15 0) r7.1, ownV (Kd.sl Kd.i64) 25 (γ 15 1) r7.2.1, blkP (.pointer (some ⟨bp_n, 0, none⟩)) 119 [.int .u64 p_n.zw.S.P, .int .i64 p_n.zw.S.N, .int .i64 p_n.zw.S.T, vp_n_1, vp_n_2, vp_n_3, .int .i64 r7.2.2.1, (th (γ 15 2)), vp_n_5], treeV (rowK K_api_Event 67) 46 (th (γ 15 2)) (tg (γ 15 2)) r7.2.2.2] ++ F) [0, 1, 2, 4, 8, 10, 16, 17, 18, 19, 20] tryd_mix Tb_ok (by kernel_rfl) (by kernel_rfl) (fun _ => by kernel_rfl) (fun _ => by kernel_rfl) (fun _ => by kernel_rfl) (fun _ => by kernel_rfl) (fun _ => by kernel_rfl) (fun _ => by kernel_rfl) (fun _ => by kernel_rfl) ?_ ?_
 ·
  refine ⟨?_, ?_, ?_, ?_, ?_, ?_, ?_, ?_, ?_, ?_, trivial⟩
  ·
   intro γ F
   refine WI.reH (H' := [blkP (.pointer (some ⟨b1, 0, none⟩)) 101 [vp_a_1, vp_a_2, vp_a_3]] ++ F) (by kernel_rfl) ?_
   refine w_ldB 0 0 rfl (by kernel_rfl) ti_44 rfl rfl ?_
   exact wE (gl []) [(0, false)] 0
  ·
   intro γ F
   refine WI.reH (H' := [blkP (.pointer (some ⟨b2, 0, none⟩)) 101 [vp_b_1, vp_b_2, vp_b_3]] ++ F) (by kernel_rfl) ?_
   refine w_ldB 0 0 rfl (by kernel_rfl) ti_44 rfl rfl ?_
   exact wE (gl []) [(0, false)] 0
  ·
   intro γ F
   refine WI.reH (H' := [blkP (.pointer (some ⟨b4, 0, none⟩)) 27 [w3], blkP (.pointer (some ⟨b3, 0, none⟩)) 22 [.int .u64 r1.S.P], rdV (Kd.sl Kd.u64) w3 r3.1, rdV (Kd.sl Kd.u64) vp_a_1 p_a.A, rdV (Kd.sl Kd.u64) vp_b_1 p_b.A] ++ F) (by kernel_rfl) ?_
   refine w_fn [(3, true), (4, true), (1, false), (0, false), (0, true)] (c_triplestore_Verify_1 er4) rfl fok_85 (by kernel_rfl) ?_
   rintro _ _ ⟨w7, hv, rfl⟩; have hv := hv.symm; subst hv
   refine WI.ent (tr_frz fz_row 0 rfl) ?_
   exact wE (gl [w7]) [(0, true), (2, false), (1, false)] 4
  ·
   intro γ F
   refine WI.reH (H' := [blkP (.pointer (some ⟨b3, 0, none⟩)) 22 [.int .u64 r1.S.P]] ++ F) (by kernel_rfl) ?_
   refine w_ldB 0 0 rfl (by kernel_rfl) ti_22 rfl rfl ?_
   exact wE (gl []) [(0, false)] 0
  ·
   intro γ F
   refine WI.reH (H' := [blkP (.pointer (some ⟨b1, 0, none⟩)) 101 [vp_a_1, vp_a_2, vp_a_3]] ++ F) (by kernel_rfl) ?_
   refine w_ldB 0 1 rfl (by kernel_rfl) ti_44 rfl rfl ?_
   exact wE (gl []) [(0, false)] 0
  ·
   intro γ F
   refine WI.reH (H' := [blkP (.pointer (some ⟨b2, 0, none⟩)) 101 [vp_b_1, vp_b_2, vp_b_3]] ++ F) (by kernel_rfl) ?_
   refine w_ldB 0 1 rfl (by kernel_rfl) ti_44 rfl rfl ?_
   exact wE (gl []) [(0, false)] 0
  ·
   intro γ F
   refine WI.reH (H' := [rdV (Kd.sl Kd.u64) vp_a_2 p_a.B, rdV (Kd.sl Kd.u64) vp_b_2 p_b.B] ++ F) (by kernel_rfl) ?_
   refine w_fn [(0, true), (1, true)] (c_triplestore_minus er5) rfl fok_88 (by kernel_rfl) ?_
   rintro _ _ ⟨w8, hv, rfl⟩; have hv := hv.symm; subst hv
   refine WI.ent (frzAt 0 rfl) ?_
   exact wE (gl [w8]) [(0, true)] 3
  ·
   intro γ F
   refine WI.reH (H' := [rdV (Kd.sl Kd.u64) (γ 12 0) r5, rdV (Kd.sl Kd.u64) (th (γ 6 0)) r4] ++ F) (by kernel_rfl) ?_
   refine w_lt (kd := (Kd.sl (Kd.sl Kd.u64))) (t := 40) (len := 2) (ps0 := [(0, (th (γ 6 0))), (1, (γ 12 0))]) (ps := [(0, .agg #[(th (γ 6 0))]), (1, .agg #[(γ 12 0)])]) ([r4, r5] : List (List (List Nat))) _ (rowC (x := r4) (g := (th (γ 6 0))) (itS 1 rfl) (rowC (x := r5) (g := (γ 12 0)) (itS 0 rfl) row0)) (scS (rd_hd 1 rfl) (scS (rd_hd 0 rfl) sc0)) (by kernel_rfl) ts_40 ti_44 (by kernel_rfl) rfl rfl (fun v2 => ?_)
   refine WI.ent (frzAt 0 rfl) ?_
   exact wE (gl [v2]) [(0, true)] 3
  ·
   intro γ F
   refine WI.reH (H' := [rdV (Kd.sl (Kd.sl Kd.u64)) (γ 13 0) ([r4, r5] : List (List (List Nat)))] ++ F) (by kernel_rfl) ?_
   refine w_fn [(0, true)] (c_triplestore_first er6) rfl fok_84 (by kernel_rfl) ?_
   rintro _ _ ⟨w9, hv, rfl⟩; have hv := hv.symm; subst hv
   refine WI.ent (frzAt 0 rfl) ?_
   exact wE (gl [w9]) [(0, true)] 2
  ·
   intro γ F
   refine WI.reH (H' := [blkP (.pointer (some ⟨bp_n, 0, none⟩)) 119 [.int .u64 p_n.zw.S.P, .int .i64 p_n.zw.S.N, .int .i64 p_n.zw.S.T, vp_n_1, vp_n_2, vp_n_3, .int .i64 r3.2.2.1, (th w6), vp_n_5], treeV (rowK K_api_Event 67) 46 (th w6) (tg w6) r3.2.2.2, rdV (Kd.sl Kd.u64) (γ 14 0) r6, rdV Kd.i64 vp_n_1 p_n.zw.Corrupt, rdV K_api_Deviation vp_n_2 p_n.zw.Deviations, rdV (Kd.sl Kd.u64) vp_n_3 p_n.zw.Tapes, rdV Kd.any vp_n_5 p_n.ztapes] ++ F) (by kernel_rfl) ?_
   refine w_fn [(0, false), (2, true), (3, true), (4, true), (0, false), (4, true), (0, true)] (c_reconstruct_Values er7) rfl fok_38 (by kernel_rfl) ?_
   rintro _ _ ⟨w10, w11, w13, hv, rfl⟩; have hv := hv.symm; subst hv
   exact wE (gl [w10, w11, w13]) [(0, false), (0, false), (0, false), (0, false)] 5
 ·
  intro γ1
  refine qh_then ?_
  refine wh_seq ?_
  refine wh_region ?_
  refine w_p Tb_ok 2 (by kernel_rfl) ?_
  refine w_ldB 11 2 rfl (by kernel_rfl) ti_44 rfl rfl ?_
  refine w_p Tb_ok 1 (by kernel_rfl) ?_
  refine w_ldB 10 2 rfl (by kernel_rfl) ti_44 rfl rfl ?_
  obtain ⟨r8, er8, h8⟩ := bnd h7
  refine w_fn [(18, true), (21, true), (6, false), (2, false), (1, true)] (c_triplestore_Verify_1 er8) rfl fok_85 (by kernel_rfl) ?_
  rintro _ _ ⟨w14, hv, rfl⟩; have hv := hv.symm; subst hv
  refine w_p Tb_ok 1 (by kernel_rfl) ?_
  refine wi_end (by kernel_rfl) ?_
  refine qh_then ?_
  refine wh_seq ?_
  refine wh_seq ?_
  refine wh_region ?_
  refine w_p Tb_ok 1 (by kernel_rfl) ?_
  refine w_len (tree_hdI (inP 0 rfl)) (by kernel_rfl) ts_44 ?_
  refine w_p Tb_ok 1 (by kernel_rfl) ?_
  refine wi_end (by kernel_rfl) ?_
  refine qh_then ?_
  refine h_lenle (tree_lenle 0 rfl) (fun hN1 => ?_)
  obtain ⟨l2, el1, h9⟩ := bnd h8
  refine h_join (X := Unit) (fun g => [(0, (.pointer (some ⟨bp_n, 0, none⟩))), (15, (th w14))]) (fun g => [blkP (.pointer (some ⟨bp_n, 0, none⟩)) 119 [.int .u64 p_n.zw.S.P, .int .i64 p_n.zw.S.N, .int .i64 p_n.zw.S.T, vp_n_1, vp_n_2, vp_n_3, .int .i64 r7.2.2.1, (th (γ1 15 2)), vp_n_5], rdV Kd.i64 vp_n_1 p_n.zw.Corrupt, rdV K_api_Deviation vp_n_2 p_n.zw.Deviations, rdV (Kd.sl Kd.u64) vp_n_3 p_n.zw.Tapes, treeV (rowK K_api_Event 67) 46 (th (γ1 15 2)) (tg (γ1 15 2)) r7.2.2.2, rdV Kd.any vp_n_5 p_n.ztapes, treeV (rowK Kd.u64 22) 30 (th w14) (tg w14) l2] ++ F) (fun _ => True) ?_ ?_
  ·
   refine wh_block ?_
   refine h_rs (fun (k1 : Nat) (st : (List (List Nat))) (g : Unit) => [(0, (.pointer (some ⟨bp_n, 0, none⟩))), (6, (.pointer (some ⟨b2, 0, none⟩))), (9, (.pointer (some ⟨b3, 0, none⟩))), (13, (γ1 15 0)), (15, (th w14)), (64, .int .i64 ((r8.length : Nat) : Int)), (65, .int .i64 ((k1 : Nat) : Int))]) (fun (k1 : Nat) (st : (List (List Nat))) (g : Unit) => [blkP (.pointer (some ⟨bp_n, 0, none⟩)) 119 [.int .u64 p_n.zw.S.P, .int .i64 p_n.zw.S.N, .int .i64 p_n.zw.S.T, vp_n_1, vp_n_2, vp_n_3, .int .i64 r7.2.2.1, (th (γ1 15 2)), vp_n_5], rdV Kd.i64 vp_n_1 p_n.zw.Corrupt, rdV K_api_Deviation vp_n_2 p_n.zw.Deviations, rdV (Kd.sl Kd.u64) vp_n_3 p_n.zw.Tapes, treeV (rowK K_api_Event 67) 46 (th (γ1 15 2)) (tg (γ1 15 2)) r7.2.2.2, rdV Kd.any vp_n_5 p_n.ztapes, blkP (.pointer (some ⟨b2, 0, none⟩)) 101 [vp_b_1, vp_b_2, vp_b_3], rdV (Kd.sl Kd.u64) vp_b_1 p_b.A, rdV (Kd.sl Kd.u64) vp_b_2 p_b.B, rdV (Kd.sl Kd.u64) vp_b_3 p_b.C, blkP (.pointer (some ⟨b3, 0, none⟩)) 22 [.int .u64 r1.S.P], ownV (Kd.sl Kd.u64) 30 (γ1 15 0) r7.1, treeV (rowK Kd.u64 22) 30 (th w14) (tg w14) st] ++ F) () el1 (Nat.zero_le _) aK (tH [(30, false), (13, true), (14, true), (15, true), (30, false), (16, true), (11, false), (19, true), (20, true), (21, true), (1, false), (26, false), (0, false)] 26) ?_ ?_
   ·
    rintro ⟨⟩ j
    refine wh_seq ?_
    refine wh_region ?_
    refine w_p Tb_ok 1 (by kernel_rfl) ?_
    refine wi_end (by kernel_rfl) ?_
    refine qh_then ?_
    refine wh_seq ?_
    refine h_cf (b := (decide ((((r8.length) : Nat) : Int) < ((r8.length : Nat) : Int)))) rgF (by kernel_rfl) ?_
    refine wh_exit ?_
    refine qh_then_exit ?_
    refine q_rzX ?_
    refine qh_block_exit ?_
    exact q_join () trivial aK (tH [(0, false), (0, true), (1, true), (2, true), (3, false), (3, true), (10, false)] 10)
   ·
    rintro rem k1 l1 ⟨⟩ o1 hk1 h10 hn1 j
    have h10 : triplestore_Verify_L0 p_b r1 r7 k1 l1 = some o1 := h10
    unfold triplestore_Verify_L0 at h10
    refine wh_seq ?_
    refine wh_region ?_
    refine w_p Tb_ok 1 (by kernel_rfl) ?_
    refine wi_end (by kernel_rfl) ?_
    refine qh_then ?_
    refine wh_seq ?_
    refine h_ct (b := (decide (((k1 : Nat) : Int) < ((r8.length : Nat) : Int)))) (rgT hk1) (by kernel_rfl) ?_
    refine wh_skip ?_
    refine qh_then ?_
    refine wh_seq ?_
    refine wh_block ?_
    refine wh_seq ?_
    refine wh_region ?_
    refine w_p Tb_ok 2 (by kernel_rfl) ?_
    refine wi_end (by kernel_rfl) ?_
    refine qh_then ?_
    refine wh_seq ?_
    refine WH.ent (hd_add (tree_hdI (inP 4 rfl))) ?_
    refine WH.ent (hd_add (tree_hdI (inP 13 rfl))) ?_
    obtain ⟨x2, ex2, h11⟩ := bnd h10
    obtain ⟨x3, ex3, h12⟩ := bnd h11
    obtain ⟨x4, ex4, h13⟩ := bnd h12
    refine h_flow [0, 0, 3, 7, 15, 31, 0, 0, 192, 448, 960, 1984, 63, 8191] ⟨15, [0, 0, 0, 1, 0, 0, 0, 0, 0, 1, 0, 0, 0, 0], [], [(2, [(0, 13)]), (3, [(0, 13)]), (8, [(0, 13)]), (9, [(0, 13)])], [(4, [(4, 0)]), (5, [(4, 0)]), (10, [(10, 0)]), (11, [(10, 0)])]⟩ (fun γ => [(γ1 15 0), .int .i64 ((k1 : Nat) : Int), .pointer (some (elV (γ1 15 0) (k1 * (Kd.sl Kd.u64).size))), (γ 3 0), .pointer (some (elV (γ 3 0) (0 * Kd.u64.size))), .int .u64 x3, (γ1 15 0), .int .i64 ((k1 : Nat) : Int), .pointer (some (elV (γ1 15 0) (k1 * (Kd.sl Kd.u64).size))), (γ 9 0), .pointer (some (elV (γ 9 0) (1 * Kd.u64.size))), .int .u64 x4, .int .u64 x3, .int .u64 x4]) (fun i γ => match i with | 3 => [rdV Kd.u64 (γ 3 0) x2] | 9 => [rdV Kd.u64 (γ 9 0) x2] | _ => []) (fun γ => [hdP (th w14) l1.length, hdP (th (γ1 15 2)) r7.2.2.2.length, blkP (.pointer (some ⟨bp_n, 0, none⟩)) 119 [.int .u64 p_n.zw.S.P, .int .i64 p_n.zw.S.N, .int .i64 p_n.zw.S.T, vp_n_1, vp_n_2, vp_n_3, .int .i64 r7.2.2.1, (th (γ1 15 2)), vp_n_5], rdV Kd.i64 vp_n_1 p_n.zw.Corrupt, rdV K_api_Deviation vp_n_2 p_n.zw.Deviations, rdV (Kd.sl Kd.u64) vp_n_3 p_n.zw.Tapes, treeV (rowK K_api_Event 67) 46 (th (γ1 15 2)) (tg (γ1 15 2)) r7.2.2.2, rdV Kd.any vp_n_5 p_n.ztapes, blkP (.pointer (some ⟨b2, 0, none⟩)) 101 [vp_b_1, vp_b_2, vp_b_3], rdV (Kd.sl Kd.u64) vp_b_1 p_b.A, rdV (Kd.sl Kd.u64) vp_b_2 p_b.B, rdV (Kd.sl Kd.u64) vp_b_3 p_b.C, blkP (.pointer (some ⟨b3, 0, none⟩)) 22 [.int .u64 r1.S.P], ownV (Kd.sl Kd.u64) 30 (γ1 15 0) r7.1, treeV (rowK Kd.u64 22) 30 (th w14) (tg w14) l1, rdV Kd.u64 (γ 3 0) x2, rdV Kd.u64 (γ 9 0) x2] ++ F) [0, 1, 6, 7, 12, 13] tryd_mix Tb_ok (by kernel_rfl) (by kernel_rfl) (fun _ => by kernel_rfl) (fun _ => by kernel_rfl) (fun _ => by kernel_rfl) (fun _ => by kernel_rfl) (fun _ => by kernel_rfl) (fun _ => by kernel_rfl) (fun _ => by kernel_rfl) ?_ ?_
    ·
     refine ⟨?_, ?_, ?_, ?_, ?_, ?_, ?_, ?_, trivial⟩
     ·
      intro γ F
      refine WI.reH (H' := [ownV (Kd.sl Kd.u64) 30 (γ1 15 0) r7.1] ++ F) (by kernel_rfl) ?_
      refine w_ix (k := .i64) (own_hd 0 rfl) (nbd ex2) rfl (by kernel_rfl) ts_27 ti_30 ?_
      exact wE (gl []) [(0, false)] 0
     ·
      intro γ F
      refine WI.reH (H' := [ownV (Kd.sl Kd.u64) 30 (γ1 15 0) r7.1] ++ F) (by kernel_rfl) ?_
      refine w_ldO 0 0 rfl ex2 (by kernel_rfl) ti_30 rfl rfl ?_
      rintro v3
      exact wE (gl [v3]) [(0, true), (1, false)] 1
     ·
      intro γ F
      refine WI.reH (H' := [rdV Kd.u64 (γ 3 0) x2] ++ F) (by kernel_rfl) ?_
      refine w_ix (k := .i64) (rd_hd 0 rfl) (nbd ex3) rfl (by kernel_rfl) ts_30 ti_22 ?_
      exact wE (gl []) [] 1
     ·
      intro γ F
      refine WI.reH (H' := [rdV Kd.u64 (γ 3 0) x2] ++ F) (by kernel_rfl) ?_
      refine w_ldR 0 0 rfl ex3 (by kernel_rfl) ti_22 rfl rfl ?_
      rintro _
      exact wE (gl []) [] 1
     ·
      intro γ F
      refine WI.reH (H' := [ownV (Kd.sl Kd.u64) 30 (γ1 15 0) r7.1] ++ F) (by kernel_rfl) ?_
      refine w_ix (k := .i64) (own_hd 0 rfl) (nbd ex2) rfl (by kernel_rfl) ts_27 ti_30 ?_
      exact wE (gl []) [(0, false)] 0
     ·
      intro γ F
      refine WI.reH (H' := [ownV (Kd.sl Kd.u64) 30 (γ1 15 0) r7.1] ++ F) (by kernel_rfl) ?_
      refine w_ldO 0 0 rfl ex2 (by kernel_rfl) ti_30 rfl rfl ?_
      rintro v4
      exact wE (gl [v4]) [(0, true), (1, false)] 1
     ·
      intro γ F
      refine WI.reH (H' := [rdV Kd.u64 (γ 9 0) x2] ++ F) (by kernel_rfl) ?_
      refine w_ix (k := .i64) (rd_hd 0 rfl) (nbd ex4) rfl (by kernel_rfl) ts_30 ti_22 ?_
      exact wE (gl []) [] 1
     ·
      intro γ F
      refine WI.reH (H' := [rdV Kd.u64 (γ 9 0) x2] ++ F) (by kernel_rfl) ?_
      refine w_ldR 0 0 rfl ex4 (by kernel_rfl) ti_22 rfl rfl ?_
      rintro _
      exact wE (gl []) [] 1
    ·
     intro γ2
     refine qh_then ?_
     refine wh_seq ?_
     refine wh_region ?_
     refine w_p Tb_ok 2 (by kernel_rfl) ?_
     obtain ⟨x5, ex5, h14⟩ := bnd h13
     refine w_ix (k := .i64) (tree_hdI (inP 14 rfl)) (nbd ex5) rfl (by kernel_rfl) ts_44 ti_30 ?_
     refine w_ldN rs_row (inP 14 rfl) ex5 (by kernel_rfl) ti_30 (fun g1 => ?_)
     refine w_len (hdI 1 rfl) (by kernel_rfl) ts_30 ?_
     refine w_p Tb_ok 1 (by kernel_rfl) ?_
     refine wi_end (by kernel_rfl) ?_
     refine qh_then ?_
     obtain ⟨u1, eu1, h15⟩ := bnd h14
     have hN2 := ckN_some eu1
     obtain ⟨l4, el2, h16⟩ := bnd h15
     refine h_join (X := Unit) (fun g => [(0, (.pointer (some ⟨bp_n, 0, none⟩))), (6, (.pointer (some ⟨b2, 0, none⟩))), (9, (.pointer (some ⟨b3, 0, none⟩))), (13, (γ1 15 0)), (15, (th w14)), (64, .int .i64 ((r8.length : Nat) : Int)), (65, .int .i64 ((k1 : Nat) : Int))]) (fun g => [blkP (.pointer (some ⟨bp_n, 0, none⟩)) 119 [.int .u64 p_n.zw.S.P, .int .i64 p_n.zw.S.N, .int .i64 p_n.zw.S.T, vp_n_1, vp_n_2, vp_n_3, .int .i64 r7.2.2.1, (th (γ1 15 2)), vp_n_5], rdV Kd.i64 vp_n_1 p_n.zw.Corrupt, rdV K_api_Deviation vp_n_2 p_n.zw.Deviations, rdV (Kd.sl Kd.u64) vp_n_3 p_n.zw.Tapes, treeV (rowK K_api_Event 67) 46 (th (γ1 15 2)) (tg (γ1 15 2)) r7.2.2.2, rdV Kd.any vp_n_5 p_n.ztapes, blkP (.pointer (some ⟨b2, 0, none⟩)) 101 [vp_b_1, vp_b_2, vp_b_3], rdV (Kd.sl Kd.u64) vp_b_1 p_b.A, rdV (Kd.sl Kd.u64) vp_b_2 p_b.B, rdV (Kd.sl Kd.u64) vp_b_3 p_b.C, blkP (.pointer (some ⟨b3, 0, none⟩)) 22 [.int .u64 r1.S.P], ownV (Kd.sl Kd.u64) 30 (γ1 15 0) r7.1, treeV (rowK Kd.u64 22) 30 (th w14) (tg w14) l4] ++ F) (fun _ => True) ?_ ?_
     ·
      refine wh_block ?_
      refine h_rs (fun (k2 : Nat) (st : (List (List Nat))) (g : Unit) => [(0, (.pointer (some ⟨bp_n, 0, none⟩))), (6, (.pointer (some ⟨b2, 0, none⟩))), (9, (.pointer (some ⟨b3, 0, none⟩))), (13, (γ1 15 0)), (15, (th w14)), (16, .int .i64 ((k1 : Nat) : Int)), (17, .int .u64 x3), (18, .int .u64 x4), (64, .int .i64 ((r8.length : Nat) : Int)), (65, .int .i64 ((k1 : Nat) : Int)), (84, .int .i64 ((x5.length : Nat) : Int)), (85, .int .i64 ((k2 : Nat) : Int))]) (fun (k2 : Nat) (st : (List (List Nat))) (g : Unit) => [blkP (.pointer (some ⟨bp_n, 0, none⟩)) 119 [.int .u64 p_n.zw.S.P, .int .i64 p_n.zw.S.N, .int .i64 p_n.zw.S.T, vp_n_1, vp_n_2, vp_n_3, .int .i64 r7.2.2.1, (th (γ1 15 2)), vp_n_5], rdV Kd.i64 vp_n_1 p_n.zw.Corrupt, rdV K_api_Deviation vp_n_2 p_n.zw.Deviations, rdV (Kd.sl Kd.u64) vp_n_3 p_n.zw.Tapes, treeV (rowK K_api_Event 67) 46 (th (γ1 15 2)) (tg (γ1 15 2)) r7.2.2.2, rdV Kd.any vp_n_5 p_n.ztapes, blkP (.pointer (some ⟨b2, 0, none⟩)) 101 [vp_b_1, vp_b_2, vp_b_3], rdV (Kd.sl Kd.u64) vp_b_1 p_b.A, rdV (Kd.sl Kd.u64) vp_b_2 p_b.B, rdV (Kd.sl Kd.u64) vp_b_3 p_b.C, blkP (.pointer (some ⟨b3, 0, none⟩)) 22 [.int .u64 r1.S.P], ownV (Kd.sl Kd.u64) 30 (γ1 15 0) r7.1, treeV (rowK Kd.u64 22) 30 (th w14) (tg w14) st] ++ F) () el2 (Nat.zero_le _) aK (tH [(4, false), (4, true), (5, true), (6, true), (7, false), (7, true), (8, false), (8, true), (9, true), (10, true), (11, false), (11, false), (11, false)] 13) ?_ ?_
      ·
       rintro ⟨⟩ j
       refine wh_seq ?_
       refine wh_region ?_
       refine w_p Tb_ok 1 (by kernel_rfl) ?_
       refine wi_end (by kernel_rfl) ?_
       refine qh_then ?_
       refine wh_seq ?_
       refine h_cf (b := (decide ((((x5.length) : Nat) : Int) < ((x5.length : Nat) : Int)))) rgF (by kernel_rfl) ?_
       refine wh_exit ?_
       refine qh_then_exit ?_
       refine q_rzX ?_
       refine qh_block_exit ?_
       exact q_join () trivial aK (tH [(0, false), (0, true), (1, true), (2, true), (3, false), (3, true), (4, false), (4, true), (5, true), (6, true), (7, false), (7, false), (7, false)] 7)
      ·
       rintro rem k2 l3 ⟨⟩ o2 hk2 h17 hn2 j
       have h17 : triplestore_Verify_L1 p_b r1 k1 x3 x4 k2 l3 = some o2 := h17
       unfold triplestore_Verify_L1 at h17
       refine wh_seq ?_
       refine wh_region ?_
       refine w_p Tb_ok 1 (by kernel_rfl) ?_
       refine wi_end (by kernel_rfl) ?_
       refine qh_then ?_
       refine wh_seq ?_
       refine h_ct (b := (decide (((k2 : Nat) : Int) < ((x5.length : Nat) : Int)))) (rgT hk2) (by kernel_rfl) ?_
       refine wh_skip ?_
       refine qh_then ?_
       refine wh_seq ?_
       refine wh_block ?_
       refine wh_seq ?_
       refine wh_region ?_
       refine w_p Tb_ok 2 (by kernel_rfl) ?_
       refine wi_end (by kernel_rfl) ?_
       refine qh_then ?_
       refine wh_seq ?_
       refine WH.ent (hd_add (tree_hdI (inP 4 rfl))) ?_
       refine WH.ent (hd_add (tree_hdI (inP 13 rfl))) ?_
       obtain ⟨x7, ex7, h18⟩ := bnd h17
       obtain ⟨x8, ex8, h19⟩ := bnd h18
       obtain ⟨r11, er11, h20⟩ := bnd h19
       obtain ⟨x9, ex9, h21⟩ := bnd h20
       obtain ⟨x10, ex10, h22⟩ := bnd h21
       obtain ⟨r12, er12, h23⟩ := bnd h22
       obtain ⟨r13, er13, h24⟩ := bnd h23
       refine h_flow [0, 0, 0, 0, 8, 0, 56, 120, 0, 504, 1016, 2046, 0, 0, 0, 16384, 0, 114688, 245760, 0, 1032192, 2080768, 4194302, 8388607, 16777215] ⟨15, [0, 0, 0, 0, 0, 0, 0, 1, 0, 0, 0, 0, 0, 0, 0, 0, 0, 0, 1, 0, 0, 0, 0, 0, 0], [], [(0, [(0, 12)]), (1, [(0, 12)]), (4, [(0, 8)]), (12, [(0, 12)]), (15, [(0, 8)])], [(6, [(0, 10)]), (7, [(0, 10)]), (9, [(8, 0)]), (10, [(8, 0)]), (17, [(0, 9)]), (18, [(0, 9)]), (20, [(19, 0)]), (21, [(19, 0)])]⟩ (fun γ => [.int .u64 r1.S.P, .int .u64 r1.S.P, .int .u64 x3, .pointer (some ⟨b2, 1, none⟩), vp_b_2, .int .i64 ((k1 : Nat) : Int), .pointer (some (elV vp_b_2 (k1 * (Kd.sl Kd.u64).size))), (γ 7 0), .int .i64 ((k2 : Nat) : Int), .pointer (some (elV (γ 7 0) (k2 * Kd.u64.size))), .int .u64 x8, .int .u64 r11, .int .u64 r1.S.P, .int .u64 x4, .pointer (some ⟨b2, 0, none⟩), vp_b_1, .int .i64 ((k1 : Nat) : Int), .pointer (some (elV vp_b_1 (k1 * (Kd.sl Kd.u64).size))), (γ 18 0), .int .i64 ((k2 : Nat) : Int), .pointer (some (elV (γ 18 0) (k2 * Kd.u64.size))), .int .u64 x10, .int .u64 r12, .int .u64 r13, .int .u64 r13]) (fun i γ => match i with | 7 => [rdV Kd.u64 (γ 7 0) x7] | 18 => [rdV Kd.u64 (γ 18 0) x9] | _ => []) (fun γ => [hdP (th w14) l3.length, hdP (th (γ1 15 2)) r7.2.2.2.length, blkP (.pointer (some ⟨bp_n, 0, none⟩)) 119 [.int .u64 p_n.zw.S.P, .int .i64 p_n.zw.S.N, .int .i64 p_n.zw.S.T, vp_n_1, vp_n_2, vp_n_3, .int .i64 r7.2.2.1, (th (γ1 15 2)), vp_n_5], rdV Kd.i64 vp_n_1 p_n.zw.Corrupt, rdV K_api_Deviation vp_n_2 p_n.zw.Deviations, rdV (Kd.sl Kd.u64) vp_n_3 p_n.zw.Tapes, treeV (rowK K_api_Event 67) 46 (th (γ1 15 2)) (tg (γ1 15 2)) r7.2.2.2, rdV Kd.any vp_n_5 p_n.ztapes, blkP (.pointer (some ⟨b2, 0, none⟩)) 101 [vp_b_1, vp_b_2, vp_b_3], rdV (Kd.sl Kd.u64) vp_b_1 p_b.A, rdV (Kd.sl Kd.u64) vp_b_2 p_b.B, rdV (Kd.sl Kd.u64) vp_b_3 p_b.C, blkP (.pointer (some ⟨b3, 0, none⟩)) 22 [.int .u64 r1.S.P], ownV (Kd.sl Kd.u64) 30 (γ1 15 0) r7.1, treeV (rowK Kd.u64 22) 30 (th w14) (tg w14) l3, rdV Kd.u64 (γ 7 0) x7, rdV Kd.u64 (γ 18 0) x9] ++ F) [2, 3, 5, 8, 13, 14, 16, 19, 24] tryd_mix Tb_ok (by kernel_rfl) (by kernel_rfl) (fun _ => by kernel_rfl) (fun _ => by kernel_rfl) (fun _ => by kernel_rfl) (fun _ => by kernel_rfl) (fun _ => by kernel_rfl) (fun _ => by kernel_rfl) (fun _ => by kernel_rfl) ?_ ?_
       ·
        refine ⟨?_, ?_, ?_, ?_, ?_, ?_, ?_, ?_, ?_, ?_, ?_, ?_, ?_, ?_, ?_, ?_, trivial⟩
        ·
         intro γ F
         refine WI.reH (H' := [blkP (.pointer (some ⟨b3, 0, none⟩)) 22 [.int .u64 r1.S.P]] ++ F) (by kernel_rfl) ?_
         refine w_ldB 0 0 rfl (by kernel_rfl) ti_22 rfl rfl ?_
         exact wE (gl []) [(0, false)] 0
        ·
         intro γ F
         refine WI.reH (H' := [blkP (.pointer (some ⟨b3, 0, none⟩)) 22 [.int .u64 r1.S.P]] ++ F) (by kernel_rfl) ?_
         refine w_ldB 0 0 rfl (by kernel_rfl) ti_22 rfl rfl ?_
         exact wE (gl []) [(0, false)] 0
        ·
         intro γ F
         refine WI.reH (H' := [blkP (.pointer (some ⟨b2, 0, none⟩)) 101 [vp_b_1, vp_b_2, vp_b_3]] ++ F) (by kernel_rfl) ?_
         refine w_ldB 0 1 rfl (by kernel_rfl) ti_44 rfl rfl ?_
         exact wE (gl []) [(0, false)] 0
        ·
         intro γ F
         refine WI.reH (H' := [rdV (Kd.sl Kd.u64) vp_b_2 p_b.B] ++ F) (by kernel_rfl) ?_
         refine w_ix (k := .i64) (rd_hd 0 rfl) (nbd ex7) rfl (by kernel_rfl) ts_44 ti_30 ?_
         exact wE (gl []) [] 1
        ·
         intro γ F
         refine WI.reH (H' := [rdV (Kd.sl Kd.u64) vp_b_2 p_b.B] ++ F) (by kernel_rfl) ?_
         refine w_ldR 0 0 rfl ex7 (by kernel_rfl) ti_30 rfl rfl ?_
         rintro v5
         exact wE (gl [v5]) [(0, true)] 2
        ·
         intro γ F
         refine WI.reH (H' := [rdV Kd.u64 (γ 7 0) x7] ++ F) (by kernel_rfl) ?_
         refine w_ix (k := .i64) (rd_hd 0 rfl) (nbd ex8) rfl (by kernel_rfl) ts_30 ti_22 ?_
         exact wE (gl []) [] 1
        ·
         intro γ F
         refine WI.reH (H' := [rdV Kd.u64 (γ 7 0) x7] ++ F) (by kernel_rfl) ?_
         refine w_ldR 0 0 rfl ex8 (by kernel_rfl) ti_22 rfl rfl ?_
         rintro _
         exact wE (gl []) [] 1
        ·
         intro γ F
         refine WI.reH (H' := [] ++ F) (by kernel_rfl) ?_
         refine w_fn [] (c_field_Mul er11) rfl fok_87 (by kernel_rfl) ?_
         rintro _ _ ⟨hv, rfl⟩; have hv := hv.symm; subst hv
         exact wE (gl []) [] 0
        ·
         intro γ F
         refine WI.reH (H' := [blkP (.pointer (some ⟨b3, 0, none⟩)) 22 [.int .u64 r1.S.P]] ++ F) (by kernel_rfl) ?_
         refine w_ldB 0 0 rfl (by kernel_rfl) ti_22 rfl rfl ?_
         exact wE (gl []) [(0, false)] 0
        ·
         intro γ F
         refine WI.reH (H' := [blkP (.pointer (some ⟨b2, 0, none⟩)) 101 [vp_b_1, vp_b_2, vp_b_3]] ++ F) (by kernel_rfl) ?_
         refine w_ldB 0 0 rfl (by kernel_rfl) ti_44 rfl rfl ?_
         exact wE (gl []) [(0, false)] 0
        ·
         intro γ F
         refine WI.reH (H' := [rdV (Kd.sl Kd.u64) vp_b_1 p_b.A] ++ F) (by kernel_rfl) ?_
         refine w_ix (k := .i64) (rd_hd 0 rfl) (nbd ex9) rfl (by kernel_rfl) ts_44 ti_30 ?_
         exact wE (gl []) [] 1
        ·
         intro γ F
         refine WI.reH (H' := [rdV (Kd.sl Kd.u64) vp_b_1 p_b.A] ++ F) (by kernel_rfl) ?_
         refine w_ldR 0 0 rfl ex9 (by kernel_rfl) ti_30 rfl rfl ?_
         rintro v6
         exact wE (gl [v6]) [(0, true)] 2
        ·
         intro γ F
         refine WI.reH (H' := [rdV Kd.u64 (γ 18 0) x9] ++ F) (by kernel_rfl) ?_
         refine w_ix (k := .i64) (rd_hd 0 rfl) (nbd ex10) rfl (by kernel_rfl) ts_30 ti_22 ?_
         exact wE (gl []) [] 1
        ·
         intro γ F
         refine WI.reH (H' := [rdV Kd.u64 (γ 18 0) x9] ++ F) (by kernel_rfl) ?_
         refine w_ldR 0 0 rfl ex10 (by kernel_rfl) ti_22 rfl rfl ?_
         rintro _
         exact wE (gl []) [] 1
        ·
         intro γ F
         refine WI.reH (H' := [] ++ F) (by kernel_rfl) ?_
         refine w_fn [] (c_field_Mul er12) rfl fok_87 (by kernel_rfl) ?_
         rintro _ _ ⟨hv, rfl⟩; have hv := hv.symm; subst hv
         exact wE (gl []) [] 0
        ·
         intro γ F
         refine WI.reH (H' := [] ++ F) (by kernel_rfl) ?_
         refine w_fn [] (c_field_Add er13) rfl fok_89 (by kernel_rfl) ?_
         rintro _ _ ⟨hv, rfl⟩; have hv := hv.symm; subst hv
         exact wE (gl []) [] 0
       ·
        intro γ3
        refine qh_then ?_
        refine wh_seq ?_
        refine wh_seq ?_
        refine wh_region ?_
        refine w_p Tb_ok 2 (by kernel_rfl) ?_
        refine wi_end (by kernel_rfl) ?_
        refine qh_then ?_
        obtain ⟨x11, ej1, h25⟩ := bnd h24
        refine h_join (X := Unit) (fun g => [(0, (.pointer (some ⟨bp_n, 0, none⟩))), (6, (.pointer (some ⟨b2, 0, none⟩))), (9, (.pointer (some ⟨b3, 0, none⟩))), (13, (γ1 15 0)), (15, (th w14)), (16, .int .i64 ((k1 : Nat) : Int)), (17, .int .u64 x3), (18, .int .u64 x4), (19, .int .i64 ((k2 : Nat) : Int)), (20, .int .u64 x11), (64, .int .i64 ((r8.length : Nat) : Int)), (65, .int .i64 ((k1 : Nat) : Int)), (84, .int .i64 ((x5.length : Nat) : Int)), (85, .int .i64 ((k2 : Nat) : Int))]) (fun g => [blkP (.pointer (some ⟨bp_n, 0, none⟩)) 119 [.int .u64 p_n.zw.S.P, .int .i64 p_n.zw.S.N, .int .i64 p_n.zw.S.T, vp_n_1, vp_n_2, vp_n_3, .int .i64 r7.2.2.1, (th (γ1 15 2)), vp_n_5], rdV Kd.i64 vp_n_1 p_n.zw.Corrupt, rdV K_api_Deviation vp_n_2 p_n.zw.Deviations, rdV (Kd.sl Kd.u64) vp_n_3 p_n.zw.Tapes, treeV (rowK K_api_Event 67) 46 (th (γ1 15 2)) (tg (γ1 15 2)) r7.2.2.2, rdV Kd.any vp_n_5 p_n.ztapes, blkP (.pointer (some ⟨b2, 0, none⟩)) 101 [vp_b_1, vp_b_2, vp_b_3], rdV (Kd.sl Kd.u64) vp_b_1 p_b.A, rdV (Kd.sl Kd.u64) vp_b_2 p_b.B, rdV (Kd.sl Kd.u64) vp_b_3 p_b.C, blkP (.pointer (some ⟨b3, 0, none⟩)) 22 [.int .u64 r1.S.P], ownV (Kd.sl Kd.u64) 30 (γ1 15 0) r7.1, treeV (rowK Kd.u64 22) 30 (th w14) (tg w14) l3] ++ F) (fun _ => True) ?_ ?_
        ·
         rcases bcase ej1 with ⟨t1, h26⟩ | ⟨t1, h26⟩
         ·
          refine h_ct (b := (((k2 : Nat) : Int) == (0 : Int))) t1 (by kernel_rfl) ?_
          refine WH.ent (hd_add (tree_hdI (inP 6 rfl))) ?_
          refine WH.ent (hd_add (tree_hdI (inP 15 rfl))) ?_
          obtain ⟨r14, er14, h27⟩ := bnd h26
          obtain ⟨r15, er15, h28⟩ := bnd h27
          refine h_flow [0, 0, 0, 0, 0, 28, 63, 127] ⟨19, [0, 0, 0, 0, 0, 0, 0, 0], [], [(0, [(0, 14)]), (2, [(0, 14)])], []⟩ (fun γ => [.int .u64 r1.S.P, .int .u64 r13, .int .u64 r1.S.P, .int .u64 x3, .int .u64 x4, .int .u64 r14, .int .u64 r15, .int .u64 r15]) (fun _ _ => []) (fun γ => [hdP (th w14) l3.length, hdP (th (γ1 15 2)) r7.2.2.2.length, hdP (th w14) l3.length, hdP (th (γ1 15 2)) r7.2.2.2.length, blkP (.pointer (some ⟨bp_n, 0, none⟩)) 119 [.int .u64 p_n.zw.S.P, .int .i64 p_n.zw.S.N, .int .i64 p_n.zw.S.T, vp_n_1, vp_n_2, vp_n_3, .int .i64 r7.2.2.1, (th (γ1 15 2)), vp_n_5], rdV Kd.i64 vp_n_1 p_n.zw.Corrupt, rdV K_api_Deviation vp_n_2 p_n.zw.Deviations, rdV (Kd.sl Kd.u64) vp_n_3 p_n.zw.Tapes, treeV (rowK K_api_Event 67) 46 (th (γ1 15 2)) (tg (γ1 15 2)) r7.2.2.2, rdV Kd.any vp_n_5 p_n.ztapes, blkP (.pointer (some ⟨b2, 0, none⟩)) 101 [vp_b_1, vp_b_2, vp_b_3], rdV (Kd.sl Kd.u64) vp_b_1 p_b.A, rdV (Kd.sl Kd.u64) vp_b_2 p_b.B, rdV (Kd.sl Kd.u64) vp_b_3 p_b.C, blkP (.pointer (some ⟨b3, 0, none⟩)) 22 [.int .u64 r1.S.P], ownV (Kd.sl Kd.u64) 30 (γ1 15 0) r7.1, treeV (rowK Kd.u64 22) 30 (th w14) (tg w14) l3, rdV Kd.u64 (γ3 7 0) x7, rdV Kd.u64 (γ3 18 0) x9] ++ F) [1, 3, 4, 7] tryd_mix Tb_ok (by kernel_rfl) (by kernel_rfl) (fun _ => by kernel_rfl) (fun _ => by kernel_rfl) (fun _ => by kernel_rfl) (fun _ => by kernel_rfl) (fun _ => by kernel_rfl) (fun _ => by kernel_rfl) (fun _ => by kernel_rfl) ?_ ?_
          ·
           refine ⟨?_, ?_, ?_, ?_, trivial⟩
           ·
            intro γ F
            refine WI.reH (H' := [blkP (.pointer (some ⟨b3, 0, none⟩)) 22 [.int .u64 r1.S.P]] ++ F) (by kernel_rfl) ?_
            refine w_ldB 0 0 rfl (by kernel_rfl) ti_22 rfl rfl ?_
            exact wE (gl []) [(0, false)] 0
           ·
            intro γ F
            refine WI.reH (H' := [blkP (.pointer (some ⟨b3, 0, none⟩)) 22 [.int .u64 r1.S.P]] ++ F) (by kernel_rfl) ?_
            refine w_ldB 0 0 rfl (by kernel_rfl) ti_22 rfl rfl ?_
            exact wE (gl []) [(0, false)] 0
           ·
            intro γ F
            refine WI.reH (H' := [] ++ F) (by kernel_rfl) ?_
            refine w_fn [] (c_field_Mul er14) rfl fok_87 (by kernel_rfl) ?_
            rintro _ _ ⟨hv, rfl⟩; have hv := hv.symm; subst hv
            exact wE (gl []) [] 0
           ·
            intro γ F
            refine WI.reH (H' := [] ++ F) (by kernel_rfl) ?_
            refine w_fn [] (c_field_Add er15) rfl fok_89 (by kernel_rfl) ?_
            rintro _ _ ⟨hv, rfl⟩; have hv := hv.symm; subst hv
            exact wE (gl []) [] 0
          ·
           intro γ4
           cases h28
           exact q_join () trivial aK (tH [(4, false), (4, true), (5, true), (6, true), (7, false), (7, true), (8, false), (8, true), (9, true), (10, true), (11, false), (11, false), (11, false)] 13)
         ·
          refine h_cf (b := (((k2 : Nat) : Int) == (0 : Int))) t1 (by kernel_rfl) ?_
          refine wh_skip ?_
          cases h26
          exact q_join () trivial aK (tH [(2, false), (2, true), (3, true), (4, true), (5, false), (5, true), (6, false), (6, true), (7, true), (8, true), (9, false), (9, false), (9, false)] 11)
        ·
         rintro ⟨⟩ - j
         refine qh_then ?_
         refine WH.ent (hd_add (tree_hdI (inP 4 rfl))) ?_
         refine WH.ent (hd_add (tree_hdI (inP 13 rfl))) ?_
         obtain ⟨x12, ex12, h29⟩ := bnd h25
         obtain ⟨x13, ex13, h30⟩ := bnd h29
         obtain ⟨r16, er16, h31⟩ := bnd h30
         obtain ⟨l5, el5, h32⟩ := bnd h31
         obtain ⟨l6, el6, h33⟩ := bnd h32
         refine h_flow [0, 0, 3, 7, 0, 0, 0, 0, 192, 448, 0, 1984, 4032, 0, 16352, 32767, 65535] ⟨15, [0, 0, 0, 2, 0, 0, 0, 0, 0, 2, 0, 0, 0, 0, 0, 0, 1], [(16, [(0, 14)])], [(3, [(0, 14)]), (5, [(0, 12)]), (9, [(0, 14)]), (12, [(0, 14)])], [(2, [(0, 0)]), (8, [(0, 0)]), (11, [(10, 1)]), (12, [(10, 0)]), (15, [(4, 1)]), (16, [(4, 0)])]⟩ (fun γ => [(th w14), .int .i64 ((k1 : Nat) : Int), .pointer (some (elV (th w14) (k1 * 1))), (γ 3 0), .int .i64 ((k2 : Nat) : Int), .int .u64 r1.S.P, (th w14), .int .i64 ((k1 : Nat) : Int), .pointer (some (elV (th w14) (k1 * 1))), (γ 9 0), .int .i64 ((k2 : Nat) : Int), .pointer (some (elV (γ 9 0) (k2 * Kd.u64.size))), .int .u64 x13, .int .u64 x11, .int .u64 r16, .pointer (some (elV (γ 3 0) (k2 * Kd.u64.size))), undef]) (fun i γ => match i with | 3 => [fact ((tg w14)[k1]? = some (γ 3 0)), hdP (γ 3 0) x12.length] | 9 => [fact ((tg w14)[k1]? = some (γ 9 0)), hdP (γ 9 0) x12.length] | 16 => [treeV (rowK Kd.u64 22) 30 (th w14) (tg w14) l6] | _ => []) (fun γ => [hdP (th w14) l3.length, hdP (th (γ1 15 2)) r7.2.2.2.length, blkP (.pointer (some ⟨bp_n, 0, none⟩)) 119 [.int .u64 p_n.zw.S.P, .int .i64 p_n.zw.S.N, .int .i64 p_n.zw.S.T, vp_n_1, vp_n_2, vp_n_3, .int .i64 r7.2.2.1, (th (γ1 15 2)), vp_n_5], rdV Kd.i64 vp_n_1 p_n.zw.Corrupt, rdV K_api_Deviation vp_n_2 p_n.zw.Deviations, rdV (Kd.sl Kd.u64) vp_n_3 p_n.zw.Tapes, treeV (rowK K_api_Event 67) 46 (th (γ1 15 2)) (tg (γ1 15 2)) r7.2.2.2, rdV Kd.any vp_n_5 p_n.ztapes, blkP (.pointer (some ⟨b2, 0, none⟩)) 101 [vp_b_1, vp_b_2, vp_b_3], rdV (Kd.sl Kd.u64) vp_b_1 p_b.A, rdV (Kd.sl Kd.u64) vp_b_2 p_b.B, rdV (Kd.sl Kd.u64) vp_b_3 p_b.C, blkP (.pointer (some ⟨b3, 0, none⟩)) 22 [.int .u64 r1.S.P], ownV (Kd.sl Kd.u64) 30 (γ1 15 0) r7.1, fact ((tg w14)[k1]? = some (γ 3 0)), hdP (γ 3 0) x12.length, fact ((tg w14)[k1]? = some (γ 9 0)), hdP (γ 9 0) x12.length, treeV (rowK Kd.u64 22) 30 (th w14) (tg w14) l6] ++ F) [0, 1, 4, 6, 7, 10, 13] tryd_mix Tb_ok (by kernel_rfl) (by kernel_rfl) (fun _ => by kernel_rfl) (fun _ => by kernel_rfl) (fun _ => by kernel_rfl) (fun _ => by kernel_rfl) (fun _ => by kernel_rfl) (fun _ => by kernel_rfl) (fun _ => by kernel_rfl) ?_ ?_
         ·
          refine ⟨?_, ?_, ?_, ?_, ?_, ?_, ?_, ?_, ?_, ?_, trivial⟩
          ·
           intro γ F
           refine WI.reH (H' := [hdP (th w14) l3.length] ++ F) (by kernel_rfl) ?_
           refine w_ix (k := .i64) (hdI 0 rfl) (nbd ex12) rfl (by kernel_rfl) ts_44 ti_30 ?_
           exact wE (gl []) [] 1
          ·
           intro γ F
           refine WI.reH (H' := [treeV (rowK Kd.u64 22) 30 (th w14) (tg w14) l3] ++ F) (by kernel_rfl) ?_
           refine w_ldN rs_row (inP 0 rfl) ex12 (by kernel_rfl) ti_30 (fun g2 => ?_)
           exact wE (gl [g2]) [(0, true), (1, true), (2, false)] 2
          ·
           intro γ F
           refine WI.reH (H' := [blkP (.pointer (some ⟨b3, 0, none⟩)) 22 [.int .u64 r1.S.P]] ++ F) (by kernel_rfl) ?_
           refine w_ldB 0 0 rfl (by kernel_rfl) ti_22 rfl rfl ?_
           exact wE (gl []) [(0, false)] 0
          ·
           intro γ F
           refine WI.reH (H' := [hdP (th w14) l3.length] ++ F) (by kernel_rfl) ?_
           refine w_ix (k := .i64) (hdI 0 rfl) (nbd ex12) rfl (by kernel_rfl) ts_44 ti_30 ?_
           exact wE (gl []) [] 1
          ·
           intro γ F
           refine WI.reH (H' := [treeV (rowK Kd.u64 22) 30 (th w14) (tg w14) l3] ++ F) (by kernel_rfl) ?_
           refine w_ldN rs_row (inP 0 rfl) ex12 (by kernel_rfl) ti_30 (fun g3 => ?_)
           exact wE (gl [g3]) [(0, true), (1, true), (2, false)] 2
          ·
           intro γ F
           refine WI.reH (H' := [hdP (γ 9 0) x12.length] ++ F) (by kernel_rfl) ?_
           refine w_ix (k := .i64) (hdI 0 rfl) (nbd ex13) rfl (by kernel_rfl) ts_30 ti_22 ?_
           exact wE (gl []) [] 1
          ·
           intro γ F
           refine WI.reH (H' := [treeV (rowK Kd.u64 22) 30 (th w14) (tg w14) l3, fact ((tg w14)[k1]? = some (γ 9 0))] ++ F) (by kernel_rfl) ?_
           refine WI.fact 1 rfl (fun hg1 => ?_)
           refine w_ldI (kd := Kd.u64) (e := 22) (v := (γ 9 0)) (xs := x12) (m := k2) 0 (inRow (R := (rowK Kd.u64 22)) (inP 0 rfl) hg1 ex12) ex13 (by kernel_rfl) ti_22 rfl rfl ?_
           rintro _
           exact wE (gl []) [(0, false)] 1
          ·
           intro γ F
           refine WI.reH (H' := [] ++ F) (by kernel_rfl) ?_
           refine w_fn [] (c_field_Sub er16) rfl fok_86 (by kernel_rfl) ?_
           rintro _ _ ⟨hv, rfl⟩; have hv := hv.symm; subst hv
           exact wE (gl []) [] 0
          ·
           intro γ F
           refine WI.reH (H' := [hdP (γ 3 0) x12.length] ++ F) (by kernel_rfl) ?_
           refine w_ix (k := .i64) (hdI 0 rfl) (nbd ex13) rfl (by kernel_rfl) ts_30 ti_22 ?_
           exact wE (gl []) [] 1
          ·
           intro γ F
           refine WI.reH (H' := [treeV (rowK Kd.u64 22) 30 (th w14) (tg w14) l3, fact ((tg w14)[k1]? = some (γ 3 0))] ++ F) (by kernel_rfl) ?_
           refine WI.fact 1 rfl (fun hg2 => ?_)
           refine w_stT (kd := Kd.u64) (w := .int .u64 r16) (m := k1) (k := k2) (y0 := r16) 0 () rfl hg2 ex12 (nbd ex13) (sinj el5) (sinj el6) (by kernel_rfl) ti_22 (cv0 (by kernel_rfl)) (it0 rfl) ?_
           exact wE (gl []) [(0, false)] 1
         ·
          intro γ5
          refine qh_block_normal ?_
          refine qh_then ?_
          refine wh_region ?_
          refine w_bi (zinc hk2 hN2) (by kernel_rfl) ?_
          refine w_p Tb_ok 1 (by kernel_rfl) ?_
          refine wi_end (by kernel_rfl) ?_
          have h33 := Option.some.inj h33; subst h33
          exact q_rs () hn2 aK (tH [(2, false), (2, true), (3, true), (4, true), (5, false), (5, true), (6, false), (6, true), (7, true), (8, true), (9, false), (9, false), (13, false)] 13)
     ·
      rintro ⟨⟩ - j
      refine qh_block_normal ?_
      refine qh_then ?_
      refine wh_region ?_
      refine w_bi (zinc hk1 hN1) (by kernel_rfl) ?_
      refine w_p Tb_ok 1 (by kernel_rfl) ?_
      refine wi_end (by kernel_rfl) ?_
      have h16 := Option.some.inj h16; subst h16
      exact q_rs () hn1 aK (tH [(0, false), (0, true), (1, true), (2, true), (3, false), (3, true), (4, false), (4, true), (5, true), (6, true), (7, false), (7, false), (7, false)] 7)
  ·
   rintro ⟨⟩ - j
   refine qh_then ?_
   refine wh_seq ?_
   refine wh_region ?_
   refine w_p Tb_ok 2 (by kernel_rfl) ?_
   refine WI.ent (tr_frz fz_row 6 rfl) ?_
   refine w_lt (kd := (Kd.sl (Kd.sl Kd.u64))) (t := 40) (len := 1) (ps0 := [(0, (th w14))]) (ps := [(0, .agg #[(th w14)])]) ([l2] : List (List (List Nat))) _ (rowC (x := l2) (g := (th w14)) (itS 0 rfl) row0) (scS (rd_hd 0 rfl) sc0) (by kernel_rfl) ts_40 ti_44 (by kernel_rfl) rfl rfl (fun v7 => ?_)
   refine WI.ent (frzAt 0 rfl) ?_
   obtain ⟨r17, er17, h34⟩ := bnd h9
   refine w_fn [(0, true)] (c_triplestore_first er17) rfl fok_84 (by kernel_rfl) ?_
   rintro _ _ ⟨w21, hv, rfl⟩; have hv := hv.symm; subst hv
   refine WI.ent (frzAt 0 rfl) ?_
   obtain ⟨r18, er18, h35⟩ := bnd h34
   refine w_fn [(3, false), (3, true), (4, true), (5, true), (6, false), (6, true), (0, true)] (c_reconstruct_Values er18) rfl fok_38 (by kernel_rfl) ?_
   rintro _ _ ⟨w22, w23, w25, hv, rfl⟩; have hv := hv.symm; subst hv
   refine w_p Tb_ok 5 (by kernel_rfl) ?_
   refine wi_end (by kernel_rfl) ?_
   refine qh_then ?_
   refine wh_seq ?_
   refine wh_region ?_
   refine w_p Tb_ok 1 (by kernel_rfl) ?_
   refine wi_end (by kernel_rfl) ?_
   refine qh_then ?_
   refine wh_seq ?_
   refine wh_seq ?_
   refine wh_region ?_
   refine w_p Tb_ok 1 (by kernel_rfl) ?_
   refine w_len (own_hd 0 rfl) (by kernel_rfl) ts_27 ?_
   refine w_p Tb_ok 1 (by kernel_rfl) ?_
   refine wi_end (by kernel_rfl) ?_
   refine qh_then ?_
   refine WH.ent (ownNil (kd := Kd.bool) (e := 4)) ?_
   refine h_lenle (own_lenle 1 rfl) (fun hN3 => ?_)
   obtain ⟨l8, el3, h36⟩ := bnd h35
   refine h_join (X := Value) (fun g => [(23, g)]) (fun g => [ownV Kd.bool 4 g l8, blkP (.pointer (some ⟨bp_n, 0, none⟩)) 119 [.int .u64 p_n.zw.S.P, .int .i64 p_n.zw.S.N, .int .i64 p_n.zw.S.T, vp_n_1, vp_n_2, vp_n_3, .int .i64 r18.2.2.1, (th w25), vp_n_5], rdV Kd.i64 vp_n_1 p_n.zw.Corrupt, rdV K_api_Deviation vp_n_2 p_n.zw.Deviations, rdV (Kd.sl Kd.u64) vp_n_3 p_n.zw.Tapes, treeV (rowK K_api_Event 67) 46 (th w25) (tg w25) r18.2.2.2, rdV Kd.any vp_n_5 p_n.ztapes] ++ F) (fun _ => True) ?_ ?_
   ·
    refine wh_block ?_
    refine h_rs (fun (k3 : Nat) (st : (List Bool)) (g : Value) => [(21, w22), (23, g), (148, .int .i64 ((r18.1.length : Nat) : Int)), (149, .int .i64 ((k3 : Nat) : Int))]) (fun (k3 : Nat) (st : (List Bool)) (g : Value) => [ownV (Kd.sl Kd.u64) 30 w22 r18.1, ownV Kd.bool 4 g st, blkP (.pointer (some ⟨bp_n, 0, none⟩)) 119 [.int .u64 p_n.zw.S.P, .int .i64 p_n.zw.S.N, .int .i64 p_n.zw.S.T, vp_n_1, vp_n_2, vp_n_3, .int .i64 r18.2.2.1, (th w25), vp_n_5], rdV Kd.i64 vp_n_1 p_n.zw.Corrupt, rdV K_api_Deviation vp_n_2 p_n.zw.Deviations, rdV (Kd.sl Kd.u64) vp_n_3 p_n.zw.Tapes, treeV (rowK K_api_Event 67) 46 (th w25) (tg w25) r18.2.2.2, rdV Kd.any vp_n_5 p_n.ztapes] ++ F) (.slice none 0 0) el3 (Nat.zero_le _) aK (tH [(1, false), (0, false), (1, false), (5, true), (6, true), (7, true), (1, false), (7, true)] 8) ?_ ?_
    ·
     rintro g6 j
     refine wh_seq ?_
     refine wh_region ?_
     refine w_p Tb_ok 1 (by kernel_rfl) ?_
     refine wi_end (by kernel_rfl) ?_
     refine qh_then ?_
     refine wh_seq ?_
     refine h_cf (b := (decide ((((r18.1.length) : Nat) : Int) < ((r18.1.length : Nat) : Int)))) rgF (by kernel_rfl) ?_
     refine wh_exit ?_
     refine qh_then_exit ?_
     refine q_rzX ?_
     refine qh_block_exit ?_
     exact q_join g6 trivial aK (tH [(1, false), (1, false), (1, true), (2, true), (3, true), (4, false), (4, true)] 5)
    ·
     rintro rem k3 l7 g4 o3 hk3 h37 hn3 j
     have h37 : triplestore_Verify_L2 r18 k3 l7 = some o3 := h37
     unfold triplestore_Verify_L2 at h37
     refine wh_seq ?_
     refine wh_region ?_
     refine w_p Tb_ok 1 (by kernel_rfl) ?_
     refine wi_end (by kernel_rfl) ?_
     refine qh_then ?_
     refine wh_seq ?_
     refine h_ct (b := (decide (((k3 : Nat) : Int) < ((r18.1.length : Nat) : Int)))) (rgT hk3) (by kernel_rfl) ?_
     refine wh_skip ?_
     refine qh_then ?_
     refine wh_seq ?_
     refine wh_block ?_
     refine wh_seq ?_
     refine wh_region ?_
     refine w_p Tb_ok 2 (by kernel_rfl) ?_
     refine wi_end (by kernel_rfl) ?_
     refine qh_then ?_
     refine wh_region ?_
     refine w_p Tb_ok 3 (by kernel_rfl) ?_
     obtain ⟨x15, ex15, h38⟩ := bnd h37
     refine w_ix (k := .i64) (own_hd 0 rfl) (nbd ex15) rfl (by kernel_rfl) ts_27 ti_30 ?_
     refine w_ldO 0 0 rfl ex15 (by kernel_rfl) ti_30 rfl rfl ?_
     rintro v8
     obtain ⟨x16, ex16, h39⟩ := bnd h38
     refine w_ix (k := .i64) (rd_hd 0 rfl) (nbd ex16) rfl (by kernel_rfl) ts_30 ti_22 ?_
     refine w_ldR 0 0 rfl ex16 (by kernel_rfl) ti_22 rfl rfl ?_
     rintro _
     refine w_p Tb_ok 1 (by kernel_rfl) ?_
     refine w_lt (kd := Kd.bool) (t := 98) (len := 1) (ps0 := [(0, .bool (((x16 : Nat) : Int) == (0 : Int)))]) (ps := [(0, .bool (((x16 : Nat) : Int) == (0 : Int)))]) ([((x16 : Nat) : Int) == (0 : Int)] : List Bool) _ (rowC (x := ((x16 : Nat) : Int) == (0 : Int)) (g := ()) (it0 rfl) row0) (scI sc0) (by kernel_rfl) ts_98 ti_4 (by kernel_rfl) rfl rfl (fun v9 => ?_)
     obtain ⟨l9, el9, h40⟩ := bnd h39
     refine w_app 3 rfl (own_src 0 rfl) el9 (by kernel_rfl) ts_98 ti_4 rfl (fun v10 => ?_)
     refine w_p Tb_ok 1 (by kernel_rfl) ?_
     refine wi_end (by kernel_rfl) ?_
     refine qh_block_normal ?_
     refine qh_then ?_
     refine wh_region ?_
     refine w_bi (zinc hk3 hN3) (by kernel_rfl) ?_
     refine w_p Tb_ok 1 (by kernel_rfl) ?_
     refine wi_end (by kernel_rfl) ?_
     have h40 := Option.some.inj h40; subst h40
     exact q_rs v10 hn3 aK (tH [(3, false), (0, false), (2, false), (2, true), (3, true), (4, true), (5, false), (5, true)] 6)
   ·
    rintro g5 - j
    refine qh_then ?_
    refine wh_seq ?_
    refine wh_region ?_
    refine w_p Tb_ok 2 (by kernel_rfl) ?_
    refine wi_end (by kernel_rfl) ?_
    refine qh_then ?_
    refine wh_ret ?_
    have h36 := Option.some.inj h36; subst h36
    exact q_end (l := [g5]) [(0, false), (0, false), (3, false)] 4 ⟨g5, (tw (th w25) (tg w25)), rfl, rfl⟩ (.inl rfl) (by kernel_rfl) (by kernel_rfl) (by kernel_rfl)
theorem c_network_Net_Rounds {p_n : T_network_Net} {bp_n : Nat} {vp_n_1 : Value} {vp_n_2 : Value} {vp_n_3 : Value} {vp_n_4 : Value} {vp_n_5 : Value} {r : Int} (h : network_Net_Rounds p_n = some r) : Ct Tryd.prog 29 [(.pointer (some ⟨bp_n, 0, none⟩))] [blkP (.pointer (some ⟨bp_n, 0, none⟩)) 119 [.int .u64 p_n.zw.S.P, .int .i64 p_n.zw.S.N, .int .i64 p_n.zw.S.T, vp_n_1, vp_n_2, vp_n_3, .int .i64 p_n.zround, (th vp_n_4), vp_n_5], rdV Kd.i64 vp_n_1 p_n.zw.Corrupt, rdV K_api_Deviation vp_n_2 p_n.zw.Deviations, rdV (Kd.sl Kd.u64) vp_n_3 p_n.zw.Tapes, treeV (rowK K_api_Event 67) 46 (th vp_n_4) (tg vp_n_4) p_n.zviews, rdV Kd.any vp_n_5 p_n.ztapes] (fun v L => v = .int .i64 r ∧ L = [blkP (.pointer (some ⟨bp_n, 0, none⟩)) 119 [.int .u64 p_n.zw.S.P, .int .i64 p_n.zw.S.N, .int .i64 p_n.zw.S.T, vp_n_1, vp_n_2, vp_n_3, .int .i64 p_n.zround, (th vp_n_4), vp_n_5], treeV (rowK K_api_Event 67) 46 (th vp_n_4) (tg vp_n_4) p_n.zviews]) := by
 refine ct_intro Tryd.func29 rfl (by kernel_rfl) (fun F => ?_)
 unfold network_Net_Rounds at h
 refine wh_seq ?_
 refine wh_region ?_
 refine w_p Tb_ok 1 (by kernel_rfl) ?_
 refine wi_end (by kernel_rfl) ?_
 refine qh_then ?_
 refine wh_seq ?_
 refine wh_region ?_
 refine w_p Tb_ok 3 (by kernel_rfl) ?_
 refine w_ldB 0 6 rfl (by kernel_rfl) ti_3 rfl rfl ?_
 refine w_p Tb_ok 1 (by kernel_rfl) ?_
 refine wi_end (by kernel_rfl) ?_
 refine qh_then ?_
 refine wh_ret ?_
 have h := Option.some.inj h; subst h
 exact q_end (l := [.int .i64 p_n.zround]) [(0, false), (3, false)] 4 ⟨rfl, rfl⟩ (.inl rfl) (by kernel_rfl) (by kernel_rfl) (by kernel_rfl)
theorem c_privitylaw25_awake  {r : Bool} (h : privitylaw25_awake = some r) : Ct Tryd.prog 49 [] [exF] (fun v L => v = .bool r ∧ L = []) := by
 refine ct_intro Tryd.func49 rfl (by kernel_rfl) (fun F => ?_)
 unfold privitylaw25_awake at h
 refine wh_seq ?_
 refine wh_region ?_
 refine w_p Tb_ok 1 (by kernel_rfl) ?_
 refine wi_end (by kernel_rfl) ?_
 refine qh_then ?_
 refine wh_seq ?_
 refine wh_region ?_
 obtain ⟨r1, er1, h1⟩ := bnd h
 refine w_fn [] (c_privitylaw25_three er1) rfl fok_77 (by kernel_rfl) ?_
 rintro _ _ ⟨w1_0, hv, rfl⟩; have hv := hv.symm; subst hv
 obtain ⟨r2, er2, h2⟩ := bnd h1
 refine w_fn [(0, true)] (c_triplestore_Take er2) rfl fok_51 (by kernel_rfl) ?_
 rintro _ _ ⟨w2, w3_0, hv, rfl⟩; have hv := hv.symm; subst hv
 refine w_p Tb_ok 4 (by kernel_rfl) ?_
 refine w_al (by kernel_rfl) ti_81 (fun q1 => ?_)
 refine WI.hd (y := blkP q1 81 [(.slice none 0 0), .int .i64 ((0 : Nat) : Int)]) (by kernel_rfl) ?_
 refine w_opP 0 rfl (fun b1 hb => ?_)
 subst hb
 refine w_p Tb_ok 1 (by kernel_rfl) ?_
 refine w_stB (v := .agg #[w3_0, .int .i64 r2.2.1.Used]) (off := 0) (cs := [w3_0, .int .i64 r2.2.1.Used]) 0 rfl (cv0 (by kernel_rfl)) (by kernel_rfl) ti_81 rfl rfl (oC (sl_one (rd_hd 2 rfl)) (oC (fun _ _ => rfl) oN)) ?_
 refine WI.hd (y := blkP (.pointer (some ⟨b1, 0, none⟩)) 81 [w3_0, .int .i64 r2.2.1.Used]) (by kernel_rfl) ?_
 refine w_p Tb_ok 1 (by kernel_rfl) ?_
 refine wi_end (by kernel_rfl) ?_
 refine qh_then ?_
 refine wh_seq ?_
 refine wh_region ?_
 refine w_ldB 0 0 rfl (by kernel_rfl) ti_81 rfl rfl ?_
 obtain ⟨r3, er3, h3⟩ := bnd h2
 refine w_fn [(2, true)] (c_triplestore_Take er3) rfl fok_51 (by kernel_rfl) ?_
 rintro _ _ ⟨w5, w6_0, hv, rfl⟩; have hv := hv.symm; subst hv
 refine w_p Tb_ok 4 (by kernel_rfl) ?_
 refine w_al (by kernel_rfl) ti_81 (fun q2 => ?_)
 refine WI.hd (y := blkP q2 81 [(.slice none 0 0), .int .i64 ((0 : Nat) : Int)]) (by kernel_rfl) ?_
 refine w_opP 0 rfl (fun b2 hb => ?_)
 subst hb
 refine w_p Tb_ok 1 (by kernel_rfl) ?_
 refine w_stB (v := .agg #[w6_0, .int .i64 r3.2.1.Used]) (off := 0) (cs := [w6_0, .int .i64 r3.2.1.Used]) 0 rfl (cv0 (by kernel_rfl)) (by kernel_rfl) ti_81 rfl rfl (oC (sl_one (rd_hd 2 rfl)) (oC (fun _ _ => rfl) oN)) ?_
 refine WI.hd (y := blkP (.pointer (some ⟨b2, 0, none⟩)) 81 [w6_0, .int .i64 r3.2.1.Used]) (by kernel_rfl) ?_
 refine w_p Tb_ok 1 (by kernel_rfl) ?_
 refine wi_end (by kernel_rfl) ?_
 refine qh_then ?_
 refine wh_seq ?_
 refine wh_region ?_
 refine w_ldB 3 0 rfl (by kernel_rfl) ti_81 rfl rfl ?_
 obtain ⟨r4, er4, h4⟩ := bnd h3
 refine w_fn [(5, true)] (c_triplestore_Take er4) rfl fok_51 (by kernel_rfl) ?_
 rintro _ _ ⟨w8, w9_0, hv, rfl⟩; have hv := hv.symm; subst hv
 refine w_p Tb_ok 4 (by kernel_rfl) ?_
 refine w_al (by kernel_rfl) ti_81 (fun q3 => ?_)
 refine WI.hd (y := blkP q3 81 [(.slice none 0 0), .int .i64 ((0 : Nat) : Int)]) (by kernel_rfl) ?_
 refine w_opP 0 rfl (fun b3 hb => ?_)
 subst hb
 refine w_p Tb_ok 1 (by kernel_rfl) ?_
 refine w_stB (v := .agg #[w9_0, .int .i64 r4.2.1.Used]) (off := 0) (cs := [w9_0, .int .i64 r4.2.1.Used]) 0 rfl (cv0 (by kernel_rfl)) (by kernel_rfl) ti_81 rfl rfl (oC (sl_one (rd_hd 2 rfl)) (oC (fun _ _ => rfl) oN)) ?_
 refine WI.hd (y := blkP (.pointer (some ⟨b3, 0, none⟩)) 81 [w9_0, .int .i64 r4.2.1.Used]) (by kernel_rfl) ?_
 refine w_p Tb_ok 1 (by kernel_rfl) ?_
 refine wi_end (by kernel_rfl) ?_
 refine qh_then ?_
 refine wh_seq ?_
 refine wh_region ?_
 refine w_bd (v := .agg #[.int .u64 ((31 : Nat) : Int), .int .i64 ((4 : Nat) : Int), .int .i64 ((1 : Nat) : Int)]) (t := 24) (ps0 := [(0, .int .u64 ((31 : Nat) : Int)), (1, .int .i64 ((4 : Nat) : Int)), (2, .int .i64 ((1 : Nat) : Int))]) (ps := [(0, .int .u64 ((31 : Nat) : Int)), (1, .int .i64 ((4 : Nat) : Int)), (2, .int .i64 ((1 : Nat) : Int))]) (scI (scI (scI sc0))) (by kernel_rfl) (fun w => by kernel_rfl) ?_
 refine w_al (by kernel_rfl) ti_24 (fun q4 => ?_)
 refine WI.hd (y := blkP q4 24 [.int .u64 ((0 : Nat) : Int), .int .i64 ((0 : Nat) : Int), .int .i64 ((0 : Nat) : Int)]) (by kernel_rfl) ?_
 refine w_opP 0 rfl (fun b4 hb => ?_)
 subst hb
 refine w_stB (v := .agg #[.int .u64 ((31 : Nat) : Int), .int .i64 ((4 : Nat) : Int), .int .i64 ((1 : Nat) : Int)]) (off := 0) (cs := [.int .u64 ((31 : Nat) : Int), .int .i64 ((4 : Nat) : Int), .int .i64 ((1 : Nat) : Int)]) 0 rfl (cv0 (by kernel_rfl)) (by kernel_rfl) ti_24 rfl rfl (oC (fun _ _ => rfl) (oC (fun _ _ => rfl) (oC (fun _ _ => rfl) oN))) ?_
 refine WI.hd (y := blkP (.pointer (some ⟨b4, 0, none⟩)) 24 [.int .u64 ((31 : Nat) : Int), .int .i64 ((4 : Nat) : Int), .int .i64 ((1 : Nat) : Int)]) (by kernel_rfl) ?_
 refine wi_end (by kernel_rfl) ?_
 refine qh_then ?_
 refine wh_seq ?_
 obtain ⟨l1, el1, h5⟩ := bnd h4
 obtain ⟨r5, er5, h6⟩ := bnd h5
 rcases r5 with r6 | r7
 ·
  have h7 := sumL h6
  refine h_flow [0, 0, 3, 7, 15, 31, 31, 63, 255] ⟨12, [0, 2, 0, 2, 0, 0, 0, 0, 0], [], [(0, [(0, 0)])], [(2, [(2, 0)]), (3, [(2, 0), (0, 11)])]⟩ (fun γ => [.agg #[.int .u64 ((31 : Nat) : Int), .int .i64 ((4 : Nat) : Int), .int .i64 ((1 : Nat) : Int)], (γ 1 0), .agg #[.int .u64 ((31 : Nat) : Int), .int .i64 ((4 : Nat) : Int), .int .i64 ((1 : Nat) : Int), (.slice none 0 0), (.slice none 0 0), (γ 1 0)], .tuple #[(.pointer none), .int .i64 ((1 : Nat) : Int)], .tuple #[(.pointer none), .int .i64 ((1 : Nat) : Int)], (.pointer none), .int .i64 ((1 : Nat) : Int), (.pointer none), .int .i64 ((1 : Nat) : Int)]) (fun i γ => match i with | 1 => [rdV (Kd.sl Kd.u64) (γ 1 0) l1, rdV Kd.u64 (.slice none 0 0) ([] : List Nat)] | 3 => [rdV K_api_Deviation (.slice none 0 0) ([] : List T_api_Deviation), rdV Kd.i64 (.slice none 0 0) ([] : List Int)] | _ => []) (fun γ => [blkP (.pointer (some ⟨b4, 0, none⟩)) 24 [.int .u64 ((31 : Nat) : Int), .int .i64 ((4 : Nat) : Int), .int .i64 ((1 : Nat) : Int)], blkP (.pointer (some ⟨b3, 0, none⟩)) 81 [w9_0, .int .i64 r4.2.1.Used], rdV K_api_Triple w8 r4.1, rdV K_api_Triple w9_0 r4.2.1.Made, blkP (.pointer (some ⟨b2, 0, none⟩)) 81 [w6_0, .int .i64 r3.2.1.Used], rdV K_api_Triple w5 r3.1, rdV K_api_Triple w6_0 r3.2.1.Made, blkP (.pointer (some ⟨b1, 0, none⟩)) 81 [w3_0, .int .i64 r2.2.1.Used], rdV K_api_Triple w2 r2.1, rdV K_api_Triple w3_0 r2.2.1.Made, rdV K_api_Triple w1_0 r1.Made, exF, rdV (Kd.sl Kd.u64) (γ 1 0) l1, rdV Kd.u64 (.slice none 0 0) ([] : List Nat), rdV K_api_Deviation (.slice none 0 0) ([] : List T_api_Deviation), rdV Kd.i64 (.slice none 0 0) ([] : List Int)] ++ F) [4, 5, 6, 7, 8] tryd_mix Tb_ok (by kernel_rfl) (by kernel_rfl) (fun _ => by kernel_rfl) (fun _ => by kernel_rfl) (fun _ => by kernel_rfl) (fun _ => by kernel_rfl) (fun _ => by kernel_rfl) (fun _ => by kernel_rfl) (fun _ => by kernel_rfl) ?_ ?_
  ·
   refine ⟨?_, ?_, ?_, ?_, trivial⟩
   ·
    intro γ F
    refine WI.reH (H' := [blkP (.pointer (some ⟨b4, 0, none⟩)) 24 [.int .u64 ((31 : Nat) : Int), .int .i64 ((4 : Nat) : Int), .int .i64 ((1 : Nat) : Int)]] ++ F) (by kernel_rfl) ?_
    refine w_ldB 0 0 rfl (by kernel_rfl) ti_24 rfl rfl ?_
    exact wE (gl []) [(0, false)] 0
   ·
    intro γ F
    refine WI.reH (H' := [] ++ F) (by kernel_rfl) ?_
    refine WI.ent (rdNil (kd := Kd.u64)) ?_
    refine w_mk (kd := (Kd.sl Kd.u64)) (kl := .i64) (kc := .i64) (.slice none 0 0) el1 (by kernel_rfl) ts_27 ti_30 rfl (by kernel_rfl) (itS 0 rfl) (fun v1 => ?_)
    refine WI.ent (frzAt 0 rfl) ?_
    exact wE (gl [v1]) [(0, true), (1, true)] 2
   ·
    intro γ F
    refine WI.reH (H' := [rdV (Kd.sl Kd.u64) (γ 1 0) l1] ++ F) (by kernel_rfl) ?_
    refine w_bd (v := .agg #[.int .u64 ((31 : Nat) : Int), .int .i64 ((4 : Nat) : Int), .int .i64 ((1 : Nat) : Int), (.slice none 0 0), (.slice none 0 0), (γ 1 0)]) (t := 29) (ps0 := [(0, .agg #[.int .u64 ((31 : Nat) : Int), .int .i64 ((4 : Nat) : Int), .int .i64 ((1 : Nat) : Int)]), (3, (γ 1 0))]) (ps := [(0, .agg #[.int .u64 ((31 : Nat) : Int), .int .i64 ((4 : Nat) : Int), .int .i64 ((1 : Nat) : Int)]), (3, .agg #[(γ 1 0)])]) (scI (scS (rd_hd 0 rfl) sc0)) (by kernel_rfl) (fun w => by kernel_rfl) ?_
    exact wE (gl []) [] 1
   ·
    intro γ F
    refine WI.reH (H' := [rdV (Kd.sl Kd.u64) (γ 1 0) l1, exF] ++ F) (by kernel_rfl) ?_
    refine WI.ent (rdNil (kd := Kd.i64)) ?_
    refine WI.ent (rdNil (kd := K_api_Deviation)) ?_
    refine w_fn [(1, true), (0, true), (2, true), (3, true)] (c_network_New er5) rfl fok_56 (by kernel_rfl) ?_
    rintro _ _ ⟨hv, rfl⟩; have hv := hv.symm; subst hv
    exact wE (gl []) [(0, true), (1, true)] 4
  ·
   intro γ1
   refine qh_then ?_
   refine wh_seq ?_
   refine wh_seq ?_
   refine wh_region ?_
   refine w_p Tb_ok 2 (by kernel_rfl) ?_
   refine wi_end (by kernel_rfl) ?_
   refine qh_then ?_
   refine h_ct (b := true) rfl (by kernel_rfl) ?_
   refine wh_seq ?_
   refine wh_region ?_
   refine w_p Tb_ok 1 (by kernel_rfl) ?_
   refine wi_end (by kernel_rfl) ?_
   refine qh_then ?_
   refine wh_ret ?_
   refine qh_then_ret ?_
   have h7 := Option.some.inj h7; subst h7
   exact q_end (l := [.bool false]) [] 16 ⟨rfl, rfl⟩ (.inl rfl) (by kernel_rfl) (by kernel_rfl) (by kernel_rfl)
 ·
  have h8 := sumR h6
  refine h_flow [0, 0, 3, 7, 15, 31, 31, 63, 255] ⟨12, [0, 2, 0, 8, 0, 0, 0, 0, 0], [], [(0, [(0, 0)])], [(2, [(2, 0)]), (3, [(2, 0), (0, 11)])]⟩ (fun γ => [.agg #[.int .u64 ((31 : Nat) : Int), .int .i64 ((4 : Nat) : Int), .int .i64 ((1 : Nat) : Int)], (γ 1 0), .agg #[.int .u64 ((31 : Nat) : Int), .int .i64 ((4 : Nat) : Int), .int .i64 ((1 : Nat) : Int), (.slice none 0 0), (.slice none 0 0), (γ 1 0)], .tuple #[(γ 3 0), .int .i64 ((0 : Nat) : Int)], .tuple #[(γ 3 0), .int .i64 ((0 : Nat) : Int)], (γ 3 0), .int .i64 ((0 : Nat) : Int), (γ 3 0), .int .i64 ((0 : Nat) : Int)]) (fun i γ => match i with | 1 => [rdV (Kd.sl Kd.u64) (γ 1 0) l1, rdV Kd.u64 (.slice none 0 0) ([] : List Nat)] | 3 => [blkP (γ 3 0) 119 [.int .u64 r7.zw.S.P, .int .i64 r7.zw.S.N, .int .i64 r7.zw.S.T, (γ 3 1), (γ 3 2), (γ 3 3), .int .i64 r7.zround, (th (γ 3 4)), (γ 3 5)], rdV Kd.i64 (γ 3 1) r7.zw.Corrupt, rdV K_api_Deviation (γ 3 2) r7.zw.Deviations, rdV (Kd.sl Kd.u64) (γ 3 3) r7.zw.Tapes, treeV (rowK K_api_Event 67) 46 (th (γ 3 4)) (tg (γ 3 4)) r7.zviews, ownV Kd.any 137 (γ 3 5) r7.ztapes, rdV K_api_Deviation (.slice none 0 0) ([] : List T_api_Deviation), rdV Kd.i64 (.slice none 0 0) ([] : List Int)] | _ => []) (fun γ => [blkP (.pointer (some ⟨b4, 0, none⟩)) 24 [.int .u64 ((31 : Nat) : Int), .int .i64 ((4 : Nat) : Int), .int .i64 ((1 : Nat) : Int)], blkP (.pointer (some ⟨b3, 0, none⟩)) 81 [w9_0, .int .i64 r4.2.1.Used], rdV K_api_Triple w8 r4.1, rdV K_api_Triple w9_0 r4.2.1.Made, blkP (.pointer (some ⟨b2, 0, none⟩)) 81 [w6_0, .int .i64 r3.2.1.Used], rdV K_api_Triple w5 r3.1, rdV K_api_Triple w6_0 r3.2.1.Made, blkP (.pointer (some ⟨b1, 0, none⟩)) 81 [w3_0, .int .i64 r2.2.1.Used], rdV K_api_Triple w2 r2.1, rdV K_api_Triple w3_0 r2.2.1.Made, rdV K_api_Triple w1_0 r1.Made, exF, rdV (Kd.sl Kd.u64) (γ 1 0) l1, rdV Kd.u64 (.slice none 0 0) ([] : List Nat), blkP (γ 3 0) 119 [.int .u64 r7.zw.S.P, .int .i64 r7.zw.S.N, .int .i64 r7.zw.S.T, (γ 3 1), (γ 3 2), (γ 3 3), .int .i64 r7.zround, (th (γ 3 4)), (γ 3 5)], rdV Kd.i64 (γ 3 1) r7.zw.Corrupt, rdV K_api_Deviation (γ 3 2) r7.zw.Deviations, rdV (Kd.sl Kd.u64) (γ 3 3) r7.zw.Tapes, treeV (rowK K_api_Event 67) 46 (th (γ 3 4)) (tg (γ 3 4)) r7.zviews, ownV Kd.any 137 (γ 3 5) r7.ztapes, rdV K_api_Deviation (.slice none 0 0) ([] : List T_api_Deviation), rdV Kd.i64 (.slice none 0 0) ([] : List Int)] ++ F) [4, 5, 6, 7, 8] tryd_mix Tb_ok (by kernel_rfl) (by kernel_rfl) (fun _ => by kernel_rfl) (fun _ => by kernel_rfl) (fun _ => by kernel_rfl) (fun _ => by kernel_rfl) (fun _ => by kernel_rfl) (fun _ => by kernel_rfl) (fun _ => by kernel_rfl) ?_ ?_
  ·
   refine ⟨?_, ?_, ?_, ?_, trivial⟩
   ·
    intro γ F
    refine WI.reH (H' := [blkP (.pointer (some ⟨b4, 0, none⟩)) 24 [.int .u64 ((31 : Nat) : Int), .int .i64 ((4 : Nat) : Int), .int .i64 ((1 : Nat) : Int)]] ++ F) (by kernel_rfl) ?_
    refine w_ldB 0 0 rfl (by kernel_rfl) ti_24 rfl rfl ?_
    exact wE (gl []) [(0, false)] 0
   ·
    intro γ F
    refine WI.reH (H' := [] ++ F) (by kernel_rfl) ?_
    refine WI.ent (rdNil (kd := Kd.u64)) ?_
    refine w_mk (kd := (Kd.sl Kd.u64)) (kl := .i64) (kc := .i64) (.slice none 0 0) el1 (by kernel_rfl) ts_27 ti_30 rfl (by kernel_rfl) (itS 0 rfl) (fun v1 => ?_)
    refine WI.ent (frzAt 0 rfl) ?_
    exact wE (gl [v1]) [(0, true), (1, true)] 2
   ·
    intro γ F
    refine WI.reH (H' := [rdV (Kd.sl Kd.u64) (γ 1 0) l1] ++ F) (by kernel_rfl) ?_
    refine w_bd (v := .agg #[.int .u64 ((31 : Nat) : Int), .int .i64 ((4 : Nat) : Int), .int .i64 ((1 : Nat) : Int), (.slice none 0 0), (.slice none 0 0), (γ 1 0)]) (t := 29) (ps0 := [(0, .agg #[.int .u64 ((31 : Nat) : Int), .int .i64 ((4 : Nat) : Int), .int .i64 ((1 : Nat) : Int)]), (3, (γ 1 0))]) (ps := [(0, .agg #[.int .u64 ((31 : Nat) : Int), .int .i64 ((4 : Nat) : Int), .int .i64 ((1 : Nat) : Int)]), (3, .agg #[(γ 1 0)])]) (scI (scS (rd_hd 0 rfl) sc0)) (by kernel_rfl) (fun w => by kernel_rfl) ?_
    exact wE (gl []) [] 1
   ·
    intro γ F
    refine WI.reH (H' := [rdV (Kd.sl Kd.u64) (γ 1 0) l1, exF] ++ F) (by kernel_rfl) ?_
    refine WI.ent (rdNil (kd := Kd.i64)) ?_
    refine WI.ent (rdNil (kd := K_api_Deviation)) ?_
    refine w_fn [(1, true), (0, true), (2, true), (3, true)] (c_network_New er5) rfl fok_56 (by kernel_rfl) ?_
    rintro _ _ ⟨w13, w13__0_1, w13__0_2, w13__0_3, w13__2, w13__3, hv, rfl⟩; have hv := hv.symm; subst hv
    exact wE (gl [w13, w13__0_1, w13__0_2, w13__0_3, w13__2, w13__3]) [(0, false), (0, true), (1, true), (2, true), (3, false), (3, false), (3, true), (4, true)] 7
  ·
   intro γ2
   refine q_opS 11 14 (by kernel_rfl) rfl (fun b5 => ?_)
   refine qh_then ?_
   refine wh_seq ?_
   refine wh_seq ?_
   refine wh_region ?_
   refine w_p Tb_ok 2 (by kernel_rfl) ?_
   refine wi_end (by kernel_rfl) ?_
   refine qh_then ?_
   refine h_cf (b := false) rfl (by kernel_rfl) ?_
   refine wh_skip ?_
   refine qh_then ?_
   refine wh_seq ?_
   refine WH.ent (hd_add (tree_hdI (inP 18 rfl))) ?_
   obtain ⟨r8, er8, h9⟩ := bnd h8
   obtain ⟨r9, er9, h10⟩ := bnd h9
   obtain ⟨r10, er10, h11⟩ := bnd h10
   refine h_flow [0, 0, 3, 0, 0, 31, 0, 0, 255, 511, 0, 2047] ⟨23, [0, 1, 1, 0, 1, 1, 0, 1, 1, 0, 1, 1], [(11, [(11, 0)])], [(0, [(0, 2)]), (3, [(0, 2)]), (6, [(0, 2)]), (9, [(9, 0), (6, 0), (3, 0)]), (11, [(9, 0), (6, 0), (3, 0)])], [(2, [(2, 0)]), (5, [(5, 0)]), (8, [(8, 0)])]⟩ (fun γ => [.agg #[.int .u64 ((31 : Nat) : Int), .int .i64 ((4 : Nat) : Int), .int .i64 ((1 : Nat) : Int)], (γ 1 0), (γ 2 0), .agg #[.int .u64 ((31 : Nat) : Int), .int .i64 ((4 : Nat) : Int), .int .i64 ((1 : Nat) : Int)], (γ 4 0), (γ 5 0), .agg #[.int .u64 ((31 : Nat) : Int), .int .i64 ((4 : Nat) : Int), .int .i64 ((1 : Nat) : Int)], (γ 7 0), (γ 8 0), .agg #[(γ 2 0), (γ 5 0), (γ 8 0)], (γ 10 0), undef]) (fun i γ => match i with | 1 => [rdV Kd.u64 (γ 1 0) ([2, 1] : List Nat)] | 2 => [ownV (Kd.sl Kd.u64) 30 (γ 2 0) r8] | 4 => [rdV Kd.u64 (γ 4 0) ([3] : List Nat)] | 5 => [ownV (Kd.sl Kd.u64) 30 (γ 5 0) r9] | 7 => [rdV Kd.u64 (γ 7 0) ([6, 5] : List Nat)] | 8 => [ownV (Kd.sl Kd.u64) 30 (γ 8 0) r10] | 10 => [blkP (γ 10 0) 101 [(.slice none 0 0), (.slice none 0 0), (.slice none 0 0)]] | 11 => [blkP (γ 10 0) 101 [(γ 2 0), (γ 5 0), (γ 8 0)]] | _ => []) (fun γ => [hdP (th (γ2 3 4)) r7.zviews.length, blkP (.pointer (some ⟨b5, 0, none⟩)) 119 [.int .u64 r7.zw.S.P, .int .i64 r7.zw.S.N, .int .i64 r7.zw.S.T, (γ2 3 1), (γ2 3 2), (γ2 3 3), .int .i64 r7.zround, (th (γ2 3 4)), (γ2 3 5)], blkP (.pointer (some ⟨b4, 0, none⟩)) 24 [.int .u64 ((31 : Nat) : Int), .int .i64 ((4 : Nat) : Int), .int .i64 ((1 : Nat) : Int)], blkP (.pointer (some ⟨b3, 0, none⟩)) 81 [w9_0, .int .i64 r4.2.1.Used], rdV K_api_Triple w8 r4.1, rdV K_api_Triple w9_0 r4.2.1.Made, blkP (.pointer (some ⟨b2, 0, none⟩)) 81 [w6_0, .int .i64 r3.2.1.Used], rdV K_api_Triple w5 r3.1, rdV K_api_Triple w6_0 r3.2.1.Made, blkP (.pointer (some ⟨b1, 0, none⟩)) 81 [w3_0, .int .i64 r2.2.1.Used], rdV K_api_Triple w2 r2.1, rdV K_api_Triple w3_0 r2.2.1.Made, rdV K_api_Triple w1_0 r1.Made, exF, rdV (Kd.sl Kd.u64) (γ2 1 0) l1, rdV Kd.u64 (.slice none 0 0) ([] : List Nat), rdV Kd.i64 (γ2 3 1) r7.zw.Corrupt, rdV K_api_Deviation (γ2 3 2) r7.zw.Deviations, rdV (Kd.sl Kd.u64) (γ2 3 3) r7.zw.Tapes, treeV (rowK K_api_Event 67) 46 (th (γ2 3 4)) (tg (γ2 3 4)) r7.zviews, ownV Kd.any 137 (γ2 3 5) r7.ztapes, rdV K_api_Deviation (.slice none 0 0) ([] : List T_api_Deviation), rdV Kd.i64 (.slice none 0 0) ([] : List Int), rdV Kd.u64 (γ 1 0) ([2, 1] : List Nat), ownV (Kd.sl Kd.u64) 30 (γ 2 0) r8, rdV Kd.u64 (γ 4 0) ([3] : List Nat), ownV (Kd.sl Kd.u64) 30 (γ 5 0) r9, rdV Kd.u64 (γ 7 0) ([6, 5] : List Nat), ownV (Kd.sl Kd.u64) 30 (γ 8 0) r10, blkP (γ 10 0) 101 [(γ 2 0), (γ 5 0), (γ 8 0)]] ++ F) [] tryd_mix Tb_ok (by kernel_rfl) (by kernel_rfl) (fun _ => by kernel_rfl) (fun _ => by kernel_rfl) (fun _ => by kernel_rfl) (fun _ => by kernel_rfl) (fun _ => by kernel_rfl) (fun _ => by kernel_rfl) (fun _ => by kernel_rfl) ?_ ?_
   ·
    refine ⟨?_, ?_, ?_, ?_, ?_, ?_, ?_, ?_, ?_, ?_, ?_, ?_, trivial⟩
    ·
     intro γ F
     refine WI.reH (H' := [blkP (.pointer (some ⟨b4, 0, none⟩)) 24 [.int .u64 ((31 : Nat) : Int), .int .i64 ((4 : Nat) : Int), .int .i64 ((1 : Nat) : Int)]] ++ F) (by kernel_rfl) ?_
     refine w_ldB 0 0 rfl (by kernel_rfl) ti_24 rfl rfl ?_
     exact wE (gl []) [(0, false)] 0
    ·
     intro γ F
     refine WI.reH (H' := [] ++ F) (by kernel_rfl) ?_
     refine w_lt (kd := Kd.u64) (t := 30) (len := 2) (ps0 := [(0, .int .u64 ((2 : Nat) : Int)), (1, .int .u64 ((1 : Nat) : Int))]) (ps := [(0, .int .u64 ((2 : Nat) : Int)), (1, .int .u64 ((1 : Nat) : Int))]) ([2, 1] : List Nat) _ (rowC (x := 2) (g := ()) (it0 rfl) (rowC (x := 1) (g := ()) (it0 rfl) row0)) (scI (scI sc0)) (by kernel_rfl) ts_30 ti_22 (by kernel_rfl) rfl rfl (fun v2 => ?_)
     refine WI.ent (frzAt 0 rfl) ?_
     exact wE (gl [v2]) [(0, true)] 1
    ·
     intro γ F
     refine WI.reH (H' := [rdV Kd.u64 (γ 1 0) ([2, 1] : List Nat)] ++ F) (by kernel_rfl) ?_
     refine w_fn [(0, true)] (c_privityref25_Row er8) rfl fok_59 (by kernel_rfl) ?_
     rintro _ _ ⟨w15, hv, rfl⟩; have hv := hv.symm; subst hv
     exact wE (gl [w15]) [(0, false)] 1
    ·
     intro γ F
     refine WI.reH (H' := [blkP (.pointer (some ⟨b4, 0, none⟩)) 24 [.int .u64 ((31 : Nat) : Int), .int .i64 ((4 : Nat) : Int), .int .i64 ((1 : Nat) : Int)]] ++ F) (by kernel_rfl) ?_
     refine w_ldB 0 0 rfl (by kernel_rfl) ti_24 rfl rfl ?_
     exact wE (gl []) [(0, false)] 0
    ·
     intro γ F
     refine WI.reH (H' := [] ++ F) (by kernel_rfl) ?_
     refine w_lt (kd := Kd.u64) (t := 30) (len := 1) (ps0 := [(0, .int .u64 ((3 : Nat) : Int))]) (ps := [(0, .int .u64 ((3 : Nat) : Int))]) ([3] : List Nat) _ (rowC (x := 3) (g := ()) (it0 rfl) row0) (scI sc0) (by kernel_rfl) ts_30 ti_22 (by kernel_rfl) rfl rfl (fun v3 => ?_)
     refine WI.ent (frzAt 0 rfl) ?_
     exact wE (gl [v3]) [(0, true)] 1
    ·
     intro γ F
     refine WI.reH (H' := [rdV Kd.u64 (γ 4 0) ([3] : List Nat)] ++ F) (by kernel_rfl) ?_
     refine w_fn [(0, true)] (c_privityref25_Row er9) rfl fok_59 (by kernel_rfl) ?_
     rintro _ _ ⟨w16, hv, rfl⟩; have hv := hv.symm; subst hv
     exact wE (gl [w16]) [(0, false)] 1
    ·
     intro γ F
     refine WI.reH (H' := [blkP (.pointer (some ⟨b4, 0, none⟩)) 24 [.int .u64 ((31 : Nat) : Int), .int .i64 ((4 : Nat) : Int), .int .i64 ((1 : Nat) : Int)]] ++ F) (by kernel_rfl) ?_
     refine w_ldB 0 0 rfl (by kernel_rfl) ti_24 rfl rfl ?_
     exact wE (gl []) [(0, false)] 0
    ·
     intro γ F
     refine WI.reH (H' := [] ++ F) (by kernel_rfl) ?_
     refine w_lt (kd := Kd.u64) (t := 30) (len := 2) (ps0 := [(0, .int .u64 ((6 : Nat) : Int)), (1, .int .u64 ((5 : Nat) : Int))]) (ps := [(0, .int .u64 ((6 : Nat) : Int)), (1, .int .u64 ((5 : Nat) : Int))]) ([6, 5] : List Nat) _ (rowC (x := 6) (g := ()) (it0 rfl) (rowC (x := 5) (g := ()) (it0 rfl) row0)) (scI (scI sc0)) (by kernel_rfl) ts_30 ti_22 (by kernel_rfl) rfl rfl (fun v4 => ?_)
     refine WI.ent (frzAt 0 rfl) ?_
     exact wE (gl [v4]) [(0, true)] 1
    ·
     intro γ F
     refine WI.reH (H' := [rdV Kd.u64 (γ 7 0) ([6, 5] : List Nat)] ++ F) (by kernel_rfl) ?_
     refine w_fn [(0, true)] (c_privityref25_Row er10) rfl fok_59 (by kernel_rfl) ?_
     rintro _ _ ⟨w17, hv, rfl⟩; have hv := hv.symm; subst hv
     exact wE (gl [w17]) [(0, false)] 1
    ·
     intro γ F
     refine WI.reH (H' := [ownV (Kd.sl Kd.u64) 30 (γ 8 0) r10, ownV (Kd.sl Kd.u64) 30 (γ 5 0) r9, ownV (Kd.sl Kd.u64) 30 (γ 2 0) r8] ++ F) (by kernel_rfl) ?_
     refine w_bd (v := .agg #[(γ 2 0), (γ 5 0), (γ 8 0)]) (t := 101) (ps0 := [(0, (γ 2 0)), (1, (γ 5 0)), (2, (γ 8 0))]) (ps := [(0, .agg #[(γ 2 0)]), (1, .agg #[(γ 5 0)]), (2, .agg #[(γ 8 0)])]) (scS (own_hd 2 rfl) (scS (own_hd 1 rfl) (scS (own_hd 0 rfl) sc0))) (by kernel_rfl) (fun w => by kernel_rfl) ?_
     exact wE (gl []) [(0, false), (0, false), (0, false)] 0
    ·
     intro γ F
     refine WI.reH (H' := [] ++ F) (by kernel_rfl) ?_
     refine w_al (by kernel_rfl) ti_101 (fun q5 => ?_)
     refine WI.hd (y := blkP q5 101 [(.slice none 0 0), (.slice none 0 0), (.slice none 0 0)]) (by kernel_rfl) ?_
     exact wE (gl [q5]) [(0, false)] 0
    ·
     intro γ F
     refine WI.reH (H' := [blkP (γ 10 0) 101 [(.slice none 0 0), (.slice none 0 0), (.slice none 0 0)], ownV (Kd.sl Kd.u64) 30 (γ 8 0) r10, ownV (Kd.sl Kd.u64) 30 (γ 5 0) r9, ownV (Kd.sl Kd.u64) 30 (γ 2 0) r8] ++ F) (by kernel_rfl) ?_
     refine w_stBp (v := .agg #[(γ 2 0), (γ 5 0), (γ 8 0)]) (cs := [(γ 2 0), (γ 5 0), (γ 8 0)]) 0 rfl (cv0 (by kernel_rfl)) (by kernel_rfl) ti_101 rfl rfl (oC (sl_one (own_hd 3 rfl)) (oC (sl_one (own_hd 2 rfl)) (oC (sl_one (own_hd 1 rfl)) oN))) ?_
     exact wE (gl []) [(0, false), (0, false), (0, false), (0, false)] 0
   ·
    intro γ3
    refine q_opS 13 29 (by kernel_rfl) rfl (fun b6 => ?_)
    refine qh_then ?_
    refine wh_seq ?_
    refine WH.ent (hd_add (tree_hdI (inP 20 rfl))) ?_
    obtain ⟨r11, er11, h12⟩ := bnd h11
    obtain ⟨r12, er12, h13⟩ := bnd h12
    obtain ⟨r13, er13, h14⟩ := bnd h13
    refine h_flow [0, 0, 3, 0, 0, 31, 0, 0, 255, 511, 0, 2047] ⟨31, [0, 1, 1, 0, 1, 1, 0, 1, 1, 0, 1, 1], [(11, [(11, 0)])], [(0, [(0, 4)]), (3, [(0, 4)]), (6, [(0, 4)]), (9, [(9, 0), (6, 0), (3, 0)]), (11, [(9, 0), (6, 0), (3, 0)])], [(2, [(2, 0)]), (5, [(5, 0)]), (8, [(8, 0)])]⟩ (fun γ => [.agg #[.int .u64 ((31 : Nat) : Int), .int .i64 ((4 : Nat) : Int), .int .i64 ((1 : Nat) : Int)], (γ 1 0), (γ 2 0), .agg #[.int .u64 ((31 : Nat) : Int), .int .i64 ((4 : Nat) : Int), .int .i64 ((1 : Nat) : Int)], (γ 4 0), (γ 5 0), .agg #[.int .u64 ((31 : Nat) : Int), .int .i64 ((4 : Nat) : Int), .int .i64 ((1 : Nat) : Int)], (γ 7 0), (γ 8 0), .agg #[(γ 2 0), (γ 5 0), (γ 8 0)], (γ 10 0), undef]) (fun i γ => match i with | 1 => [rdV Kd.u64 (γ 1 0) ([4] : List Nat)] | 2 => [ownV (Kd.sl Kd.u64) 30 (γ 2 0) r11] | 4 => [rdV Kd.u64 (γ 4 0) ([5, 1] : List Nat)] | 5 => [ownV (Kd.sl Kd.u64) 30 (γ 5 0) r12] | 7 => [rdV Kd.u64 (γ 7 0) ([21] : List Nat)] | 8 => [ownV (Kd.sl Kd.u64) 30 (γ 8 0) r13] | 10 => [blkP (γ 10 0) 101 [(.slice none 0 0), (.slice none 0 0), (.slice none 0 0)]] | 11 => [blkP (γ 10 0) 101 [(γ 2 0), (γ 5 0), (γ 8 0)]] | _ => []) (fun γ => [hdP (th (γ2 3 4)) r7.zviews.length, blkP (.pointer (some ⟨b6, 0, none⟩)) 101 [(γ3 2 0), (γ3 5 0), (γ3 8 0)], hdP (th (γ2 3 4)) r7.zviews.length, blkP (.pointer (some ⟨b5, 0, none⟩)) 119 [.int .u64 r7.zw.S.P, .int .i64 r7.zw.S.N, .int .i64 r7.zw.S.T, (γ2 3 1), (γ2 3 2), (γ2 3 3), .int .i64 r7.zround, (th (γ2 3 4)), (γ2 3 5)], blkP (.pointer (some ⟨b4, 0, none⟩)) 24 [.int .u64 ((31 : Nat) : Int), .int .i64 ((4 : Nat) : Int), .int .i64 ((1 : Nat) : Int)], blkP (.pointer (some ⟨b3, 0, none⟩)) 81 [w9_0, .int .i64 r4.2.1.Used], rdV K_api_Triple w8 r4.1, rdV K_api_Triple w9_0 r4.2.1.Made, blkP (.pointer (some ⟨b2, 0, none⟩)) 81 [w6_0, .int .i64 r3.2.1.Used], rdV K_api_Triple w5 r3.1, rdV K_api_Triple w6_0 r3.2.1.Made, blkP (.pointer (some ⟨b1, 0, none⟩)) 81 [w3_0, .int .i64 r2.2.1.Used], rdV K_api_Triple w2 r2.1, rdV K_api_Triple w3_0 r2.2.1.Made, rdV K_api_Triple w1_0 r1.Made, exF, rdV (Kd.sl Kd.u64) (γ2 1 0) l1, rdV Kd.u64 (.slice none 0 0) ([] : List Nat), rdV Kd.i64 (γ2 3 1) r7.zw.Corrupt, rdV K_api_Deviation (γ2 3 2) r7.zw.Deviations, rdV (Kd.sl Kd.u64) (γ2 3 3) r7.zw.Tapes, treeV (rowK K_api_Event 67) 46 (th (γ2 3 4)) (tg (γ2 3 4)) r7.zviews, ownV Kd.any 137 (γ2 3 5) r7.ztapes, rdV K_api_Deviation (.slice none 0 0) ([] : List T_api_Deviation), rdV Kd.i64 (.slice none 0 0) ([] : List Int), rdV Kd.u64 (γ3 1 0) ([2, 1] : List Nat), ownV (Kd.sl Kd.u64) 30 (γ3 2 0) r8, rdV Kd.u64 (γ3 4 0) ([3] : List Nat), ownV (Kd.sl Kd.u64) 30 (γ3 5 0) r9, rdV Kd.u64 (γ3 7 0) ([6, 5] : List Nat), ownV (Kd.sl Kd.u64) 30 (γ3 8 0) r10, rdV Kd.u64 (γ 1 0) ([4] : List Nat), ownV (Kd.sl Kd.u64) 30 (γ 2 0) r11, rdV Kd.u64 (γ 4 0) ([5, 1] : List Nat), ownV (Kd.sl Kd.u64) 30 (γ 5 0) r12, rdV Kd.u64 (γ 7 0) ([21] : List Nat), ownV (Kd.sl Kd.u64) 30 (γ 8 0) r13, blkP (γ 10 0) 101 [(γ 2 0), (γ 5 0), (γ 8 0)]] ++ F) [] tryd_mix Tb_ok (by kernel_rfl) (by kernel_rfl) (fun _ => by kernel_rfl) (fun _ => by kernel_rfl) (fun _ => by kernel_rfl) (fun _ => by kernel_rfl) (fun _ => by kernel_rfl) (fun _ => by kernel_rfl) (fun _ => by kernel_rfl) ?_ ?_
    ·
     refine ⟨?_, ?_, ?_, ?_, ?_, ?_, ?_, ?_, ?_, ?_, ?_, ?_, trivial⟩
     ·
      intro γ F
      refine WI.reH (H' := [blkP (.pointer (some ⟨b4, 0, none⟩)) 24 [.int .u64 ((31 : Nat) : Int), .int .i64 ((4 : Nat) : Int), .int .i64 ((1 : Nat) : Int)]] ++ F) (by kernel_rfl) ?_
      refine w_ldB 0 0 rfl (by kernel_rfl) ti_24 rfl rfl ?_
      exact wE (gl []) [(0, false)] 0
     ·
      intro γ F
      refine WI.reH (H' := [] ++ F) (by kernel_rfl) ?_
      refine w_lt (kd := Kd.u64) (t := 30) (len := 1) (ps0 := [(0, .int .u64 ((4 : Nat) : Int))]) (ps := [(0, .int .u64 ((4 : Nat) : Int))]) ([4] : List Nat) _ (rowC (x := 4) (g := ()) (it0 rfl) row0) (scI sc0) (by kernel_rfl) ts_30 ti_22 (by kernel_rfl) rfl rfl (fun v5 => ?_)
      refine WI.ent (frzAt 0 rfl) ?_
      exact wE (gl [v5]) [(0, true)] 1
     ·
      intro γ F
      refine WI.reH (H' := [rdV Kd.u64 (γ 1 0) ([4] : List Nat)] ++ F) (by kernel_rfl) ?_
      refine w_fn [(0, true)] (c_privityref25_Row er11) rfl fok_59 (by kernel_rfl) ?_
      rintro _ _ ⟨w18, hv, rfl⟩; have hv := hv.symm; subst hv
      exact wE (gl [w18]) [(0, false)] 1
     ·
      intro γ F
      refine WI.reH (H' := [blkP (.pointer (some ⟨b4, 0, none⟩)) 24 [.int .u64 ((31 : Nat) : Int), .int .i64 ((4 : Nat) : Int), .int .i64 ((1 : Nat) : Int)]] ++ F) (by kernel_rfl) ?_
      refine w_ldB 0 0 rfl (by kernel_rfl) ti_24 rfl rfl ?_
      exact wE (gl []) [(0, false)] 0
     ·
      intro γ F
      refine WI.reH (H' := [] ++ F) (by kernel_rfl) ?_
      refine w_lt (kd := Kd.u64) (t := 30) (len := 2) (ps0 := [(0, .int .u64 ((5 : Nat) : Int)), (1, .int .u64 ((1 : Nat) : Int))]) (ps := [(0, .int .u64 ((5 : Nat) : Int)), (1, .int .u64 ((1 : Nat) : Int))]) ([5, 1] : List Nat) _ (rowC (x := 5) (g := ()) (it0 rfl) (rowC (x := 1) (g := ()) (it0 rfl) row0)) (scI (scI sc0)) (by kernel_rfl) ts_30 ti_22 (by kernel_rfl) rfl rfl (fun v6 => ?_)
      refine WI.ent (frzAt 0 rfl) ?_
      exact wE (gl [v6]) [(0, true)] 1
     ·
      intro γ F
      refine WI.reH (H' := [rdV Kd.u64 (γ 4 0) ([5, 1] : List Nat)] ++ F) (by kernel_rfl) ?_
      refine w_fn [(0, true)] (c_privityref25_Row er12) rfl fok_59 (by kernel_rfl) ?_
      rintro _ _ ⟨w19, hv, rfl⟩; have hv := hv.symm; subst hv
      exact wE (gl [w19]) [(0, false)] 1
     ·
      intro γ F
      refine WI.reH (H' := [blkP (.pointer (some ⟨b4, 0, none⟩)) 24 [.int .u64 ((31 : Nat) : Int), .int .i64 ((4 : Nat) : Int), .int .i64 ((1 : Nat) : Int)]] ++ F) (by kernel_rfl) ?_
      refine w_ldB 0 0 rfl (by kernel_rfl) ti_24 rfl rfl ?_
      exact wE (gl []) [(0, false)] 0
     ·
      intro γ F
      refine WI.reH (H' := [] ++ F) (by kernel_rfl) ?_
      refine w_lt (kd := Kd.u64) (t := 30) (len := 1) (ps0 := [(0, .int .u64 ((21 : Nat) : Int))]) (ps := [(0, .int .u64 ((21 : Nat) : Int))]) ([21] : List Nat) _ (rowC (x := 21) (g := ()) (it0 rfl) row0) (scI sc0) (by kernel_rfl) ts_30 ti_22 (by kernel_rfl) rfl rfl (fun v7 => ?_)
      refine WI.ent (frzAt 0 rfl) ?_
      exact wE (gl [v7]) [(0, true)] 1
     ·
      intro γ F
      refine WI.reH (H' := [rdV Kd.u64 (γ 7 0) ([21] : List Nat)] ++ F) (by kernel_rfl) ?_
      refine w_fn [(0, true)] (c_privityref25_Row er13) rfl fok_59 (by kernel_rfl) ?_
      rintro _ _ ⟨w20, hv, rfl⟩; have hv := hv.symm; subst hv
      exact wE (gl [w20]) [(0, false)] 1
     ·
      intro γ F
      refine WI.reH (H' := [ownV (Kd.sl Kd.u64) 30 (γ 8 0) r13, ownV (Kd.sl Kd.u64) 30 (γ 5 0) r12, ownV (Kd.sl Kd.u64) 30 (γ 2 0) r11] ++ F) (by kernel_rfl) ?_
      refine w_bd (v := .agg #[(γ 2 0), (γ 5 0), (γ 8 0)]) (t := 101) (ps0 := [(0, (γ 2 0)), (1, (γ 5 0)), (2, (γ 8 0))]) (ps := [(0, .agg #[(γ 2 0)]), (1, .agg #[(γ 5 0)]), (2, .agg #[(γ 8 0)])]) (scS (own_hd 2 rfl) (scS (own_hd 1 rfl) (scS (own_hd 0 rfl) sc0))) (by kernel_rfl) (fun w => by kernel_rfl) ?_
      exact wE (gl []) [(0, false), (0, false), (0, false)] 0
     ·
      intro γ F
      refine WI.reH (H' := [] ++ F) (by kernel_rfl) ?_
      refine w_al (by kernel_rfl) ti_101 (fun q6 => ?_)
      refine WI.hd (y := blkP q6 101 [(.slice none 0 0), (.slice none 0 0), (.slice none 0 0)]) (by kernel_rfl) ?_
      exact wE (gl [q6]) [(0, false)] 0
     ·
      intro γ F
      refine WI.reH (H' := [blkP (γ 10 0) 101 [(.slice none 0 0), (.slice none 0 0), (.slice none 0 0)], ownV (Kd.sl Kd.u64) 30 (γ 8 0) r13, ownV (Kd.sl Kd.u64) 30 (γ 5 0) r12, ownV (Kd.sl Kd.u64) 30 (γ 2 0) r11] ++ F) (by kernel_rfl) ?_
      refine w_stBp (v := .agg #[(γ 2 0), (γ 5 0), (γ 8 0)]) (cs := [(γ 2 0), (γ 5 0), (γ 8 0)]) 0 rfl (cv0 (by kernel_rfl)) (by kernel_rfl) ti_101 rfl rfl (oC (sl_one (own_hd 3 rfl)) (oC (sl_one (own_hd 2 rfl)) (oC (sl_one (own_hd 1 rfl)) oN))) ?_
      exact wE (gl []) [(0, false), (0, false), (0, false), (0, false)] 0
    ·
     intro γ4
     refine q_opS 14 37 (by kernel_rfl) rfl (fun b7 => ?_)
     refine qh_then ?_
     refine wh_seq ?_
     refine WH.ent (frzAt 23 rfl) ?_
     refine WH.ent (frzAt 27 rfl) ?_
     refine WH.ent (frzAt 29 rfl) ?_
     refine WH.ent (frzAt 31 rfl) ?_
     refine WH.ent (hd_add (tree_hdI (inP 26 rfl))) ?_
     obtain ⟨r14, er14, h15⟩ := bnd h14
     obtain ⟨r15, er15, h16⟩ := bnd h15
     refine h_flow [0, 0, 0, 0, 0, 24, 63, 127] ⟨39, [0, 0, 0, 0, 1, 1, 3, 0], [(6, [(0, 9), (0, 27)])], [(1, [(0, 7)]), (2, [(0, 7)]), (3, [(0, 10)])], [(5, [(5, 0)]), (6, [(6, 0), (0, 1), (0, 2), (0, 3), (0, 4), (0, 24), (0, 25), (0, 26)])]⟩ (fun γ => [(.pointer (some ⟨b5, 0, none⟩)), .agg #[(γ3 2 0), (γ3 5 0), (γ3 8 0)], .agg #[(γ3 2 0), (γ3 5 0), (γ3 8 0)], .agg #[.int .u64 ((31 : Nat) : Int), .int .i64 ((4 : Nat) : Int), .int .i64 ((1 : Nat) : Int)], (γ 4 0), (γ 5 0), (γ 6 0), (γ 6 0)]) (fun i γ => match i with | 4 => [rdV Kd.u64 (γ 4 0) ([9] : List Nat)] | 5 => [rdV (Kd.sl Kd.u64) (γ 5 0) r14] | 6 => [ownV Kd.bool 4 (γ 6 0) r15.1, blkP (.pointer (some ⟨b5, 0, none⟩)) 119 [.int .u64 r7.zw.S.P, .int .i64 r7.zw.S.N, .int .i64 r7.zw.S.T, (γ2 3 1), (γ2 3 2), (γ2 3 3), .int .i64 r15.2.1, (th (γ 6 1)), (γ2 3 5)], treeV (rowK K_api_Event 67) 46 (th (γ 6 1)) (tg (γ 6 1)) r15.2.2] | _ => []) (fun γ => [hdP (th (γ2 3 4)) r7.zviews.length, rdV (Kd.sl Kd.u64) (γ3 8 0) r10, rdV (Kd.sl Kd.u64) (γ3 5 0) r9, rdV (Kd.sl Kd.u64) (γ3 2 0) r8, rdV Kd.any (γ2 3 5) r7.ztapes, blkP (.pointer (some ⟨b7, 0, none⟩)) 101 [(γ4 2 0), (γ4 5 0), (γ4 8 0)], hdP (th (γ2 3 4)) r7.zviews.length, blkP (.pointer (some ⟨b6, 0, none⟩)) 101 [(γ3 2 0), (γ3 5 0), (γ3 8 0)], hdP (th (γ2 3 4)) r7.zviews.length, blkP (.pointer (some ⟨b4, 0, none⟩)) 24 [.int .u64 ((31 : Nat) : Int), .int .i64 ((4 : Nat) : Int), .int .i64 ((1 : Nat) : Int)], blkP (.pointer (some ⟨b3, 0, none⟩)) 81 [w9_0, .int .i64 r4.2.1.Used], rdV K_api_Triple w8 r4.1, rdV K_api_Triple w9_0 r4.2.1.Made, blkP (.pointer (some ⟨b2, 0, none⟩)) 81 [w6_0, .int .i64 r3.2.1.Used], rdV K_api_Triple w5 r3.1, rdV K_api_Triple w6_0 r3.2.1.Made, blkP (.pointer (some ⟨b1, 0, none⟩)) 81 [w3_0, .int .i64 r2.2.1.Used], rdV K_api_Triple w2 r2.1, rdV K_api_Triple w3_0 r2.2.1.Made, rdV K_api_Triple w1_0 r1.Made, exF, rdV (Kd.sl Kd.u64) (γ2 1 0) l1, rdV Kd.u64 (.slice none 0 0) ([] : List Nat), rdV Kd.i64 (γ2 3 1) r7.zw.Corrupt, rdV K_api_Deviation (γ2 3 2) r7.zw.Deviations, rdV (Kd.sl Kd.u64) (γ2 3 3) r7.zw.Tapes, rdV K_api_Deviation (.slice none 0 0) ([] : List T_api_Deviation), rdV Kd.i64 (.slice none 0 0) ([] : List Int), rdV Kd.u64 (γ3 1 0) ([2, 1] : List Nat), rdV Kd.u64 (γ3 4 0) ([3] : List Nat), rdV Kd.u64 (γ3 7 0) ([6, 5] : List Nat), rdV Kd.u64 (γ4 1 0) ([4] : List Nat), ownV (Kd.sl Kd.u64) 30 (γ4 2 0) r11, rdV Kd.u64 (γ4 4 0) ([5, 1] : List Nat), ownV (Kd.sl Kd.u64) 30 (γ4 5 0) r12, rdV Kd.u64 (γ4 7 0) ([21] : List Nat), ownV (Kd.sl Kd.u64) 30 (γ4 8 0) r13, rdV Kd.u64 (γ 4 0) ([9] : List Nat), rdV (Kd.sl Kd.u64) (γ 5 0) r14, ownV Kd.bool 4 (γ 6 0) r15.1, blkP (.pointer (some ⟨b5, 0, none⟩)) 119 [.int .u64 r7.zw.S.P, .int .i64 r7.zw.S.N, .int .i64 r7.zw.S.T, (γ2 3 1), (γ2 3 2), (γ2 3 3), .int .i64 r15.2.1, (th (γ 6 1)), (γ2 3 5)], treeV (rowK K_api_Event 67) 46 (th (γ 6 1)) (tg (γ 6 1)) r15.2.2] ++ F) [0, 7] tryd_mix Tb_ok (by kernel_rfl) (by kernel_rfl) (fun _ => by kernel_rfl) (fun _ => by kernel_rfl) (fun _ => by kernel_rfl) (fun _ => by kernel_rfl) (fun _ => by kernel_rfl) (fun _ => by kernel_rfl) (fun _ => by kernel_rfl) ?_ ?_
     ·
      refine ⟨?_, ?_, ?_, ?_, ?_, ?_, trivial⟩
      ·
       intro γ F
       refine WI.reH (H' := [blkP (.pointer (some ⟨b6, 0, none⟩)) 101 [(γ3 2 0), (γ3 5 0), (γ3 8 0)]] ++ F) (by kernel_rfl) ?_
       refine w_ldB 0 0 rfl (by kernel_rfl) ti_101 rfl rfl ?_
       exact wE (gl []) [(0, false)] 0
      ·
       intro γ F
       refine WI.reH (H' := [blkP (.pointer (some ⟨b6, 0, none⟩)) 101 [(γ3 2 0), (γ3 5 0), (γ3 8 0)]] ++ F) (by kernel_rfl) ?_
       refine w_ldB 0 0 rfl (by kernel_rfl) ti_101 rfl rfl ?_
       exact wE (gl []) [(0, false)] 0
      ·
       intro γ F
       refine WI.reH (H' := [blkP (.pointer (some ⟨b4, 0, none⟩)) 24 [.int .u64 ((31 : Nat) : Int), .int .i64 ((4 : Nat) : Int), .int .i64 ((1 : Nat) : Int)]] ++ F) (by kernel_rfl) ?_
       refine w_ldB 0 0 rfl (by kernel_rfl) ti_24 rfl rfl ?_
       exact wE (gl []) [(0, false)] 0
      ·
       intro γ F
       refine WI.reH (H' := [] ++ F) (by kernel_rfl) ?_
       refine w_lt (kd := Kd.u64) (t := 30) (len := 1) (ps0 := [(0, .int .u64 ((9 : Nat) : Int))]) (ps := [(0, .int .u64 ((9 : Nat) : Int))]) ([9] : List Nat) _ (rowC (x := 9) (g := ()) (it0 rfl) row0) (scI sc0) (by kernel_rfl) ts_30 ti_22 (by kernel_rfl) rfl rfl (fun v8 => ?_)
       refine WI.ent (frzAt 0 rfl) ?_
       exact wE (gl [v8]) [(0, true)] 1
      ·
       intro γ F
       refine WI.reH (H' := [rdV Kd.u64 (γ 4 0) ([9] : List Nat)] ++ F) (by kernel_rfl) ?_
       refine w_fn [(0, true)] (c_privityref25_Row er14) rfl fok_59 (by kernel_rfl) ?_
       rintro _ _ ⟨w21, hv, rfl⟩; have hv := hv.symm; subst hv
       refine WI.ent (frzAt 0 rfl) ?_
       exact wE (gl [w21]) [(0, true)] 2
      ·
       intro γ F
       refine WI.reH (H' := [blkP (.pointer (some ⟨b5, 0, none⟩)) 119 [.int .u64 r7.zw.S.P, .int .i64 r7.zw.S.N, .int .i64 r7.zw.S.T, (γ2 3 1), (γ2 3 2), (γ2 3 3), .int .i64 r7.zround, (th (γ2 3 4)), (γ2 3 5)], treeV (rowK K_api_Event 67) 46 (th (γ2 3 4)) (tg (γ2 3 4)) r7.zviews, rdV (Kd.sl Kd.u64) (γ 5 0) r14, rdV (Kd.sl Kd.u64) (γ3 8 0) r10, rdV (Kd.sl Kd.u64) (γ3 5 0) r9, rdV (Kd.sl Kd.u64) (γ3 2 0) r8, rdV Kd.any (γ2 3 5) r7.ztapes, rdV Kd.i64 (γ2 3 1) r7.zw.Corrupt, rdV K_api_Deviation (γ2 3 2) r7.zw.Deviations, rdV (Kd.sl Kd.u64) (γ2 3 3) r7.zw.Tapes] ++ F) (by kernel_rfl) ?_
       refine w_fn [(0, false), (6, true), (7, true), (8, true), (0, false), (4, true), (3, true), (2, true), (1, true), (3, true), (2, true), (1, true), (0, true)] (c_triplestore_Verify er15) rfl fok_57 (by kernel_rfl) ?_
       rintro _ _ ⟨w22, w24, hv, rfl⟩; have hv := hv.symm; subst hv
       exact wE (gl [w22, w24]) [(0, false), (0, false), (0, false)] 8
     ·
      intro γ5
      refine qh_then ?_
      refine wh_seq ?_
      refine WH.ent (frzAt 32 rfl) ?_
      refine WH.ent (frzAt 34 rfl) ?_
      refine WH.ent (frzAt 36 rfl) ?_
      refine WH.ent (hd_add (tree_hdI (inP 41 rfl))) ?_
      obtain ⟨r16, er16, h17⟩ := bnd h16
      obtain ⟨r17, er17, h18⟩ := bnd h17
      refine h_flow [0, 0, 0, 0, 0, 24, 63, 127] ⟨43, [0, 0, 0, 0, 1, 1, 3, 0], [(6, [(0, 41), (0, 42)])], [(1, [(0, 9)]), (2, [(0, 11)]), (3, [(0, 13)])], [(5, [(5, 0)]), (6, [(6, 0), (0, 1), (0, 2), (0, 3), (0, 5), (0, 6), (0, 7), (0, 8), (0, 27), (0, 28), (0, 29)])]⟩ (fun γ => [(.pointer (some ⟨b5, 0, none⟩)), .agg #[(γ4 2 0), (γ4 5 0), (γ4 8 0)], .agg #[(γ3 2 0), (γ3 5 0), (γ3 8 0)], .agg #[.int .u64 ((31 : Nat) : Int), .int .i64 ((4 : Nat) : Int), .int .i64 ((1 : Nat) : Int)], (γ 4 0), (γ 5 0), (γ 6 0), (γ 6 0)]) (fun i γ => match i with | 4 => [rdV Kd.u64 (γ 4 0) ([9, 2] : List Nat)] | 5 => [rdV (Kd.sl Kd.u64) (γ 5 0) r16] | 6 => [ownV Kd.bool 4 (γ 6 0) r17.1, blkP (.pointer (some ⟨b5, 0, none⟩)) 119 [.int .u64 r7.zw.S.P, .int .i64 r7.zw.S.N, .int .i64 r7.zw.S.T, (γ2 3 1), (γ2 3 2), (γ2 3 3), .int .i64 r17.2.1, (th (γ 6 1)), (γ2 3 5)], treeV (rowK K_api_Event 67) 46 (th (γ 6 1)) (tg (γ 6 1)) r17.2.2] | _ => []) (fun γ => [hdP (th (γ5 6 1)) r15.2.2.length, rdV (Kd.sl Kd.u64) (γ4 8 0) r13, rdV (Kd.sl Kd.u64) (γ4 5 0) r12, rdV (Kd.sl Kd.u64) (γ4 2 0) r11, hdP (th (γ2 3 4)) r7.zviews.length, rdV (Kd.sl Kd.u64) (γ3 8 0) r10, rdV (Kd.sl Kd.u64) (γ3 5 0) r9, rdV (Kd.sl Kd.u64) (γ3 2 0) r8, rdV Kd.any (γ2 3 5) r7.ztapes, blkP (.pointer (some ⟨b7, 0, none⟩)) 101 [(γ4 2 0), (γ4 5 0), (γ4 8 0)], hdP (th (γ2 3 4)) r7.zviews.length, blkP (.pointer (some ⟨b6, 0, none⟩)) 101 [(γ3 2 0), (γ3 5 0), (γ3 8 0)], hdP (th (γ2 3 4)) r7.zviews.length, blkP (.pointer (some ⟨b4, 0, none⟩)) 24 [.int .u64 ((31 : Nat) : Int), .int .i64 ((4 : Nat) : Int), .int .i64 ((1 : Nat) : Int)], blkP (.pointer (some ⟨b3, 0, none⟩)) 81 [w9_0, .int .i64 r4.2.1.Used], rdV K_api_Triple w8 r4.1, rdV K_api_Triple w9_0 r4.2.1.Made, blkP (.pointer (some ⟨b2, 0, none⟩)) 81 [w6_0, .int .i64 r3.2.1.Used], rdV K_api_Triple w5 r3.1, rdV K_api_Triple w6_0 r3.2.1.Made, blkP (.pointer (some ⟨b1, 0, none⟩)) 81 [w3_0, .int .i64 r2.2.1.Used], rdV K_api_Triple w2 r2.1, rdV K_api_Triple w3_0 r2.2.1.Made, rdV K_api_Triple w1_0 r1.Made, exF, rdV (Kd.sl Kd.u64) (γ2 1 0) l1, rdV Kd.u64 (.slice none 0 0) ([] : List Nat), rdV Kd.i64 (γ2 3 1) r7.zw.Corrupt, rdV K_api_Deviation (γ2 3 2) r7.zw.Deviations, rdV (Kd.sl Kd.u64) (γ2 3 3) r7.zw.Tapes, rdV K_api_Deviation (.slice none 0 0) ([] : List T_api_Deviation), rdV Kd.i64 (.slice none 0 0) ([] : List Int), rdV Kd.u64 (γ3 1 0) ([2, 1] : List Nat), rdV Kd.u64 (γ3 4 0) ([3] : List Nat), rdV Kd.u64 (γ3 7 0) ([6, 5] : List Nat), rdV Kd.u64 (γ4 1 0) ([4] : List Nat), rdV Kd.u64 (γ4 4 0) ([5, 1] : List Nat), rdV Kd.u64 (γ4 7 0) ([21] : List Nat), rdV Kd.u64 (γ5 4 0) ([9] : List Nat), rdV (Kd.sl Kd.u64) (γ5 5 0) r14, ownV Kd.bool 4 (γ5 6 0) r15.1, rdV Kd.u64 (γ 4 0) ([9, 2] : List Nat), rdV (Kd.sl Kd.u64) (γ 5 0) r16, ownV Kd.bool 4 (γ 6 0) r17.1, blkP (.pointer (some ⟨b5, 0, none⟩)) 119 [.int .u64 r7.zw.S.P, .int .i64 r7.zw.S.N, .int .i64 r7.zw.S.T, (γ2 3 1), (γ2 3 2), (γ2 3 3), .int .i64 r17.2.1, (th (γ 6 1)), (γ2 3 5)], treeV (rowK K_api_Event 67) 46 (th (γ 6 1)) (tg (γ 6 1)) r17.2.2] ++ F) [0, 7] tryd_mix Tb_ok (by kernel_rfl) (by kernel_rfl) (fun _ => by kernel_rfl) (fun _ => by kernel_rfl) (fun _ => by kernel_rfl) (fun _ => by kernel_rfl) (fun _ => by kernel_rfl) (fun _ => by kernel_rfl) (fun _ => by kernel_rfl) ?_ ?_
      ·
       refine ⟨?_, ?_, ?_, ?_, ?_, ?_, trivial⟩
       ·
        intro γ F
        refine WI.reH (H' := [blkP (.pointer (some ⟨b7, 0, none⟩)) 101 [(γ4 2 0), (γ4 5 0), (γ4 8 0)]] ++ F) (by kernel_rfl) ?_
        refine w_ldB 0 0 rfl (by kernel_rfl) ti_101 rfl rfl ?_
        exact wE (gl []) [(0, false)] 0
       ·
        intro γ F
        refine WI.reH (H' := [blkP (.pointer (some ⟨b6, 0, none⟩)) 101 [(γ3 2 0), (γ3 5 0), (γ3 8 0)]] ++ F) (by kernel_rfl) ?_
        refine w_ldB 0 0 rfl (by kernel_rfl) ti_101 rfl rfl ?_
        exact wE (gl []) [(0, false)] 0
       ·
        intro γ F
        refine WI.reH (H' := [blkP (.pointer (some ⟨b4, 0, none⟩)) 24 [.int .u64 ((31 : Nat) : Int), .int .i64 ((4 : Nat) : Int), .int .i64 ((1 : Nat) : Int)]] ++ F) (by kernel_rfl) ?_
        refine w_ldB 0 0 rfl (by kernel_rfl) ti_24 rfl rfl ?_
        exact wE (gl []) [(0, false)] 0
       ·
        intro γ F
        refine WI.reH (H' := [] ++ F) (by kernel_rfl) ?_
        refine w_lt (kd := Kd.u64) (t := 30) (len := 2) (ps0 := [(0, .int .u64 ((9 : Nat) : Int)), (1, .int .u64 ((2 : Nat) : Int))]) (ps := [(0, .int .u64 ((9 : Nat) : Int)), (1, .int .u64 ((2 : Nat) : Int))]) ([9, 2] : List Nat) _ (rowC (x := 9) (g := ()) (it0 rfl) (rowC (x := 2) (g := ()) (it0 rfl) row0)) (scI (scI sc0)) (by kernel_rfl) ts_30 ti_22 (by kernel_rfl) rfl rfl (fun v9 => ?_)
        refine WI.ent (frzAt 0 rfl) ?_
        exact wE (gl [v9]) [(0, true)] 1
       ·
        intro γ F
        refine WI.reH (H' := [rdV Kd.u64 (γ 4 0) ([9, 2] : List Nat)] ++ F) (by kernel_rfl) ?_
        refine w_fn [(0, true)] (c_privityref25_Row er16) rfl fok_59 (by kernel_rfl) ?_
        rintro _ _ ⟨w25, hv, rfl⟩; have hv := hv.symm; subst hv
        refine WI.ent (frzAt 0 rfl) ?_
        exact wE (gl [w25]) [(0, true)] 2
       ·
        intro γ F
        refine WI.reH (H' := [blkP (.pointer (some ⟨b5, 0, none⟩)) 119 [.int .u64 r7.zw.S.P, .int .i64 r7.zw.S.N, .int .i64 r7.zw.S.T, (γ2 3 1), (γ2 3 2), (γ2 3 3), .int .i64 r15.2.1, (th (γ5 6 1)), (γ2 3 5)], treeV (rowK K_api_Event 67) 46 (th (γ5 6 1)) (tg (γ5 6 1)) r15.2.2, rdV (Kd.sl Kd.u64) (γ 5 0) r16, rdV (Kd.sl Kd.u64) (γ4 8 0) r13, rdV (Kd.sl Kd.u64) (γ4 5 0) r12, rdV (Kd.sl Kd.u64) (γ4 2 0) r11, rdV (Kd.sl Kd.u64) (γ3 8 0) r10, rdV (Kd.sl Kd.u64) (γ3 5 0) r9, rdV (Kd.sl Kd.u64) (γ3 2 0) r8, rdV Kd.any (γ2 3 5) r7.ztapes, rdV Kd.i64 (γ2 3 1) r7.zw.Corrupt, rdV K_api_Deviation (γ2 3 2) r7.zw.Deviations, rdV (Kd.sl Kd.u64) (γ2 3 3) r7.zw.Tapes] ++ F) (by kernel_rfl) ?_
        refine w_fn [(0, false), (9, true), (10, true), (11, true), (0, false), (7, true), (3, true), (2, true), (1, true), (6, true), (5, true), (4, true), (0, true)] (c_triplestore_Verify er17) rfl fok_57 (by kernel_rfl) ?_
        rintro _ _ ⟨w26, w28, hv, rfl⟩; have hv := hv.symm; subst hv
        exact wE (gl [w26, w28]) [(0, false), (0, false), (0, false)] 11
      ·
       intro γ6
       refine qh_then ?_
       refine wh_seq ?_
       refine wh_region ?_
       refine w_p Tb_ok 1 (by kernel_rfl) ?_
       refine w_len (rd_hd 21 rfl) (by kernel_rfl) ts_79 ?_
       refine w_p Tb_ok 2 (by kernel_rfl) ?_
       rcases bcase h18 with ⟨t1, h19⟩ | ⟨t1, h19⟩
       ·
        refine w_kb (t := 82) t1 (by kernel_rfl) ?_
        refine w_p Tb_ok 1 (by kernel_rfl) ?_
        refine w_ldB 20 1 rfl (by kernel_rfl) ti_3 rfl rfl ?_
        refine w_p Tb_ok 3 (by kernel_rfl) ?_
        rcases bcase h19 with ⟨t2, h20⟩ | ⟨t2, h20⟩
        ·
         refine w_kb (t := 87) t2 (by kernel_rfl) ?_
         refine w_p Tb_ok 4 (by kernel_rfl) ?_
         rcases bcase h20 with ⟨t3, h21⟩ | ⟨t3, h21⟩
         ·
          refine w_kb (t := 91) t3 (by kernel_rfl) ?_
          refine w_p Tb_ok 1 (by kernel_rfl) ?_
          refine w_len (rd_hd 18 rfl) (by kernel_rfl) ts_79 ?_
          refine w_p Tb_ok 3 (by kernel_rfl) ?_
          rcases bcase h21 with ⟨t4, h22⟩ | ⟨t4, h22⟩
          ·
           refine w_kb (t := 96) t4 (by kernel_rfl) ?_
           refine w_p Tb_ok 1 (by kernel_rfl) ?_
           refine w_ldB 17 1 rfl (by kernel_rfl) ti_3 rfl rfl ?_
           refine w_p Tb_ok 3 (by kernel_rfl) ?_
           rcases bcase h22 with ⟨t5, h23⟩ | ⟨t5, h23⟩
           ·
            refine w_kb (t := 101) t5 (by kernel_rfl) ?_
            refine w_p Tb_ok 4 (by kernel_rfl) ?_
            rcases bcase h23 with ⟨t6, h24⟩ | ⟨t6, h24⟩
            ·
             refine w_kb (t := 105) t6 (by kernel_rfl) ?_
             refine w_p Tb_ok 1 (by kernel_rfl) ?_
             refine w_len (rd_hd 15 rfl) (by kernel_rfl) ts_79 ?_
             refine w_p Tb_ok 3 (by kernel_rfl) ?_
             rcases bcase h24 with ⟨t7, h25⟩ | ⟨t7, h25⟩
             ·
              refine w_kb (t := 110) t7 (by kernel_rfl) ?_
              refine w_p Tb_ok 1 (by kernel_rfl) ?_
              refine w_ldB 14 1 rfl (by kernel_rfl) ti_3 rfl rfl ?_
              refine w_p Tb_ok 3 (by kernel_rfl) ?_
              rcases bcase h25 with ⟨t8, h26⟩ | ⟨t8, h26⟩
              ·
               refine w_kb (t := 115) t8 (by kernel_rfl) ?_
               refine w_p Tb_ok 4 (by kernel_rfl) ?_
               rcases bcase h26 with ⟨t9, h27⟩ | ⟨t9, h27⟩
               ·
                refine w_kb (t := 119) t9 (by kernel_rfl) ?_
                refine w_p Tb_ok 1 (by kernel_rfl) ?_
                refine w_len (own_hd 40 rfl) (by kernel_rfl) ts_98 ?_
                refine w_p Tb_ok 3 (by kernel_rfl) ?_
                rcases bcase h27 with ⟨t10, h28⟩ | ⟨t10, h28⟩
                ·
                 refine w_kb (t := 124) t10 (by kernel_rfl) ?_
                 refine w_p Tb_ok 1 (by kernel_rfl) ?_
                 obtain ⟨x1, ex1, h29⟩ := bnd h28
                 refine w_ix (k := .i64) (own_hd 40 rfl) (nbd ex1) rfl (by kernel_rfl) ts_98 ti_4 ?_
                 refine w_ldO 40 0 rfl ex1 (by kernel_rfl) ti_4 rfl rfl ?_
                 rintro _
                 refine w_p Tb_ok 2 (by kernel_rfl) ?_
                 rcases bcase h29 with ⟨t11, h30⟩ | ⟨t11, h30⟩
                 ·
                  refine w_kb (t := 129) t11 (by kernel_rfl) ?_
                  refine w_p Tb_ok 1 (by kernel_rfl) ?_
                  obtain ⟨x2, ex2, h31⟩ := bnd h30
                  refine w_ix (k := .i64) (own_hd 40 rfl) (nbd ex2) rfl (by kernel_rfl) ts_98 ti_4 ?_
                  refine w_ldO 40 0 rfl ex2 (by kernel_rfl) ti_4 rfl rfl ?_
                  rintro _
                  refine w_p Tb_ok 2 (by kernel_rfl) ?_
                  rcases bcase h31 with ⟨t12, h32⟩ | ⟨t12, h32⟩
                  ·
                   refine w_kb (t := 134) t12 (by kernel_rfl) ?_
                   refine w_p Tb_ok 1 (by kernel_rfl) ?_
                   refine w_len (own_hd 43 rfl) (by kernel_rfl) ts_98 ?_
                   refine w_p Tb_ok 3 (by kernel_rfl) ?_
                   rcases bcase h32 with ⟨t13, h33⟩ | ⟨t13, h33⟩
                   ·
                    refine w_kb (t := 139) t13 (by kernel_rfl) ?_
                    refine w_p Tb_ok 1 (by kernel_rfl) ?_
                    obtain ⟨x3, ex3, h34⟩ := bnd h33
                    refine w_ix (k := .i64) (own_hd 43 rfl) (nbd ex3) rfl (by kernel_rfl) ts_98 ti_4 ?_
                    refine w_ldO 43 0 rfl ex3 (by kernel_rfl) ti_4 rfl rfl ?_
                    rintro _
                    refine w_p Tb_ok 3 (by kernel_rfl) ?_
                    rcases bcase h34 with ⟨t14, h35⟩ | ⟨t14, h35⟩
                    ·
                     refine w_kb (t := 145) t14 (by kernel_rfl) ?_
                     refine w_p Tb_ok 1 (by kernel_rfl) ?_
                     obtain ⟨x4, ex4, h36⟩ := bnd h35
                     refine w_ix (k := .i64) (own_hd 43 rfl) (nbd ex4) rfl (by kernel_rfl) ts_98 ti_4 ?_
                     refine w_ldO 43 0 rfl ex4 (by kernel_rfl) ti_4 rfl rfl ?_
                     rintro _
                     refine w_p Tb_ok 3 (by kernel_rfl) ?_
                     rcases bcase h36 with ⟨t15, h37⟩ | ⟨t15, h37⟩
                     ·
                      refine w_kb (t := 151) t15 (by kernel_rfl) ?_
                      refine w_p Tb_ok 1 (by kernel_rfl) ?_
                      obtain ⟨r18, er18, h38⟩ := bnd h37
                      refine w_fn [(44, false), (27, true), (28, true), (29, true), (44, false), (8, true)] (c_network_Net_Rounds er18) rfl fok_29 (by kernel_rfl) ?_
                      rintro _ _ ⟨hv, rfl⟩; have hv := hv.symm; subst hv
                      refine w_p Tb_ok 3 (by kernel_rfl) ?_
                      refine wi_end (by kernel_rfl) ?_
                      refine qh_then ?_
                      refine wh_ret ?_
                      have h38 := Option.some.inj h38; subst h38
                      exact q_end (l := [.bool (r18 == (6 : Int))]) [] 46 ⟨rfl, rfl⟩ (.inl rfl) (by kernel_rfl) (by kernel_rfl) (by kernel_rfl)
                     ·
                      refine w_kb (t := 151) t15 (by kernel_rfl) ?_
                      refine w_p Tb_ok 5 (by kernel_rfl) ?_
                      refine wi_end (by kernel_rfl) ?_
                      refine qh_then ?_
                      refine wh_ret ?_
                      have h37 := Option.some.inj h37; subst h37
                      exact q_end (l := [.bool false]) [] 46 ⟨rfl, rfl⟩ (.inl rfl) (by kernel_rfl) (by kernel_rfl) (by kernel_rfl)
                    ·
                     refine w_kb (t := 145) t14 (by kernel_rfl) ?_
                     refine w_p Tb_ok 11 (by kernel_rfl) ?_
                     refine wi_end (by kernel_rfl) ?_
                     refine qh_then ?_
                     refine wh_ret ?_
                     have h35 := Option.some.inj h35; subst h35
                     exact q_end (l := [.bool false]) [] 46 ⟨rfl, rfl⟩ (.inl rfl) (by kernel_rfl) (by kernel_rfl) (by kernel_rfl)
                   ·
                    refine w_kb (t := 139) t13 (by kernel_rfl) ?_
                    refine w_p Tb_ok 17 (by kernel_rfl) ?_
                    refine wi_end (by kernel_rfl) ?_
                    refine qh_then ?_
                    refine wh_ret ?_
                    have h33 := Option.some.inj h33; subst h33
                    exact q_end (l := [.bool false]) [] 46 ⟨rfl, rfl⟩ (.inl rfl) (by kernel_rfl) (by kernel_rfl) (by kernel_rfl)
                  ·
                   refine w_kb (t := 134) t12 (by kernel_rfl) ?_
                   refine w_p Tb_ok 22 (by kernel_rfl) ?_
                   refine wi_end (by kernel_rfl) ?_
                   refine qh_then ?_
                   refine wh_ret ?_
                   have h32 := Option.some.inj h32; subst h32
                   exact q_end (l := [.bool false]) [] 46 ⟨rfl, rfl⟩ (.inl rfl) (by kernel_rfl) (by kernel_rfl) (by kernel_rfl)
                 ·
                  refine w_kb (t := 129) t11 (by kernel_rfl) ?_
                  refine w_p Tb_ok 27 (by kernel_rfl) ?_
                  refine wi_end (by kernel_rfl) ?_
                  refine qh_then ?_
                  refine wh_ret ?_
                  have h30 := Option.some.inj h30; subst h30
                  exact q_end (l := [.bool false]) [] 46 ⟨rfl, rfl⟩ (.inl rfl) (by kernel_rfl) (by kernel_rfl) (by kernel_rfl)
                ·
                 refine w_kb (t := 124) t10 (by kernel_rfl) ?_
                 refine w_p Tb_ok 32 (by kernel_rfl) ?_
                 refine wi_end (by kernel_rfl) ?_
                 refine qh_then ?_
                 refine wh_ret ?_
                 have h28 := Option.some.inj h28; subst h28
                 exact q_end (l := [.bool false]) [] 46 ⟨rfl, rfl⟩ (.inl rfl) (by kernel_rfl) (by kernel_rfl) (by kernel_rfl)
               ·
                refine w_kb (t := 119) t9 (by kernel_rfl) ?_
                refine w_p Tb_ok 37 (by kernel_rfl) ?_
                refine wi_end (by kernel_rfl) ?_
                refine qh_then ?_
                refine wh_ret ?_
                have h27 := Option.some.inj h27; subst h27
                exact q_end (l := [.bool false]) [] 46 ⟨rfl, rfl⟩ (.inl rfl) (by kernel_rfl) (by kernel_rfl) (by kernel_rfl)
              ·
               refine w_kb (t := 115) t8 (by kernel_rfl) ?_
               refine w_p Tb_ok 41 (by kernel_rfl) ?_
               refine wi_end (by kernel_rfl) ?_
               refine qh_then ?_
               refine wh_ret ?_
               have h26 := Option.some.inj h26; subst h26
               exact q_end (l := [.bool false]) [] 46 ⟨rfl, rfl⟩ (.inl rfl) (by kernel_rfl) (by kernel_rfl) (by kernel_rfl)
             ·
              refine w_kb (t := 110) t7 (by kernel_rfl) ?_
              refine w_p Tb_ok 46 (by kernel_rfl) ?_
              refine wi_end (by kernel_rfl) ?_
              refine qh_then ?_
              refine wh_ret ?_
              have h25 := Option.some.inj h25; subst h25
              exact q_end (l := [.bool false]) [] 46 ⟨rfl, rfl⟩ (.inl rfl) (by kernel_rfl) (by kernel_rfl) (by kernel_rfl)
            ·
             refine w_kb (t := 105) t6 (by kernel_rfl) ?_
             refine w_p Tb_ok 51 (by kernel_rfl) ?_
             refine wi_end (by kernel_rfl) ?_
             refine qh_then ?_
             refine wh_ret ?_
             have h24 := Option.some.inj h24; subst h24
             exact q_end (l := [.bool false]) [] 46 ⟨rfl, rfl⟩ (.inl rfl) (by kernel_rfl) (by kernel_rfl) (by kernel_rfl)
           ·
            refine w_kb (t := 101) t5 (by kernel_rfl) ?_
            refine w_p Tb_ok 55 (by kernel_rfl) ?_
            refine wi_end (by kernel_rfl) ?_
            refine qh_then ?_
            refine wh_ret ?_
            have h23 := Option.some.inj h23; subst h23
            exact q_end (l := [.bool false]) [] 46 ⟨rfl, rfl⟩ (.inl rfl) (by kernel_rfl) (by kernel_rfl) (by kernel_rfl)
          ·
           refine w_kb (t := 96) t4 (by kernel_rfl) ?_
           refine w_p Tb_ok 60 (by kernel_rfl) ?_
           refine wi_end (by kernel_rfl) ?_
           refine qh_then ?_
           refine wh_ret ?_
           have h22 := Option.some.inj h22; subst h22
           exact q_end (l := [.bool false]) [] 46 ⟨rfl, rfl⟩ (.inl rfl) (by kernel_rfl) (by kernel_rfl) (by kernel_rfl)
         ·
          refine w_kb (t := 91) t3 (by kernel_rfl) ?_
          refine w_p Tb_ok 65 (by kernel_rfl) ?_
          refine wi_end (by kernel_rfl) ?_
          refine qh_then ?_
          refine wh_ret ?_
          have h21 := Option.some.inj h21; subst h21
          exact q_end (l := [.bool false]) [] 46 ⟨rfl, rfl⟩ (.inl rfl) (by kernel_rfl) (by kernel_rfl) (by kernel_rfl)
        ·
         refine w_kb (t := 87) t2 (by kernel_rfl) ?_
         refine w_p Tb_ok 69 (by kernel_rfl) ?_
         refine wi_end (by kernel_rfl) ?_
         refine qh_then ?_
         refine wh_ret ?_
         have h20 := Option.some.inj h20; subst h20
         exact q_end (l := [.bool false]) [] 46 ⟨rfl, rfl⟩ (.inl rfl) (by kernel_rfl) (by kernel_rfl) (by kernel_rfl)
       ·
        refine w_kb (t := 82) t1 (by kernel_rfl) ?_
        refine w_p Tb_ok 74 (by kernel_rfl) ?_
        refine wi_end (by kernel_rfl) ?_
        refine qh_then ?_
        refine wh_ret ?_
        have h19 := Option.some.inj h19; subst h19
        exact q_end (l := [.bool false]) [] 46 ⟨rfl, rfl⟩ (.inl rfl) (by kernel_rfl) (by kernel_rfl) (by kernel_rfl)
theorem c_privitylaw25_few {p_l : List T_api_Triple} {vp_l_1 : Value} {r : Bool} (h : privitylaw25_few p_l = some r) : Ct Tryd.prog 50 [vp_l_1] [rdV K_api_Triple vp_l_1 p_l] (fun v L => v = .bool r ∧ L = []) := by
 refine ct_intro Tryd.func50 rfl (by kernel_rfl) (fun F => ?_)
 unfold privitylaw25_few at h
 refine wh_seq ?_
 refine wh_region ?_
 refine w_p Tb_ok 1 (by kernel_rfl) ?_
 refine wi_end (by kernel_rfl) ?_
 refine qh_then ?_
 refine wh_seq ?_
 refine wh_seq ?_
 refine wh_region ?_
 refine w_p Tb_ok 1 (by kernel_rfl) ?_
 refine w_len (rd_hd 0 rfl) (by kernel_rfl) ts_79 ?_
 refine w_p Tb_ok 1 (by kernel_rfl) ?_
 refine wi_end (by kernel_rfl) ?_
 refine qh_then ?_
 rcases bcase h with ⟨t1, h1⟩ | ⟨t1, h1⟩
 ·
  refine h_ct (b := (decide (((p_l.length : Nat) : Int) > (20 : Int)))) t1 (by kernel_rfl) ?_
  refine wh_seq ?_
  refine wh_region ?_
  refine w_p Tb_ok 1 (by kernel_rfl) ?_
  refine wi_end (by kernel_rfl) ?_
  refine qh_then ?_
  refine wh_ret ?_
  refine qh_then_ret ?_
  have h1 := Option.some.inj h1; subst h1
  exact q_end (l := [.bool false]) [] 1 ⟨rfl, rfl⟩ (.inl rfl) (by kernel_rfl) (by kernel_rfl) (by kernel_rfl)
 ·
  refine h_cf (b := (decide (((p_l.length : Nat) : Int) > (20 : Int)))) t1 (by kernel_rfl) ?_
  refine wh_skip ?_
  refine qh_then ?_
  refine wh_seq ?_
  refine wh_seq ?_
  refine wh_region ?_
  refine w_p Tb_ok 1 (by kernel_rfl) ?_
  refine wi_end (by kernel_rfl) ?_
  refine qh_then ?_
  refine h_lenle (rd_lenle 0 rfl) (fun hN1 => ?_)
  obtain ⟨r1, el1, h2⟩ := bnd h1
  refine h_join (X := Unit × Unit) (fun g => []) (fun g => [] ++ F) (fun g => r1 = .go g.2) ?_ ?_
  ·
   refine wh_block ?_
   refine h_rg (fun (k1 : Nat) (st : Unit) (g : Unit) => [(0, vp_l_1), (3, .int .i64 ((k1 : Nat) : Int))]) (fun (k1 : Nat) (st : Unit) (g : Unit) => [rdV K_api_Triple vp_l_1 p_l] ++ F) () el1 (Nat.zero_le _) aK (tH [(0, true)] 1) ?_ ?_
   ·
    rintro ⟨⟩ ⟨⟩ hr1 j
    refine wh_seq ?_
    refine wh_seq ?_
    refine wh_region ?_
    refine w_p Tb_ok 2 (by kernel_rfl) ?_
    refine w_len (rd_hd 0 rfl) (by kernel_rfl) ts_79 ?_
    refine w_p Tb_ok 1 (by kernel_rfl) ?_
    refine wi_end (by kernel_rfl) ?_
    refine qh_then ?_
    refine h_cf (b := (decide ((((p_l.length) : Nat) : Int) < ((p_l.length : Nat) : Int)))) rgF (by kernel_rfl) ?_
    refine wh_exit ?_
    refine qh_then_exit ?_
    refine q_rzX ?_
    refine qh_block_exit ?_
    exact q_join ((), ()) hr1 aK (tH [] 1)
   ·
    rintro rem k1 ⟨⟩ ⟨⟩ o1 hk1 h3 hn1 j
    have h3 : privitylaw25_few_L0 p_l k1 = some o1 := h3
    unfold privitylaw25_few_L0 at h3
    refine wh_seq ?_
    refine wh_seq ?_
    refine wh_region ?_
    refine w_p Tb_ok 2 (by kernel_rfl) ?_
    refine w_len (rd_hd 0 rfl) (by kernel_rfl) ts_79 ?_
    refine w_p Tb_ok 1 (by kernel_rfl) ?_
    refine wi_end (by kernel_rfl) ?_
    refine qh_then ?_
    refine h_ct (b := (decide (((k1 : Nat) : Int) < ((p_l.length : Nat) : Int)))) (rgT hk1) (by kernel_rfl) ?_
    refine wh_skip ?_
    refine qh_then ?_
    refine wh_seq ?_
    refine wh_block ?_
    refine wh_seq ?_
    refine wh_region ?_
    refine w_p Tb_ok 2 (by kernel_rfl) ?_
    obtain ⟨x1, ex1, h4⟩ := bnd h3
    refine w_ix (k := .i64) (rd_hd 0 rfl) (nbd ex1) rfl (by kernel_rfl) ts_79 ti_101 ?_
    refine w_p Tb_ok 1 (by kernel_rfl) ?_
    refine w_ldR 0 0 rfl ex1 (by kernel_rfl) ti_44 rfl rfl ?_
    rintro ⟨v1, v2, v3⟩
    refine w_len (rd_hd 0 rfl) (by kernel_rfl) ts_44 ?_
    refine w_p Tb_ok 2 (by kernel_rfl) ?_
    rcases bcase h4 with ⟨t2, h5⟩ | ⟨t2, h5⟩
    ·
     refine w_kb (t := 20) t2 (by kernel_rfl) ?_
     refine w_p Tb_ok 17 (by kernel_rfl) ?_
     refine wi_end (by kernel_rfl) ?_
     refine qh_then ?_
     refine h_ct (b := true) rfl (by kernel_rfl) ?_
     refine wh_seq ?_
     refine wh_region ?_
     refine w_p Tb_ok 1 (by kernel_rfl) ?_
     refine wi_end (by kernel_rfl) ?_
     refine qh_then ?_
     refine wh_ret ?_
     refine qh_block_ret ?_
     refine qh_then_ret ?_
     refine q_rgR ?_
     refine qh_block_ret ?_
     refine q_joinR ?_
     refine qh_then_ret ?_
     have h5 := Option.some.inj h5; subst h5
     have hn := (show _ = _ from hn1); subst hn
     have h2 := Option.some.inj (show some _ = some _ from h2); subst h2
     exact q_end (l := [.bool false]) [] 4 ⟨rfl, rfl⟩ (.inl rfl) (by kernel_rfl) (by kernel_rfl) (by kernel_rfl)
    ·
     refine w_kb (t := 20) t2 (by kernel_rfl) ?_
     refine w_p Tb_ok 2 (by kernel_rfl) ?_
     refine w_ix (k := .i64) (rd_hd 3 rfl) (nbd ex1) rfl (by kernel_rfl) ts_79 ti_101 ?_
     refine w_p Tb_ok 1 (by kernel_rfl) ?_
     refine w_ldR 3 1 rfl ex1 (by kernel_rfl) ti_44 rfl rfl ?_
     rintro ⟨v4, v5, v6⟩
     refine w_len (rd_hd 1 rfl) (by kernel_rfl) ts_44 ?_
     refine w_p Tb_ok 3 (by kernel_rfl) ?_
     rcases bcase h5 with ⟨t3, h6⟩ | ⟨t3, h6⟩
     ·
      refine w_kb (t := 29) t3 (by kernel_rfl) ?_
      refine w_p Tb_ok 8 (by kernel_rfl) ?_
      refine wi_end (by kernel_rfl) ?_
      refine qh_then ?_
      refine h_ct (b := true) rfl (by kernel_rfl) ?_
      refine wh_seq ?_
      refine wh_region ?_
      refine w_p Tb_ok 1 (by kernel_rfl) ?_
      refine wi_end (by kernel_rfl) ?_
      refine qh_then ?_
      refine wh_ret ?_
      refine qh_block_ret ?_
      refine qh_then_ret ?_
      refine q_rgR ?_
      refine qh_block_ret ?_
      refine q_joinR ?_
      refine qh_then_ret ?_
      have h6 := Option.some.inj h6; subst h6
      have hn := (show _ = _ from hn1); subst hn
      have h2 := Option.some.inj (show some _ = some _ from h2); subst h2
      exact q_end (l := [.bool false]) [] 7 ⟨rfl, rfl⟩ (.inl rfl) (by kernel_rfl) (by kernel_rfl) (by kernel_rfl)
     ·
      refine w_kb (t := 29) t3 (by kernel_rfl) ?_
      refine w_p Tb_ok 2 (by kernel_rfl) ?_
      refine w_ix (k := .i64) (rd_hd 6 rfl) (nbd ex1) rfl (by kernel_rfl) ts_79 ti_101 ?_
      refine w_p Tb_ok 1 (by kernel_rfl) ?_
      refine w_ldR 6 2 rfl ex1 (by kernel_rfl) ti_44 rfl rfl ?_
      rintro ⟨v7, v8, v9⟩
      refine w_len (rd_hd 2 rfl) (by kernel_rfl) ts_44 ?_
      refine w_p Tb_ok 2 (by kernel_rfl) ?_
      refine wi_end (by kernel_rfl) ?_
      refine qh_then ?_
      rcases bcase h6 with ⟨t4, h7⟩ | ⟨t4, h7⟩
      ·
       refine h_ct (b := (decide (((x1.C.length : Nat) : Int) > (6 : Int)))) t4 (by kernel_rfl) ?_
       refine wh_seq ?_
       refine wh_region ?_
       refine w_p Tb_ok 1 (by kernel_rfl) ?_
       refine wi_end (by kernel_rfl) ?_
       refine qh_then ?_
       refine wh_ret ?_
       refine qh_block_ret ?_
       refine qh_then_ret ?_
       refine q_rgR ?_
       refine qh_block_ret ?_
       refine q_joinR ?_
       refine qh_then_ret ?_
       have h7 := Option.some.inj h7; subst h7
       have hn := (show _ = _ from hn1); subst hn
       have h2 := Option.some.inj (show some _ = some _ from h2); subst h2
       exact q_end (l := [.bool false]) [] 10 ⟨rfl, rfl⟩ (.inl rfl) (by kernel_rfl) (by kernel_rfl) (by kernel_rfl)
      ·
       refine h_cf (b := (decide (((x1.C.length : Nat) : Int) > (6 : Int)))) t4 (by kernel_rfl) ?_
       refine wh_skip ?_
       refine qh_block_normal ?_
       refine qh_then ?_
       refine wh_region ?_
       refine w_p Tb_ok 1 (by kernel_rfl) ?_
       refine w_bi (zinc hk1 hN1) (by kernel_rfl) ?_
       refine w_p Tb_ok 1 (by kernel_rfl) ?_
       refine wi_end (by kernel_rfl) ?_
       have h7 := Option.some.inj h7; subst h7
       exact q_rgo () hn1 aK (tH [(9, true)] 10)
  ·
   rintro ⟨⟨⟩, ⟨⟩⟩ hc j
   subst hc
   refine qh_then ?_
   refine wh_seq ?_
   refine wh_region ?_
   refine w_p Tb_ok 1 (by kernel_rfl) ?_
   refine wi_end (by kernel_rfl) ?_
   refine qh_then ?_
   refine wh_ret ?_
   have h2 := Option.some.inj h2; subst h2
   exact q_end (l := [.bool true]) [] 0 ⟨rfl, rfl⟩ (.inl rfl) (by kernel_rfl) (by kernel_rfl) (by kernel_rfl)
theorem c_privityref25_Take {p_l : T_api_Ledger} {p_m : Int} {vp_l_1 : Value} {r : (List T_api_Triple) × T_api_Ledger × Int} (h : privityref25_Take p_l p_m = some r) : Ct Tryd.prog 52 [.agg #[vp_l_1, .int .i64 p_l.Used], .int .i64 p_m] [rdV K_api_Triple vp_l_1 p_l.Made] (fun v L => ∃ w0 w1_0 : Value, v = .tuple #[w0, .agg #[w1_0, .int .i64 r.2.1.Used], .int .i64 r.2.2] ∧ L = [rdV K_api_Triple w0 r.1, rdV K_api_Triple w1_0 r.2.1.Made]) := by
 refine ct_intro Tryd.func52 rfl (by kernel_rfl) (fun F => ?_)
 unfold privityref25_Take at h
 refine wh_seq ?_
 refine wh_region ?_
 refine w_box (t := 81) (v := .agg #[vp_l_1, .int .i64 p_l.Used]) (cs := [vp_l_1, .int .i64 p_l.Used]) (cv0 (by kernel_rfl)) (by kernel_rfl) (fun q1 => ?_)
 refine WI.hd (y := blkP q1 81 [vp_l_1, .int .i64 p_l.Used]) (by kernel_rfl) ?_
 refine w_opP 0 rfl (fun b1 hb => ?_)
 subst hb
 refine w_p Tb_ok 1 (by kernel_rfl) ?_
 refine w_al (by kernel_rfl) ti_81 (fun q2 => ?_)
 refine WI.hd (y := blkP q2 81 [(.slice none 0 0), .int .i64 ((0 : Nat) : Int)]) (by kernel_rfl) ?_
 refine w_opP 0 rfl (fun b2 hb => ?_)
 subst hb
 refine w_p Tb_ok 1 (by kernel_rfl) ?_
 refine wi_end (by kernel_rfl) ?_
 refine qh_then ?_
 refine wh_seq ?_
 refine wh_seq ?_
 obtain ⟨x1, ej1, h1⟩ := bnd h
 refine h_join (X := Unit) (fun g => [(1, .int .i64 p_m), (2, (.pointer (some ⟨b1, 0, none⟩))), (5, (.pointer (some ⟨b2, 0, none⟩))), (31, .bool x1)]) (fun g => [blkP (.pointer (some ⟨b1, 0, none⟩)) 81 [vp_l_1, .int .i64 p_l.Used], rdV K_api_Triple vp_l_1 p_l.Made, blkP (.pointer (some ⟨b2, 0, none⟩)) 81 [(.slice none 0 0), .int .i64 ((0 : Nat) : Int)]] ++ F) (fun _ => True) ?_ ?_
 ·
  refine wh_region ?_
  refine w_p Tb_ok 3 (by kernel_rfl) ?_
  rcases bcase ej1 with ⟨t1, h2⟩ | ⟨t1, h2⟩
  ·
   refine w_kb (t := 9) t1 (by kernel_rfl) ?_
   refine w_p Tb_ok 22 (by kernel_rfl) ?_
   refine wi_end (by kernel_rfl) ?_
   cases h2
   exact q_join () trivial aK (tH [(1, false), (1, true), (0, false)] 1)
  ·
   refine w_kb (t := 9) t1 (by kernel_rfl) ?_
   refine w_p Tb_ok 1 (by kernel_rfl) ?_
   refine w_ldB 1 1 rfl (by kernel_rfl) ti_3 rfl rfl ?_
   refine w_p Tb_ok 3 (by kernel_rfl) ?_
   rcases bcase h2 with ⟨t2, h3⟩ | ⟨t2, h3⟩
   ·
    refine w_kb (t := 14) t2 (by kernel_rfl) ?_
    refine w_p Tb_ok 17 (by kernel_rfl) ?_
    refine wi_end (by kernel_rfl) ?_
    cases h3
    exact q_join () trivial aK (tH [(1, false), (1, true), (0, false)] 1)
   ·
    refine w_kb (t := 14) t2 (by kernel_rfl) ?_
    refine w_p Tb_ok 1 (by kernel_rfl) ?_
    refine w_ldB 1 1 rfl (by kernel_rfl) ti_3 rfl rfl ?_
    refine w_p Tb_ok 1 (by kernel_rfl) ?_
    refine w_ldB 1 0 rfl (by kernel_rfl) ti_79 rfl rfl ?_
    refine w_len (rd_hd 2 rfl) (by kernel_rfl) ts_79 ?_
    refine w_p Tb_ok 3 (by kernel_rfl) ?_
    rcases bcase h3 with ⟨t3, h4⟩ | ⟨t3, h4⟩
    ·
     refine w_kb (t := 22) t3 (by kernel_rfl) ?_
     refine w_p Tb_ok 9 (by kernel_rfl) ?_
     refine wi_end (by kernel_rfl) ?_
     cases h4
     exact q_join () trivial aK (tH [(1, false), (1, true), (0, false)] 1)
    ·
     refine w_kb (t := 22) t3 (by kernel_rfl) ?_
     refine w_p Tb_ok 2 (by kernel_rfl) ?_
     refine w_ldB 1 0 rfl (by kernel_rfl) ti_79 rfl rfl ?_
     refine w_len (rd_hd 2 rfl) (by kernel_rfl) ts_79 ?_
     refine w_p Tb_ok 1 (by kernel_rfl) ?_
     refine w_ldB 1 1 rfl (by kernel_rfl) ti_3 rfl rfl ?_
     obtain ⟨x2, ex2, h5⟩ := bnd h4
     refine w_bi (zsubI ex2) (by kernel_rfl) ?_
     refine w_p Tb_ok 2 (by kernel_rfl) ?_
     refine wi_end (by kernel_rfl) ?_
     cases h5
     exact q_join () trivial aK (tH [(1, false), (1, true), (0, false)] 1)
 ·
  rintro ⟨⟩ - j
  refine qh_then ?_
  rcases bcase h1 with ⟨t4, h6⟩ | ⟨t4, h6⟩
  ·
   refine h_ct (b := x1) t4 (by kernel_rfl) ?_
   refine wh_seq ?_
   refine h_flow [0, 0, 3, 7] ⟨3, [0, 0, 1, 0], [(2, [(0, 2)])], [(0, [(0, 0)])], [(2, [(0, 1)])]⟩ (fun γ => [.agg #[vp_l_1, .int .i64 p_l.Used], (.slice none 0 0), undef, .int .i64 ((12 : Nat) : Int)]) (fun i γ => match i with | 2 => [blkP (.pointer (some ⟨b2, 0, none⟩)) 81 [vp_l_1, .int .i64 p_l.Used]] | _ => []) (fun γ => [blkP (.pointer (some ⟨b1, 0, none⟩)) 81 [vp_l_1, .int .i64 p_l.Used], rdV K_api_Triple vp_l_1 p_l.Made, blkP (.pointer (some ⟨b2, 0, none⟩)) 81 [vp_l_1, .int .i64 p_l.Used]] ++ F) [1, 3] tryd_mix Tb_ok (by kernel_rfl) (by kernel_rfl) (fun _ => by kernel_rfl) (fun _ => by kernel_rfl) (fun _ => by kernel_rfl) (fun _ => by kernel_rfl) (fun _ => by kernel_rfl) (fun _ => by kernel_rfl) (fun _ => by kernel_rfl) ?_ ?_
   ·
    refine ⟨?_, ?_, trivial⟩
    ·
     intro γ F
     refine WI.reH (H' := [blkP (.pointer (some ⟨b1, 0, none⟩)) 81 [vp_l_1, .int .i64 p_l.Used]] ++ F) (by kernel_rfl) ?_
     refine w_ldB 0 0 rfl (by kernel_rfl) ti_81 rfl rfl ?_
     exact wE (gl []) [(0, false)] 0
    ·
     intro γ F
     refine WI.reH (H' := [blkP (.pointer (some ⟨b2, 0, none⟩)) 81 [(.slice none 0 0), .int .i64 ((0 : Nat) : Int)], rdV K_api_Triple vp_l_1 p_l.Made] ++ F) (by kernel_rfl) ?_
     refine w_stB (v := .agg #[vp_l_1, .int .i64 p_l.Used]) (off := 0) (cs := [vp_l_1, .int .i64 p_l.Used]) 0 rfl (cv0 (by kernel_rfl)) (by kernel_rfl) ti_81 rfl rfl (oC (sl_one (rd_hd 1 rfl)) (oC (fun _ _ => rfl) oN)) ?_
     refine WI.hd (y := blkP (.pointer (some ⟨b2, 0, none⟩)) 81 [vp_l_1, .int .i64 p_l.Used]) (by kernel_rfl) ?_
     exact wE (gl []) [(0, false)] 1
   ·
    intro γ1
    refine qh_then ?_
    refine wh_ret ?_
    refine qh_then_ret ?_
    refine QH.ent (rdNil (kd := K_api_Triple)) ?_
    have h6 := Option.some.inj h6; subst h6
    exact q_endc (l := [(.slice none 0 0), .agg #[vp_l_1, .int .i64 p_l.Used], .int .i64 ((12 : Nat) : Int)]) [.slot, .blk 3 81 81, .slot] [(0, true), (2, true)] 4 ⟨(.slice none 0 0), vp_l_1, rfl, rfl⟩ (.inl rfl) ⟨by kernel_rfl, cellR (p := (.pointer (some ⟨b2, 0, none⟩))) 3 rfl (by kernel_rfl) ti_81 rfl (by kernel_rfl), by kernel_rfl, rfl⟩ (by kernel_rfl) (by kernel_rfl)
  ·
   refine h_cf (b := x1) t4 (by kernel_rfl) ?_
   refine wh_skip ?_
   refine qh_then ?_
   refine wh_seq ?_
   obtain ⟨x3, ex3, h7⟩ := bnd h6
   obtain ⟨l1, el1, h8⟩ := bnd h7
   refine h_flow [0, 1, 0, 4, 0, 16, 0, 112, 255, 0, 512, 0, 2048, 0, 14336, 32256, 511, 131071, 262143] ⟨3, [0, 0, 0, 0, 0, 0, 0, 0, 1, 0, 0, 0, 0, 0, 0, 0, 0, 1, 0], [(17, [(0, 2)])], [(1, [(0, 0)]), (3, [(0, 0)]), (5, [(0, 0)]), (10, [(0, 0)]), (12, [(0, 0)])], [(8, [(0, 1)]), (15, [(0, 1)]), (17, [(0, 1)])]⟩ (fun γ => [.pointer (some ⟨b1, 0, none⟩), vp_l_1, .pointer (some ⟨b1, 1, none⟩), .int .i64 p_l.Used, .pointer (some ⟨b1, 1, none⟩), .int .i64 p_l.Used, .int .i64 p_m, .int .i64 x3, (γ 8 0), .pointer (some ⟨b1, 0, none⟩), vp_l_1, .pointer (some ⟨b1, 1, none⟩), .int .i64 p_l.Used, .int .i64 p_m, .int .i64 x3, .agg #[vp_l_1, .int .i64 x3], (γ 8 0), undef, .int .i64 ((0 : Nat) : Int)]) (fun i γ => match i with | 8 => [rdV K_api_Triple (γ 8 0) l1] | 17 => [blkP (.pointer (some ⟨b2, 0, none⟩)) 81 [vp_l_1, .int .i64 x3]] | _ => []) (fun γ => [blkP (.pointer (some ⟨b1, 0, none⟩)) 81 [vp_l_1, .int .i64 p_l.Used], rdV K_api_Triple vp_l_1 p_l.Made, rdV K_api_Triple (γ 8 0) l1, blkP (.pointer (some ⟨b2, 0, none⟩)) 81 [vp_l_1, .int .i64 x3]] ++ F) [0, 2, 4, 6, 9, 11, 13, 16, 18] tryd_mix Tb_ok (by kernel_rfl) (by kernel_rfl) (fun _ => by kernel_rfl) (fun _ => by kernel_rfl) (fun _ => by kernel_rfl) (fun _ => by kernel_rfl) (fun _ => by kernel_rfl) (fun _ => by kernel_rfl) (fun _ => by kernel_rfl) ?_ ?_
   ·
    refine ⟨?_, ?_, ?_, ?_, ?_, ?_, ?_, ?_, ?_, ?_, trivial⟩
    ·
     intro γ F
     refine WI.reH (H' := [blkP (.pointer (some ⟨b1, 0, none⟩)) 81 [vp_l_1, .int .i64 p_l.Used]] ++ F) (by kernel_rfl) ?_
     refine w_ldB 0 0 rfl (by kernel_rfl) ti_79 rfl rfl ?_
     exact wE (gl []) [(0, false)] 0
    ·
     intro γ F
     refine WI.reH (H' := [blkP (.pointer (some ⟨b1, 0, none⟩)) 81 [vp_l_1, .int .i64 p_l.Used]] ++ F) (by kernel_rfl) ?_
     refine w_ldB 0 1 rfl (by kernel_rfl) ti_3 rfl rfl ?_
     exact wE (gl []) [(0, false)] 0
    ·
     intro γ F
     refine WI.reH (H' := [blkP (.pointer (some ⟨b1, 0, none⟩)) 81 [vp_l_1, .int .i64 p_l.Used]] ++ F) (by kernel_rfl) ?_
     refine w_ldB 0 1 rfl (by kernel_rfl) ti_3 rfl rfl ?_
     exact wE (gl []) [(0, false)] 0
    ·
     intro γ F
     refine WI.reH (H' := [] ++ F) (by kernel_rfl) ?_
     refine w_bi (zaddI ex3) (by kernel_rfl) ?_
     exact wE (gl []) [] 0
    ·
     intro γ F
     refine WI.reH (H' := [rdV K_api_Triple vp_l_1 p_l.Made] ++ F) (by kernel_rfl) ?_
     refine w_cut 0 rfl el1 (loS (k := .i64)) (hiS (k := .i64)) (by kernel_rfl) ts_79 ti_101 (fun v1 => ?_)
     exact wE (gl [v1]) [(0, true)] 2
    ·
     intro γ F
     refine WI.reH (H' := [blkP (.pointer (some ⟨b1, 0, none⟩)) 81 [vp_l_1, .int .i64 p_l.Used]] ++ F) (by kernel_rfl) ?_
     refine w_ldB 0 0 rfl (by kernel_rfl) ti_79 rfl rfl ?_
     exact wE (gl []) [(0, false)] 0
    ·
     intro γ F
     refine WI.reH (H' := [blkP (.pointer (some ⟨b1, 0, none⟩)) 81 [vp_l_1, .int .i64 p_l.Used]] ++ F) (by kernel_rfl) ?_
     refine w_ldB 0 1 rfl (by kernel_rfl) ti_3 rfl rfl ?_
     exact wE (gl []) [(0, false)] 0
    ·
     intro γ F
     refine WI.reH (H' := [] ++ F) (by kernel_rfl) ?_
     refine w_bi (zaddI ex3) (by kernel_rfl) ?_
     exact wE (gl []) [] 0
    ·
     intro γ F
     refine WI.reH (H' := [rdV K_api_Triple vp_l_1 p_l.Made] ++ F) (by kernel_rfl) ?_
     refine w_bd (v := .agg #[vp_l_1, .int .i64 x3]) (t := 81) (ps0 := [(0, vp_l_1), (1, .int .i64 x3)]) (ps := [(0, .agg #[vp_l_1]), (1, .int .i64 x3)]) (scS (rd_hd 0 rfl) (scI sc0)) (by kernel_rfl) (fun w => by kernel_rfl) ?_
     exact wE (gl []) [] 1
    ·
     intro γ F
     refine WI.reH (H' := [blkP (.pointer (some ⟨b2, 0, none⟩)) 81 [(.slice none 0 0), .int .i64 ((0 : Nat) : Int)], rdV K_api_Triple vp_l_1 p_l.Made] ++ F) (by kernel_rfl) ?_
     refine w_stB (v := .agg #[vp_l_1, .int .i64 x3]) (off := 0) (cs := [vp_l_1, .int .i64 x3]) 0 rfl (cv0 (by kernel_rfl)) (by kernel_rfl) ti_81 rfl rfl (oC (sl_one (rd_hd 1 rfl)) (oC (fun _ _ => rfl) oN)) ?_
     refine WI.hd (y := blkP (.pointer (some ⟨b2, 0, none⟩)) 81 [vp_l_1, .int .i64 x3]) (by kernel_rfl) ?_
     exact wE (gl []) [(0, false)] 1
   ·
    intro γ2
    refine qh_then ?_
    refine wh_ret ?_
    have h8 := Option.some.inj h8; subst h8
    exact q_endc (l := [(γ2 8 0), .agg #[vp_l_1, .int .i64 x3], .int .i64 ((0 : Nat) : Int)]) [.slot, .blk 3 81 81, .slot] [(2, true), (1, true)] 4 ⟨(γ2 8 0), vp_l_1, rfl, rfl⟩ (.inl rfl) ⟨by kernel_rfl, cellR (p := (.pointer (some ⟨b2, 0, none⟩))) 3 rfl (by kernel_rfl) ti_81 rfl (by kernel_rfl), by kernel_rfl, rfl⟩ (by kernel_rfl) (by kernel_rfl)
theorem c_privityref14_Words {p_a : List Nat} {p_b : List Nat} {vp_a_1 : Value} {vp_b_1 : Value} {r : Bool} (h : privityref14_Words p_a p_b = some r) : Ct Tryd.prog 27 [vp_a_1, vp_b_1] [rdV Kd.u64 vp_a_1 p_a, rdV Kd.u64 vp_b_1 p_b] (fun v L => v = .bool r ∧ L = []) := by
 refine ct_intro Tryd.func27 rfl (by kernel_rfl) (fun F => ?_)
 unfold privityref14_Words at h
 refine wh_seq ?_
 refine wh_region ?_
 refine w_p Tb_ok 1 (by kernel_rfl) ?_
 refine wi_end (by kernel_rfl) ?_
 refine qh_then ?_
 refine wh_seq ?_
 refine wh_seq ?_
 refine wh_region ?_
 refine w_p Tb_ok 1 (by kernel_rfl) ?_
 refine w_len (rd_hd 0 rfl) (by kernel_rfl) ts_30 ?_
 refine w_p Tb_ok 1 (by kernel_rfl) ?_
 refine w_len (rd_hd 1 rfl) (by kernel_rfl) ts_30 ?_
 refine w_p Tb_ok 1 (by kernel_rfl) ?_
 refine wi_end (by kernel_rfl) ?_
 refine qh_then ?_
 rcases bcase h with ⟨t1, h1⟩ | ⟨t1, h1⟩
 ·
  refine h_ct (b := (((p_a.length : Nat) : Int) != ((p_b.length : Nat) : Int))) t1 (by kernel_rfl) ?_
  refine wh_seq ?_
  refine wh_region ?_
  refine w_p Tb_ok 1 (by kernel_rfl) ?_
  refine wi_end (by kernel_rfl) ?_
  refine qh_then ?_
  refine wh_ret ?_
  refine qh_then_ret ?_
  have h1 := Option.some.inj h1; subst h1
  exact q_end (l := [.bool false]) [] 2 ⟨rfl, rfl⟩ (.inl rfl) (by kernel_rfl) (by kernel_rfl) (by kernel_rfl)
 ·
  refine h_cf (b := (((p_a.length : Nat) : Int) != ((p_b.length : Nat) : Int))) t1 (by kernel_rfl) ?_
  refine wh_skip ?_
  refine qh_then ?_
  refine wh_seq ?_
  refine wh_seq ?_
  refine wh_region ?_
  refine w_p Tb_ok 1 (by kernel_rfl) ?_
  refine wi_end (by kernel_rfl) ?_
  refine qh_then ?_
  refine h_lenle (rd_lenle 0 rfl) (fun hN1 => ?_)
  obtain ⟨r1, el1, h2⟩ := bnd h1
  refine h_join (X := Unit × Unit) (fun g => []) (fun g => [] ++ F) (fun g => r1 = .go g.2) ?_ ?_
  ·
   refine wh_block ?_
   refine h_rg (fun (k1 : Nat) (st : Unit) (g : Unit) => [(0, vp_a_1), (1, vp_b_1), (5, .int .i64 ((k1 : Nat) : Int))]) (fun (k1 : Nat) (st : Unit) (g : Unit) => [rdV Kd.u64 vp_a_1 p_a, rdV Kd.u64 vp_b_1 p_b] ++ F) () el1 (Nat.zero_le _) aK (tH [(0, true), (1, true)] 2) ?_ ?_
   ·
    rintro ⟨⟩ ⟨⟩ hr1 j
    refine wh_seq ?_
    refine wh_seq ?_
    refine wh_region ?_
    refine w_p Tb_ok 2 (by kernel_rfl) ?_
    refine w_len (rd_hd 0 rfl) (by kernel_rfl) ts_30 ?_
    refine w_p Tb_ok 1 (by kernel_rfl) ?_
    refine wi_end (by kernel_rfl) ?_
    refine qh_then ?_
    refine h_cf (b := (decide ((((p_a.length) : Nat) : Int) < ((p_a.length : Nat) : Int)))) rgF (by kernel_rfl) ?_
    refine wh_exit ?_
    refine qh_then_exit ?_
    refine q_rzX ?_
    refine qh_block_exit ?_
    exact q_join ((), ()) hr1 aK (tH [] 2)
   ·
    rintro rem k1 ⟨⟩ ⟨⟩ o1 hk1 h3 hn1 j
    have h3 : privityref14_Words_L0 p_a p_b k1 = some o1 := h3
    unfold privityref14_Words_L0 at h3
    refine wh_seq ?_
    refine wh_seq ?_
    refine wh_region ?_
    refine w_p Tb_ok 2 (by kernel_rfl) ?_
    refine w_len (rd_hd 0 rfl) (by kernel_rfl) ts_30 ?_
    refine w_p Tb_ok 1 (by kernel_rfl) ?_
    refine wi_end (by kernel_rfl) ?_
    refine qh_then ?_
    refine h_ct (b := (decide (((k1 : Nat) : Int) < ((p_a.length : Nat) : Int)))) (rgT hk1) (by kernel_rfl) ?_
    refine wh_skip ?_
    refine qh_then ?_
    refine wh_seq ?_
    refine wh_block ?_
    refine wh_seq ?_
    obtain ⟨x1, ex1, h4⟩ := bnd h3
    obtain ⟨x2, ex2, h5⟩ := bnd h4
    refine h_flow [0, 0, 3, 7, 0, 0, 48, 112, 255] ⟨2, [0, 0, 0, 0, 0, 0, 0, 0, 0], [], [], [(2, [(0, 0)]), (3, [(0, 0)]), (6, [(0, 1)]), (7, [(0, 1)])]⟩ (fun γ => [vp_a_1, .int .i64 ((k1 : Nat) : Int), .pointer (some (elV vp_a_1 (k1 * Kd.u64.size))), .int .u64 x1, vp_b_1, .int .i64 ((k1 : Nat) : Int), .pointer (some (elV vp_b_1 (k1 * Kd.u64.size))), .int .u64 x2, .bool (((x1 : Nat) : Int) != ((x2 : Nat) : Int))]) (fun _ _ => []) (fun γ => [rdV Kd.u64 vp_a_1 p_a, rdV Kd.u64 vp_b_1 p_b] ++ F) [0, 1, 4, 5, 8] tryd_mix Tb_ok (by kernel_rfl) (by kernel_rfl) (fun _ => by kernel_rfl) (fun _ => by kernel_rfl) (fun _ => by kernel_rfl) (fun _ => by kernel_rfl) (fun _ => by kernel_rfl) (fun _ => by kernel_rfl) (fun _ => by kernel_rfl) ?_ ?_
    ·
     refine ⟨?_, ?_, ?_, ?_, trivial⟩
     ·
      intro γ F
      refine WI.reH (H' := [rdV Kd.u64 vp_a_1 p_a] ++ F) (by kernel_rfl) ?_
      refine w_ix (k := .i64) (rd_hd 0 rfl) (nbd ex1) rfl (by kernel_rfl) ts_30 ti_22 ?_
      exact wE (gl []) [] 1
     ·
      intro γ F
      refine WI.reH (H' := [rdV Kd.u64 vp_a_1 p_a] ++ F) (by kernel_rfl) ?_
      refine w_ldR 0 0 rfl ex1 (by kernel_rfl) ti_22 rfl rfl ?_
      rintro _
      exact wE (gl []) [] 1
     ·
      intro γ F
      refine WI.reH (H' := [rdV Kd.u64 vp_b_1 p_b] ++ F) (by kernel_rfl) ?_
      refine w_ix (k := .i64) (rd_hd 0 rfl) (nbd ex2) rfl (by kernel_rfl) ts_30 ti_22 ?_
      exact wE (gl []) [] 1
     ·
      intro γ F
      refine WI.reH (H' := [rdV Kd.u64 vp_b_1 p_b] ++ F) (by kernel_rfl) ?_
      refine w_ldR 0 0 rfl ex2 (by kernel_rfl) ti_22 rfl rfl ?_
      rintro _
      exact wE (gl []) [] 1
    ·
     intro γ1
     refine qh_then ?_
     rcases bcase h5 with ⟨t2, h6⟩ | ⟨t2, h6⟩
     ·
      refine h_ct (b := (((x1 : Nat) : Int) != ((x2 : Nat) : Int))) t2 (by kernel_rfl) ?_
      refine wh_seq ?_
      refine wh_region ?_
      refine w_p Tb_ok 1 (by kernel_rfl) ?_
      refine wi_end (by kernel_rfl) ?_
      refine qh_then ?_
      refine wh_ret ?_
      refine qh_block_ret ?_
      refine qh_then_ret ?_
      refine q_rgR ?_
      refine qh_block_ret ?_
      refine q_joinR ?_
      refine qh_then_ret ?_
      have h6 := Option.some.inj h6; subst h6
      have hn := (show _ = _ from hn1); subst hn
      have h2 := Option.some.inj (show some _ = some _ from h2); subst h2
      exact q_end (l := [.bool false]) [] 2 ⟨rfl, rfl⟩ (.inl rfl) (by kernel_rfl) (by kernel_rfl) (by kernel_rfl)
     ·
      refine h_cf (b := (((x1 : Nat) : Int) != ((x2 : Nat) : Int))) t2 (by kernel_rfl) ?_
      refine wh_skip ?_
      refine qh_block_normal ?_
      refine qh_then ?_
      refine wh_region ?_
      refine w_p Tb_ok 1 (by kernel_rfl) ?_
      refine w_bi (zinc hk1 hN1) (by kernel_rfl) ?_
      refine w_p Tb_ok 1 (by kernel_rfl) ?_
      refine wi_end (by kernel_rfl) ?_
      have h6 := Option.some.inj h6; subst h6
      exact q_rgo () hn1 aK (tH [(0, true), (1, true)] 2)
  ·
   rintro ⟨⟨⟩, ⟨⟩⟩ hc j
   subst hc
   refine qh_then ?_
   refine wh_seq ?_
   refine wh_region ?_
   refine w_p Tb_ok 1 (by kernel_rfl) ?_
   refine wi_end (by kernel_rfl) ?_
   refine qh_then ?_
   refine wh_ret ?_
   have h2 := Option.some.inj h2; subst h2
   exact q_end (l := [.bool true]) [] 0 ⟨rfl, rfl⟩ (.inl rfl) (by kernel_rfl) (by kernel_rfl) (by kernel_rfl)
theorem c_privityref14_Lists {p_a : List (List Nat)} {p_b : List (List Nat)} {vp_a_1 : Value} {vp_b_1 : Value} {r : Bool} (h : privityref14_Lists p_a p_b = some r) : Ct Tryd.prog 32 [vp_a_1, vp_b_1] [rdV (Kd.sl Kd.u64) vp_a_1 p_a, rdV (Kd.sl Kd.u64) vp_b_1 p_b] (fun v L => v = .bool r ∧ L = []) := by
 refine ct_intro Tryd.func32 rfl (by kernel_rfl) (fun F => ?_)
 unfold privityref14_Lists at h
 refine wh_seq ?_
 refine wh_region ?_
 refine w_p Tb_ok 1 (by kernel_rfl) ?_
 refine wi_end (by kernel_rfl) ?_
 refine qh_then ?_
 refine wh_seq ?_
 refine wh_seq ?_
 refine wh_region ?_
 refine w_p Tb_ok 1 (by kernel_rfl) ?_
 refine w_len (rd_hd 0 rfl) (by kernel_rfl) ts_27 ?_
 refine w_p Tb_ok 1 (by kernel_rfl) ?_
 refine w_len (rd_hd 1 rfl) (by kernel_rfl) ts_27 ?_
 refine w_p Tb_ok 1 (by kernel_rfl) ?_
 refine wi_end (by kernel_rfl) ?_
 refine qh_then ?_
 rcases bcase h with ⟨t1, h1⟩ | ⟨t1, h1⟩
 ·
  refine h_ct (b := (((p_a.length : Nat) : Int) != ((p_b.length : Nat) : Int))) t1 (by kernel_rfl) ?_
  refine wh_seq ?_
  refine wh_region ?_
  refine w_p Tb_ok 1 (by kernel_rfl) ?_
  refine wi_end (by kernel_rfl) ?_
  refine qh_then ?_
  refine wh_ret ?_
  refine qh_then_ret ?_
  have h1 := Option.some.inj h1; subst h1
  exact q_end (l := [.bool false]) [] 2 ⟨rfl, rfl⟩ (.inl rfl) (by kernel_rfl) (by kernel_rfl) (by kernel_rfl)
 ·
  refine h_cf (b := (((p_a.length : Nat) : Int) != ((p_b.length : Nat) : Int))) t1 (by kernel_rfl) ?_
  refine wh_skip ?_
  refine qh_then ?_
  refine wh_seq ?_
  refine wh_seq ?_
  refine wh_region ?_
  refine w_p Tb_ok 1 (by kernel_rfl) ?_
  refine wi_end (by kernel_rfl) ?_
  refine qh_then ?_
  refine h_lenle (rd_lenle 0 rfl) (fun hN1 => ?_)
  obtain ⟨r1, el1, h2⟩ := bnd h1
  refine h_join (X := Unit × Unit) (fun g => []) (fun g => [] ++ F) (fun g => r1 = .go g.2) ?_ ?_
  ·
   refine wh_block ?_
   refine h_rg (fun (k1 : Nat) (st : Unit) (g : Unit) => [(0, vp_a_1), (1, vp_b_1), (5, .int .i64 ((k1 : Nat) : Int))]) (fun (k1 : Nat) (st : Unit) (g : Unit) => [rdV (Kd.sl Kd.u64) vp_a_1 p_a, rdV (Kd.sl Kd.u64) vp_b_1 p_b] ++ F) () el1 (Nat.zero_le _) aK (tH [(0, true), (1, true)] 2) ?_ ?_
   ·
    rintro ⟨⟩ ⟨⟩ hr1 j
    refine wh_seq ?_
    refine wh_seq ?_
    refine wh_region ?_
    refine w_p Tb_ok 2 (by kernel_rfl) ?_
    refine w_len (rd_hd 0 rfl) (by kernel_rfl) ts_27 ?_
    refine w_p Tb_ok 1 (by kernel_rfl) ?_
    refine wi_end (by kernel_rfl) ?_
    refine qh_then ?_
    refine h_cf (b := (decide ((((p_a.length) : Nat) : Int) < ((p_a.length : Nat) : Int)))) rgF (by kernel_rfl) ?_
    refine wh_exit ?_
    refine qh_then_exit ?_
    refine q_rzX ?_
    refine qh_block_exit ?_
    exact q_join ((), ()) hr1 aK (tH [] 2)
   ·
    rintro rem k1 ⟨⟩ ⟨⟩ o1 hk1 h3 hn1 j
    have h3 : privityref14_Lists_L0 p_a p_b k1 = some o1 := h3
    unfold privityref14_Lists_L0 at h3
    refine wh_seq ?_
    refine wh_seq ?_
    refine wh_region ?_
    refine w_p Tb_ok 2 (by kernel_rfl) ?_
    refine w_len (rd_hd 0 rfl) (by kernel_rfl) ts_27 ?_
    refine w_p Tb_ok 1 (by kernel_rfl) ?_
    refine wi_end (by kernel_rfl) ?_
    refine qh_then ?_
    refine h_ct (b := (decide (((k1 : Nat) : Int) < ((p_a.length : Nat) : Int)))) (rgT hk1) (by kernel_rfl) ?_
    refine wh_skip ?_
    refine qh_then ?_
    refine wh_seq ?_
    refine wh_block ?_
    refine wh_seq ?_
    obtain ⟨x1, ex1, h4⟩ := bnd h3
    obtain ⟨x2, ex2, h5⟩ := bnd h4
    obtain ⟨r2, er2, h6⟩ := bnd h5
    refine h_flow [0, 0, 3, 7, 0, 0, 48, 112, 255, 511] ⟨2, [0, 0, 0, 1, 0, 0, 0, 1, 0, 0], [], [], [(2, [(0, 0)]), (3, [(0, 0)]), (6, [(0, 1)]), (7, [(0, 1)]), (8, [(8, 0), (4, 0)])]⟩ (fun γ => [vp_a_1, .int .i64 ((k1 : Nat) : Int), .pointer (some (elV vp_a_1 (k1 * (Kd.sl Kd.u64).size))), (γ 3 0), vp_b_1, .int .i64 ((k1 : Nat) : Int), .pointer (some (elV vp_b_1 (k1 * (Kd.sl Kd.u64).size))), (γ 7 0), .bool r2, .bool (!r2)]) (fun i γ => match i with | 3 => [rdV Kd.u64 (γ 3 0) x1] | 7 => [rdV Kd.u64 (γ 7 0) x2] | _ => []) (fun γ => [rdV (Kd.sl Kd.u64) vp_a_1 p_a, rdV (Kd.sl Kd.u64) vp_b_1 p_b, rdV Kd.u64 (γ 3 0) x1, rdV Kd.u64 (γ 7 0) x2] ++ F) [0, 1, 4, 5, 9] tryd_mix Tb_ok (by kernel_rfl) (by kernel_rfl) (fun _ => by kernel_rfl) (fun _ => by kernel_rfl) (fun _ => by kernel_rfl) (fun _ => by kernel_rfl) (fun _ => by kernel_rfl) (fun _ => by kernel_rfl) (fun _ => by kernel_rfl) ?_ ?_
    ·
     refine ⟨?_, ?_, ?_, ?_, ?_, trivial⟩
     ·
      intro γ F
      refine WI.reH (H' := [rdV (Kd.sl Kd.u64) vp_a_1 p_a] ++ F) (by kernel_rfl) ?_
      refine w_ix (k := .i64) (rd_hd 0 rfl) (nbd ex1) rfl (by kernel_rfl) ts_27 ti_30 ?_
      exact wE (gl []) [] 1
     ·
      intro γ F
      refine WI.reH (H' := [rdV (Kd.sl Kd.u64) vp_a_1 p_a] ++ F) (by kernel_rfl) ?_
      refine w_ldR 0 0 rfl ex1 (by kernel_rfl) ti_30 rfl rfl ?_
      rintro v1
      exact wE (gl [v1]) [(0, true)] 2
     ·
      intro γ F
      refine WI.reH (H' := [rdV (Kd.sl Kd.u64) vp_b_1 p_b] ++ F) (by kernel_rfl) ?_
      refine w_ix (k := .i64) (rd_hd 0 rfl) (nbd ex2) rfl (by kernel_rfl) ts_27 ti_30 ?_
      exact wE (gl []) [] 1
     ·
      intro γ F
      refine WI.reH (H' := [rdV (Kd.sl Kd.u64) vp_b_1 p_b] ++ F) (by kernel_rfl) ?_
      refine w_ldR 0 0 rfl ex2 (by kernel_rfl) ti_30 rfl rfl ?_
      rintro v2
      exact wE (gl [v2]) [(0, true)] 2
     ·
      intro γ F
      refine WI.reH (H' := [rdV Kd.u64 (γ 7 0) x2, rdV Kd.u64 (γ 3 0) x1] ++ F) (by kernel_rfl) ?_
      refine w_fn [(1, true), (0, true)] (c_privityref14_Words er2) rfl fok_27 (by kernel_rfl) ?_
      rintro _ _ ⟨hv, rfl⟩; have hv := hv.symm; subst hv
      exact wE (gl []) [] 2
    ·
     intro γ1
     refine qh_then ?_
     rcases bcase h6 with ⟨t2, h7⟩ | ⟨t2, h7⟩
     ·
      refine h_ct (b := (!r2)) t2 (by kernel_rfl) ?_
      refine wh_seq ?_
      refine wh_region ?_
      refine w_p Tb_ok 1 (by kernel_rfl) ?_
      refine wi_end (by kernel_rfl) ?_
      refine qh_then ?_
      refine wh_ret ?_
      refine qh_block_ret ?_
      refine qh_then_ret ?_
      refine q_rgR ?_
      refine qh_block_ret ?_
      refine q_joinR ?_
      refine qh_then_ret ?_
      have h7 := Option.some.inj h7; subst h7
      have hn := (show _ = _ from hn1); subst hn
      have h2 := Option.some.inj (show some _ = some _ from h2); subst h2
      exact q_end (l := [.bool false]) [] 4 ⟨rfl, rfl⟩ (.inl rfl) (by kernel_rfl) (by kernel_rfl) (by kernel_rfl)
     ·
      refine h_cf (b := (!r2)) t2 (by kernel_rfl) ?_
      refine wh_skip ?_
      refine qh_block_normal ?_
      refine qh_then ?_
      refine wh_region ?_
      refine w_p Tb_ok 1 (by kernel_rfl) ?_
      refine w_bi (zinc hk1 hN1) (by kernel_rfl) ?_
      refine w_p Tb_ok 1 (by kernel_rfl) ?_
      refine wi_end (by kernel_rfl) ?_
      have h7 := Option.some.inj h7; subst h7
      exact q_rgo () hn1 aK (tH [(0, true), (1, true)] 4)
  ·
   rintro ⟨⟨⟩, ⟨⟩⟩ hc j
   subst hc
   refine qh_then ?_
   refine wh_seq ?_
   refine wh_region ?_
   refine w_p Tb_ok 1 (by kernel_rfl) ?_
   refine wi_end (by kernel_rfl) ?_
   refine qh_then ?_
   refine wh_ret ?_
   have h2 := Option.some.inj h2; subst h2
   exact q_end (l := [.bool true]) [] 0 ⟨rfl, rfl⟩ (.inl rfl) (by kernel_rfl) (by kernel_rfl) (by kernel_rfl)
theorem c_privityref22_SameTriple {p_a : T_api_Triple} {p_b : T_api_Triple} {vp_a_1 : Value} {vp_a_2 : Value} {vp_a_3 : Value} {vp_b_1 : Value} {vp_b_2 : Value} {vp_b_3 : Value} {r : Bool} (h : privityref22_SameTriple p_a p_b = some r) : Ct Tryd.prog 79 [.agg #[vp_a_1, vp_a_2, vp_a_3], .agg #[vp_b_1, vp_b_2, vp_b_3]] [rdV (Kd.sl Kd.u64) vp_a_1 p_a.A, rdV (Kd.sl Kd.u64) vp_a_2 p_a.B, rdV (Kd.sl Kd.u64) vp_a_3 p_a.C, rdV (Kd.sl Kd.u64) vp_b_1 p_b.A, rdV (Kd.sl Kd.u64) vp_b_2 p_b.B, rdV (Kd.sl Kd.u64) vp_b_3 p_b.C] (fun v L => v = .bool r ∧ L = []) := by
 refine ct_intro Tryd.func79 rfl (by kernel_rfl) (fun F => ?_)
 unfold privityref22_SameTriple at h
 refine wh_seq ?_
 refine wh_region ?_
 refine w_box (t := 101) (v := .agg #[vp_a_1, vp_a_2, vp_a_3]) (cs := [vp_a_1, vp_a_2, vp_a_3]) (cv0 (by kernel_rfl)) (by kernel_rfl) (fun q1 => ?_)
 refine WI.hd (y := blkP q1 101 [vp_a_1, vp_a_2, vp_a_3]) (by kernel_rfl) ?_
 refine w_opP 0 rfl (fun b1 hb => ?_)
 subst hb
 refine w_box (t := 101) (v := .agg #[vp_b_1, vp_b_2, vp_b_3]) (cs := [vp_b_1, vp_b_2, vp_b_3]) (cv0 (by kernel_rfl)) (by kernel_rfl) (fun q2 => ?_)
 refine WI.hd (y := blkP q2 101 [vp_b_1, vp_b_2, vp_b_3]) (by kernel_rfl) ?_
 refine w_opP 0 rfl (fun b2 hb => ?_)
 subst hb
 refine w_p Tb_ok 1 (by kernel_rfl) ?_
 refine wi_end (by kernel_rfl) ?_
 refine qh_then ?_
 refine wh_seq ?_
 refine wh_region ?_
 refine w_p Tb_ok 1 (by kernel_rfl) ?_
 refine w_ldB 1 0 rfl (by kernel_rfl) ti_44 rfl rfl ?_
 refine w_p Tb_ok 1 (by kernel_rfl) ?_
 refine w_ldB 0 0 rfl (by kernel_rfl) ti_44 rfl rfl ?_
 obtain ⟨r1, er1, h1⟩ := bnd h
 refine w_fn [(2, true), (5, true)] (c_privityref14_Lists er1) rfl fok_32 (by kernel_rfl) ?_
 rintro _ _ ⟨hv, rfl⟩; have hv := hv.symm; subst hv
 refine w_p Tb_ok 1 (by kernel_rfl) ?_
 rcases bcase h1 with ⟨t1, h2⟩ | ⟨t1, h2⟩
 ·
  refine w_kb (t := 10) t1 (by kernel_rfl) ?_
  refine w_p Tb_ok 1 (by kernel_rfl) ?_
  refine w_ldB 1 1 rfl (by kernel_rfl) ti_44 rfl rfl ?_
  refine w_p Tb_ok 1 (by kernel_rfl) ?_
  refine w_ldB 0 1 rfl (by kernel_rfl) ti_44 rfl rfl ?_
  obtain ⟨r2, er2, h3⟩ := bnd h2
  refine w_fn [(3, true), (6, true)] (c_privityref14_Lists er2) rfl fok_32 (by kernel_rfl) ?_
  rintro _ _ ⟨hv, rfl⟩; have hv := hv.symm; subst hv
  refine w_p Tb_ok 2 (by kernel_rfl) ?_
  rcases bcase h3 with ⟨t2, h4⟩ | ⟨t2, h4⟩
  ·
   refine w_kb (t := 17) t2 (by kernel_rfl) ?_
   refine w_p Tb_ok 1 (by kernel_rfl) ?_
   refine w_ldB 1 2 rfl (by kernel_rfl) ti_44 rfl rfl ?_
   refine w_p Tb_ok 1 (by kernel_rfl) ?_
   refine w_ldB 0 2 rfl (by kernel_rfl) ti_44 rfl rfl ?_
   obtain ⟨r3, er3, h5⟩ := bnd h4
   refine w_fn [(4, true), (7, true)] (c_privityref14_Lists er3) rfl fok_32 (by kernel_rfl) ?_
   rintro _ _ ⟨hv, rfl⟩; have hv := hv.symm; subst hv
   refine w_p Tb_ok 2 (by kernel_rfl) ?_
   refine wi_end (by kernel_rfl) ?_
   refine qh_then ?_
   refine wh_ret ?_
   have h5 := Option.some.inj h5; subst h5
   exact q_end (l := [.bool r3]) [] 8 ⟨rfl, rfl⟩ (.inl rfl) (by kernel_rfl) (by kernel_rfl) (by kernel_rfl)
  ·
   refine w_kb (t := 17) t2 (by kernel_rfl) ?_
   refine w_p Tb_ok 7 (by kernel_rfl) ?_
   refine wi_end (by kernel_rfl) ?_
   refine qh_then ?_
   refine wh_ret ?_
   have h4 := Option.some.inj h4; subst h4
   exact q_end (l := [.bool false]) [] 8 ⟨rfl, rfl⟩ (.inl rfl) (by kernel_rfl) (by kernel_rfl) (by kernel_rfl)
 ·
  refine w_kb (t := 10) t1 (by kernel_rfl) ?_
  refine w_p Tb_ok 14 (by kernel_rfl) ?_
  refine wi_end (by kernel_rfl) ?_
  refine qh_then ?_
  refine wh_ret ?_
  have h2 := Option.some.inj h2; subst h2
  exact q_end (l := [.bool false]) [] 8 ⟨rfl, rfl⟩ (.inl rfl) (by kernel_rfl) (by kernel_rfl) (by kernel_rfl)
theorem c_privityref22_SameList {p_a : List T_api_Triple} {p_b : List T_api_Triple} {vp_a_1 : Value} {vp_b_1 : Value} {r : Bool} (h : privityref22_SameList p_a p_b = some r) : Ct Tryd.prog 53 [vp_a_1, vp_b_1] [rdV K_api_Triple vp_a_1 p_a, rdV K_api_Triple vp_b_1 p_b] (fun v L => v = .bool r ∧ L = []) := by
 refine ct_intro Tryd.func53 rfl (by kernel_rfl) (fun F => ?_)
 unfold privityref22_SameList at h
 refine wh_seq ?_
 refine wh_region ?_
 refine w_p Tb_ok 1 (by kernel_rfl) ?_
 refine wi_end (by kernel_rfl) ?_
 refine qh_then ?_
 refine wh_seq ?_
 refine wh_seq ?_
 refine wh_region ?_
 refine w_p Tb_ok 1 (by kernel_rfl) ?_
 refine w_len (rd_hd 0 rfl) (by kernel_rfl) ts_79 ?_
 refine w_p Tb_ok 1 (by kernel_rfl) ?_
 refine w_len (rd_hd 1 rfl) (by kernel_rfl) ts_79 ?_
 refine w_p Tb_ok 1 (by kernel_rfl) ?_
 refine wi_end (by kernel_rfl) ?_
 refine qh_then ?_
 rcases bcase h with ⟨t1, h1⟩ | ⟨t1, h1⟩
 ·
  refine h_ct (b := (((p_a.length : Nat) : Int) != ((p_b.length : Nat) : Int))) t1 (by kernel_rfl) ?_
  refine wh_seq ?_
  refine wh_region ?_
  refine w_p Tb_ok 1 (by kernel_rfl) ?_
  refine wi_end (by kernel_rfl) ?_
  refine qh_then ?_
  refine wh_ret ?_
  refine qh_then_ret ?_
  have h1 := Option.some.inj h1; subst h1
  exact q_end (l := [.bool false]) [] 2 ⟨rfl, rfl⟩ (.inl rfl) (by kernel_rfl) (by kernel_rfl) (by kernel_rfl)
 ·
  refine h_cf (b := (((p_a.length : Nat) : Int) != ((p_b.length : Nat) : Int))) t1 (by kernel_rfl) ?_
  refine wh_skip ?_
  refine qh_then ?_
  refine wh_seq ?_
  refine wh_seq ?_
  refine wh_region ?_
  refine w_p Tb_ok 1 (by kernel_rfl) ?_
  refine wi_end (by kernel_rfl) ?_
  refine qh_then ?_
  refine h_lenle (rd_lenle 0 rfl) (fun hN1 => ?_)
  obtain ⟨r1, el1, h2⟩ := bnd h1
  refine h_join (X := Unit × Unit) (fun g => []) (fun g => [] ++ F) (fun g => r1 = .go g.2) ?_ ?_
  ·
   refine wh_block ?_
   refine h_rg (fun (k1 : Nat) (st : Unit) (g : Unit) => [(0, vp_a_1), (1, vp_b_1), (5, .int .i64 ((k1 : Nat) : Int))]) (fun (k1 : Nat) (st : Unit) (g : Unit) => [rdV K_api_Triple vp_a_1 p_a, rdV K_api_Triple vp_b_1 p_b] ++ F) () el1 (Nat.zero_le _) aK (tH [(0, true), (1, true)] 2) ?_ ?_
   ·
    rintro ⟨⟩ ⟨⟩ hr1 j
    refine wh_seq ?_
    refine wh_seq ?_
    refine wh_region ?_
    refine w_p Tb_ok 2 (by kernel_rfl) ?_
    refine w_len (rd_hd 0 rfl) (by kernel_rfl) ts_79 ?_
    refine w_p Tb_ok 1 (by kernel_rfl) ?_
    refine wi_end (by kernel_rfl) ?_
    refine qh_then ?_
    refine h_cf (b := (decide ((((p_a.length) : Nat) : Int) < ((p_a.length : Nat) : Int)))) rgF (by kernel_rfl) ?_
    refine wh_exit ?_
    refine qh_then_exit ?_
    refine q_rzX ?_
    refine qh_block_exit ?_
    exact q_join ((), ()) hr1 aK (tH [] 2)
   ·
    rintro rem k1 ⟨⟩ ⟨⟩ o1 hk1 h3 hn1 j
    have h3 : privityref22_SameList_L0 p_a p_b k1 = some o1 := h3
    unfold privityref22_SameList_L0 at h3
    refine wh_seq ?_
    refine wh_seq ?_
    refine wh_region ?_
    refine w_p Tb_ok 2 (by kernel_rfl) ?_
    refine w_len (rd_hd 0 rfl) (by kernel_rfl) ts_79 ?_
    refine w_p Tb_ok 1 (by kernel_rfl) ?_
    refine wi_end (by kernel_rfl) ?_
    refine qh_then ?_
    refine h_ct (b := (decide (((k1 : Nat) : Int) < ((p_a.length : Nat) : Int)))) (rgT hk1) (by kernel_rfl) ?_
    refine wh_skip ?_
    refine qh_then ?_
    refine wh_seq ?_
    refine wh_block ?_
    refine wh_seq ?_
    obtain ⟨x1, ex1, h4⟩ := bnd h3
    obtain ⟨x2, ex2, h5⟩ := bnd h4
    obtain ⟨r2, er2, h6⟩ := bnd h5
    refine h_flow [0, 0, 3, 7, 0, 0, 48, 112, 255, 511] ⟨2, [0, 0, 0, 3, 0, 0, 0, 3, 0, 0], [], [], [(2, [(0, 0)]), (3, [(0, 0)]), (6, [(0, 1)]), (7, [(0, 1)]), (8, [(8, 0), (8, 1), (8, 2), (4, 0), (4, 1), (4, 2)])]⟩ (fun γ => [vp_a_1, .int .i64 ((k1 : Nat) : Int), .pointer (some (elV vp_a_1 (k1 * K_api_Triple.size))), .agg #[(γ 3 0), (γ 3 1), (γ 3 2)], vp_b_1, .int .i64 ((k1 : Nat) : Int), .pointer (some (elV vp_b_1 (k1 * K_api_Triple.size))), .agg #[(γ 7 0), (γ 7 1), (γ 7 2)], .bool r2, .bool (!r2)]) (fun i γ => match i with | 3 => [rdV (Kd.sl Kd.u64) (γ 3 0) x1.A, rdV (Kd.sl Kd.u64) (γ 3 1) x1.B, rdV (Kd.sl Kd.u64) (γ 3 2) x1.C] | 7 => [rdV (Kd.sl Kd.u64) (γ 7 0) x2.A, rdV (Kd.sl Kd.u64) (γ 7 1) x2.B, rdV (Kd.sl Kd.u64) (γ 7 2) x2.C] | _ => []) (fun γ => [rdV K_api_Triple vp_a_1 p_a, rdV K_api_Triple vp_b_1 p_b, rdV (Kd.sl Kd.u64) (γ 3 0) x1.A, rdV (Kd.sl Kd.u64) (γ 3 1) x1.B, rdV (Kd.sl Kd.u64) (γ 3 2) x1.C, rdV (Kd.sl Kd.u64) (γ 7 0) x2.A, rdV (Kd.sl Kd.u64) (γ 7 1) x2.B, rdV (Kd.sl Kd.u64) (γ 7 2) x2.C] ++ F) [0, 1, 4, 5, 9] tryd_mix Tb_ok (by kernel_rfl) (by kernel_rfl) (fun _ => by kernel_rfl) (fun _ => by kernel_rfl) (fun _ => by kernel_rfl) (fun _ => by kernel_rfl) (fun _ => by kernel_rfl) (fun _ => by kernel_rfl) (fun _ => by kernel_rfl) ?_ ?_
    ·
     refine ⟨?_, ?_, ?_, ?_, ?_, trivial⟩
     ·
      intro γ F
      refine WI.reH (H' := [rdV K_api_Triple vp_a_1 p_a] ++ F) (by kernel_rfl) ?_
      refine w_ix (k := .i64) (rd_hd 0 rfl) (nbd ex1) rfl (by kernel_rfl) ts_79 ti_101 ?_
      exact wE (gl []) [] 1
     ·
      intro γ F
      refine WI.reH (H' := [rdV K_api_Triple vp_a_1 p_a] ++ F) (by kernel_rfl) ?_
      refine w_ldR 0 0 rfl ex1 (by kernel_rfl) ti_101 rfl rfl ?_
      rintro ⟨v1, v2, v3⟩
      exact wE (gl [v1, v2, v3]) [(0, true), (1, true), (2, true)] 4
     ·
      intro γ F
      refine WI.reH (H' := [rdV K_api_Triple vp_b_1 p_b] ++ F) (by kernel_rfl) ?_
      refine w_ix (k := .i64) (rd_hd 0 rfl) (nbd ex2) rfl (by kernel_rfl) ts_79 ti_101 ?_
      exact wE (gl []) [] 1
     ·
      intro γ F
      refine WI.reH (H' := [rdV K_api_Triple vp_b_1 p_b] ++ F) (by kernel_rfl) ?_
      refine w_ldR 0 0 rfl ex2 (by kernel_rfl) ti_101 rfl rfl ?_
      rintro ⟨v4, v5, v6⟩
      exact wE (gl [v4, v5, v6]) [(0, true), (1, true), (2, true)] 4
     ·
      intro γ F
      refine WI.reH (H' := [rdV (Kd.sl Kd.u64) (γ 7 0) x2.A, rdV (Kd.sl Kd.u64) (γ 7 1) x2.B, rdV (Kd.sl Kd.u64) (γ 7 2) x2.C, rdV (Kd.sl Kd.u64) (γ 3 0) x1.A, rdV (Kd.sl Kd.u64) (γ 3 1) x1.B, rdV (Kd.sl Kd.u64) (γ 3 2) x1.C] ++ F) (by kernel_rfl) ?_
      refine w_fn [(3, true), (4, true), (5, true), (0, true), (1, true), (2, true)] (c_privityref22_SameTriple er2) rfl fok_79 (by kernel_rfl) ?_
      rintro _ _ ⟨hv, rfl⟩; have hv := hv.symm; subst hv
      exact wE (gl []) [] 6
    ·
     intro γ1
     refine qh_then ?_
     rcases bcase h6 with ⟨t2, h7⟩ | ⟨t2, h7⟩
     ·
      refine h_ct (b := (!r2)) t2 (by kernel_rfl) ?_
      refine wh_seq ?_
      refine wh_region ?_
      refine w_p Tb_ok 1 (by kernel_rfl) ?_
      refine wi_end (by kernel_rfl) ?_
      refine qh_then ?_
      refine wh_ret ?_
      refine qh_block_ret ?_
      refine qh_then_ret ?_
      refine q_rgR ?_
      refine qh_block_ret ?_
      refine q_joinR ?_
      refine qh_then_ret ?_
      have h7 := Option.some.inj h7; subst h7
      have hn := (show _ = _ from hn1); subst hn
      have h2 := Option.some.inj (show some _ = some _ from h2); subst h2
      exact q_end (l := [.bool false]) [] 8 ⟨rfl, rfl⟩ (.inl rfl) (by kernel_rfl) (by kernel_rfl) (by kernel_rfl)
     ·
      refine h_cf (b := (!r2)) t2 (by kernel_rfl) ?_
      refine wh_skip ?_
      refine qh_block_normal ?_
      refine qh_then ?_
      refine wh_region ?_
      refine w_p Tb_ok 1 (by kernel_rfl) ?_
      refine w_bi (zinc hk1 hN1) (by kernel_rfl) ?_
      refine w_p Tb_ok 1 (by kernel_rfl) ?_
      refine wi_end (by kernel_rfl) ?_
      have h7 := Option.some.inj h7; subst h7
      exact q_rgo () hn1 aK (tH [(0, true), (1, true)] 8)
  ·
   rintro ⟨⟨⟩, ⟨⟩⟩ hc j
   subst hc
   refine qh_then ?_
   refine wh_seq ?_
   refine wh_region ?_
   refine w_p Tb_ok 1 (by kernel_rfl) ?_
   refine wi_end (by kernel_rfl) ?_
   refine qh_then ?_
   refine wh_ret ?_
   have h2 := Option.some.inj h2; subst h2
   exact q_end (l := [.bool true]) [] 0 ⟨rfl, rfl⟩ (.inl rfl) (by kernel_rfl) (by kernel_rfl) (by kernel_rfl)
theorem c_privitylaw25_TriplestoreTakeMatchesReference {p_l : T_api_Ledger} {p_m : Int} {vp_l_1 : Value} {r : Bool} (h : privitylaw25_TriplestoreTakeMatchesReference p_l p_m = some r) : Ct Tryd.prog 14 [.agg #[vp_l_1, .int .i64 p_l.Used], .int .i64 p_m] [rdV K_api_Triple vp_l_1 p_l.Made, exF] (fun v L => v = .bool r ∧ L = []) := by
 refine ct_intro Tryd.func14 rfl (by kernel_rfl) (fun F => ?_)
 unfold privitylaw25_TriplestoreTakeMatchesReference at h
 refine wh_seq ?_
 refine wh_region ?_
 refine w_box (t := 81) (v := .agg #[vp_l_1, .int .i64 p_l.Used]) (cs := [vp_l_1, .int .i64 p_l.Used]) (cv0 (by kernel_rfl)) (by kernel_rfl) (fun q1 => ?_)
 refine WI.hd (y := blkP q1 81 [vp_l_1, .int .i64 p_l.Used]) (by kernel_rfl) ?_
 refine w_opP 0 rfl (fun b1 hb => ?_)
 subst hb
 refine w_p Tb_ok 1 (by kernel_rfl) ?_
 refine wi_end (by kernel_rfl) ?_
 refine qh_then ?_
 refine wh_seq ?_
 refine wh_seq ?_
 refine wh_region ?_
 obtain ⟨r1, er1, h1⟩ := bnd h
 refine w_fn [(2, true)] (c_privitylaw25_awake er1) rfl fok_49 (by kernel_rfl) ?_
 rintro _ _ ⟨hv, rfl⟩; have hv := hv.symm; subst hv
 refine w_p Tb_ok 1 (by kernel_rfl) ?_
 refine wi_end (by kernel_rfl) ?_
 refine qh_then ?_
 rcases bcase h1 with ⟨t1, h2⟩ | ⟨t1, h2⟩
 ·
  refine h_ct (b := (!r1)) t1 (by kernel_rfl) ?_
  refine wh_seq ?_
  refine wh_region ?_
  refine w_p Tb_ok 1 (by kernel_rfl) ?_
  refine wi_end (by kernel_rfl) ?_
  refine qh_then ?_
  refine wh_ret ?_
  refine qh_then_ret ?_
  have h2 := Option.some.inj h2; subst h2
  exact q_end (l := [.bool false]) [] 3 ⟨rfl, rfl⟩ (.inl rfl) (by kernel_rfl) (by kernel_rfl) (by kernel_rfl)
 ·
  refine h_cf (b := (!r1)) t1 (by kernel_rfl) ?_
  refine wh_skip ?_
  refine qh_then ?_
  refine wh_seq ?_
  refine wh_seq ?_
  refine wh_region ?_
  refine w_p Tb_ok 1 (by kernel_rfl) ?_
  refine w_ldB 0 0 rfl (by kernel_rfl) ti_79 rfl rfl ?_
  obtain ⟨r2, er2, h3⟩ := bnd h2
  refine w_fn [(1, true)] (c_privitylaw25_few er2) rfl fok_50 (by kernel_rfl) ?_
  rintro _ _ ⟨hv, rfl⟩; have hv := hv.symm; subst hv
  refine w_p Tb_ok 1 (by kernel_rfl) ?_
  refine wi_end (by kernel_rfl) ?_
  refine qh_then ?_
  rcases bcase h3 with ⟨t2, h4⟩ | ⟨t2, h4⟩
  ·
   refine h_ct (b := (!r2)) t2 (by kernel_rfl) ?_
   refine wh_seq ?_
   refine wh_region ?_
   refine w_p Tb_ok 1 (by kernel_rfl) ?_
   refine wi_end (by kernel_rfl) ?_
   refine qh_then ?_
   refine wh_ret ?_
   refine qh_then_ret ?_
   have h4 := Option.some.inj h4; subst h4
   exact q_end (l := [.bool true]) [] 3 ⟨rfl, rfl⟩ (.inl rfl) (by kernel_rfl) (by kernel_rfl) (by kernel_rfl)
  ·
   refine h_cf (b := (!r2)) t2 (by kernel_rfl) ?_
   refine wh_skip ?_
   refine qh_then ?_
   refine wh_seq ?_
   refine wh_region ?_
   refine w_ldB 0 0 rfl (by kernel_rfl) ti_81 rfl rfl ?_
   refine w_p Tb_ok 1 (by kernel_rfl) ?_
   obtain ⟨r3, er3, h5⟩ := bnd h4
   refine w_fn [(1, true)] (c_triplestore_Take er3) rfl fok_51 (by kernel_rfl) ?_
   rintro _ _ ⟨w3, w4_0, hv, rfl⟩; have hv := hv.symm; subst hv
   refine w_p Tb_ok 4 (by kernel_rfl) ?_
   refine w_al (by kernel_rfl) ti_81 (fun q2 => ?_)
   refine WI.hd (y := blkP q2 81 [(.slice none 0 0), .int .i64 ((0 : Nat) : Int)]) (by kernel_rfl) ?_
   refine w_opP 0 rfl (fun b2 hb => ?_)
   subst hb
   refine w_p Tb_ok 1 (by kernel_rfl) ?_
   refine w_stB (v := .agg #[w4_0, .int .i64 r3.2.1.Used]) (off := 0) (cs := [w4_0, .int .i64 r3.2.1.Used]) 0 rfl (cv0 (by kernel_rfl)) (by kernel_rfl) ti_81 rfl rfl (oC (sl_one (rd_hd 2 rfl)) (oC (fun _ _ => rfl) oN)) ?_
   refine WI.hd (y := blkP (.pointer (some ⟨b2, 0, none⟩)) 81 [w4_0, .int .i64 r3.2.1.Used]) (by kernel_rfl) ?_
   refine w_p Tb_ok 1 (by kernel_rfl) ?_
   refine wi_end (by kernel_rfl) ?_
   refine qh_then ?_
   refine wh_seq ?_
   refine wh_region ?_
   refine w_ldB 3 0 rfl (by kernel_rfl) ti_81 rfl rfl ?_
   refine w_p Tb_ok 1 (by kernel_rfl) ?_
   obtain ⟨r4, er4, h6⟩ := bnd h5
   refine w_fn [(4, true)] (c_privityref25_Take er4) rfl fok_52 (by kernel_rfl) ?_
   rintro _ _ ⟨w6, w7_0, hv, rfl⟩; have hv := hv.symm; subst hv
   refine w_p Tb_ok 4 (by kernel_rfl) ?_
   refine w_al (by kernel_rfl) ti_81 (fun q3 => ?_)
   refine WI.hd (y := blkP q3 81 [(.slice none 0 0), .int .i64 ((0 : Nat) : Int)]) (by kernel_rfl) ?_
   refine w_opP 0 rfl (fun b3 hb => ?_)
   subst hb
   refine w_p Tb_ok 1 (by kernel_rfl) ?_
   refine w_stB (v := .agg #[w7_0, .int .i64 r4.2.1.Used]) (off := 0) (cs := [w7_0, .int .i64 r4.2.1.Used]) 0 rfl (cv0 (by kernel_rfl)) (by kernel_rfl) ti_81 rfl rfl (oC (sl_one (rd_hd 2 rfl)) (oC (fun _ _ => rfl) oN)) ?_
   refine WI.hd (y := blkP (.pointer (some ⟨b3, 0, none⟩)) 81 [w7_0, .int .i64 r4.2.1.Used]) (by kernel_rfl) ?_
   refine w_p Tb_ok 1 (by kernel_rfl) ?_
   refine wi_end (by kernel_rfl) ?_
   refine qh_then ?_
   refine wh_seq ?_
   refine wh_region ?_
   refine w_p Tb_ok 4 (by kernel_rfl) ?_
   rcases bcase h6 with ⟨t3, h7⟩ | ⟨t3, h7⟩
   ·
    refine w_kb (t := 34) t3 (by kernel_rfl) ?_
    refine w_p Tb_ok 2 (by kernel_rfl) ?_
    obtain ⟨r5, er5, h8⟩ := bnd h7
    refine w_fn [(4, true), (1, true)] (c_privityref22_SameList er5) rfl fok_53 (by kernel_rfl) ?_
    rintro _ _ ⟨hv, rfl⟩; have hv := hv.symm; subst hv
    refine w_p Tb_ok 2 (by kernel_rfl) ?_
    rcases bcase h8 with ⟨t4, h9⟩ | ⟨t4, h9⟩
    ·
     refine w_kb (t := 39) t4 (by kernel_rfl) ?_
     refine w_p Tb_ok 1 (by kernel_rfl) ?_
     refine w_ldB 3 0 rfl (by kernel_rfl) ti_79 rfl rfl ?_
     refine w_p Tb_ok 1 (by kernel_rfl) ?_
     refine w_ldB 0 0 rfl (by kernel_rfl) ti_79 rfl rfl ?_
     obtain ⟨r6, er6, h10⟩ := bnd h9
     refine w_fn [(5, true), (2, true)] (c_privityref22_SameList er6) rfl fok_53 (by kernel_rfl) ?_
     rintro _ _ ⟨hv, rfl⟩; have hv := hv.symm; subst hv
     refine w_p Tb_ok 2 (by kernel_rfl) ?_
     rcases bcase h10 with ⟨t5, h11⟩ | ⟨t5, h11⟩
     ·
      refine w_kb (t := 46) t5 (by kernel_rfl) ?_
      refine w_p Tb_ok 1 (by kernel_rfl) ?_
      refine w_ldB 3 1 rfl (by kernel_rfl) ti_3 rfl rfl ?_
      refine w_p Tb_ok 1 (by kernel_rfl) ?_
      refine w_ldB 0 1 rfl (by kernel_rfl) ti_3 rfl rfl ?_
      refine w_p Tb_ok 3 (by kernel_rfl) ?_
      refine wi_end (by kernel_rfl) ?_
      refine qh_then ?_
      refine wh_ret ?_
      have h11 := Option.some.inj h11; subst h11
      exact q_end (l := [.bool (r3.2.1.Used == r4.2.1.Used)]) [] 9 ⟨rfl, rfl⟩ (.inl rfl) (by kernel_rfl) (by kernel_rfl) (by kernel_rfl)
     ·
      refine w_kb (t := 46) t5 (by kernel_rfl) ?_
      refine w_p Tb_ok 7 (by kernel_rfl) ?_
      refine wi_end (by kernel_rfl) ?_
      refine qh_then ?_
      refine wh_ret ?_
      have h11 := Option.some.inj h11; subst h11
      exact q_end (l := [.bool false]) [] 9 ⟨rfl, rfl⟩ (.inl rfl) (by kernel_rfl) (by kernel_rfl) (by kernel_rfl)
    ·
     refine w_kb (t := 39) t4 (by kernel_rfl) ?_
     refine w_p Tb_ok 14 (by kernel_rfl) ?_
     refine wi_end (by kernel_rfl) ?_
     refine qh_then ?_
     refine wh_ret ?_
     have h9 := Option.some.inj h9; subst h9
     exact q_end (l := [.bool false]) [] 9 ⟨rfl, rfl⟩ (.inl rfl) (by kernel_rfl) (by kernel_rfl) (by kernel_rfl)
   ·
    refine w_kb (t := 34) t3 (by kernel_rfl) ?_
    refine w_p Tb_ok 19 (by kernel_rfl) ?_
    refine wi_end (by kernel_rfl) ?_
    refine qh_then ?_
    refine wh_ret ?_
    have h7 := Option.some.inj h7; subst h7
    exact q_end (l := [.bool false]) [] 9 ⟨rfl, rfl⟩ (.inl rfl) (by kernel_rfl) (by kernel_rfl) (by kernel_rfl)
theorem c_privitylaw25_TriplestoreHandsOutOnce {p_made : List T_api_Triple} {p_goes : List Nat} {vp_made_1 : Value} {vp_goes_1 : Value} {r : Bool} (h : privitylaw25_TriplestoreHandsOutOnce p_made p_goes = some r) : Ct Tryd.prog 15 [vp_made_1, vp_goes_1] [rdV K_api_Triple vp_made_1 p_made, rdV Kd.u8 vp_goes_1 p_goes, exF] (fun v L => v = .bool r ∧ L = []) := by
 refine ct_intro Tryd.func15 rfl (by kernel_rfl) (fun F => ?_)
 unfold privitylaw25_TriplestoreHandsOutOnce at h
 refine wh_seq ?_
 refine wh_region ?_
 refine w_p Tb_ok 1 (by kernel_rfl) ?_
 refine wi_end (by kernel_rfl) ?_
 refine qh_then ?_
 refine wh_seq ?_
 refine wh_seq ?_
 refine wh_region ?_
 obtain ⟨r1, er1, h1⟩ := bnd h
 refine w_fn [(2, true)] (c_privitylaw25_awake er1) rfl fok_49 (by kernel_rfl) ?_
 rintro _ _ ⟨hv, rfl⟩; have hv := hv.symm; subst hv
 refine w_p Tb_ok 1 (by kernel_rfl) ?_
 refine wi_end (by kernel_rfl) ?_
 refine qh_then ?_
 rcases bcase h1 with ⟨t1, h2⟩ | ⟨t1, h2⟩
 ·
  refine h_ct (b := (!r1)) t1 (by kernel_rfl) ?_
  refine wh_seq ?_
  refine wh_region ?_
  refine w_p Tb_ok 1 (by kernel_rfl) ?_
  refine wi_end (by kernel_rfl) ?_
  refine qh_then ?_
  refine wh_ret ?_
  refine qh_then_ret ?_
  have h2 := Option.some.inj h2; subst h2
  exact q_end (l := [.bool false]) [] 3 ⟨rfl, rfl⟩ (.inl rfl) (by kernel_rfl) (by kernel_rfl) (by kernel_rfl)
 ·
  refine h_cf (b := (!r1)) t1 (by kernel_rfl) ?_
  refine wh_skip ?_
  refine qh_then ?_
  refine wh_seq ?_
  refine wh_seq ?_
  obtain ⟨x1, ej1, h3⟩ := bnd h2
  refine h_join (X := Unit) (fun g => [(0, vp_made_1), (1, vp_goes_1), (20, .bool x1)]) (fun g => [rdV K_api_Triple vp_made_1 p_made, rdV Kd.u8 vp_goes_1 p_goes, exF] ++ F) (fun _ => True) ?_ ?_
  ·
   refine wh_region ?_
   refine w_p Tb_ok 1 (by kernel_rfl) ?_
   obtain ⟨r2, er2, h4⟩ := bnd ej1
   refine w_fn [(0, true)] (c_privitylaw25_few er2) rfl fok_50 (by kernel_rfl) ?_
   rintro _ _ ⟨hv, rfl⟩; have hv := hv.symm; subst hv
   refine w_p Tb_ok 2 (by kernel_rfl) ?_
   rcases bcase h4 with ⟨t2, h5⟩ | ⟨t2, h5⟩
   ·
    refine w_kb (t := 16) t2 (by kernel_rfl) ?_
    refine w_p Tb_ok 4 (by kernel_rfl) ?_
    refine wi_end (by kernel_rfl) ?_
    cases h5
    exact q_join () trivial aK (tH [(0, true), (1, true), (2, true)] 3)
   ·
    refine w_kb (t := 16) t2 (by kernel_rfl) ?_
    refine w_p Tb_ok 1 (by kernel_rfl) ?_
    refine w_len (rd_hd 1 rfl) (by kernel_rfl) ts_88 ?_
    refine w_p Tb_ok 2 (by kernel_rfl) ?_
    refine wi_end (by kernel_rfl) ?_
    cases h5
    exact q_join () trivial aK (tH [(0, true), (1, true), (2, true)] 3)
  ·
   rintro ⟨⟩ - j
   refine qh_then ?_
   rcases bcase h3 with ⟨t3, h6⟩ | ⟨t3, h6⟩
   ·
    refine h_ct (b := x1) t3 (by kernel_rfl) ?_
    refine wh_seq ?_
    refine wh_region ?_
    refine w_p Tb_ok 1 (by kernel_rfl) ?_
    refine wi_end (by kernel_rfl) ?_
    refine qh_then ?_
    refine wh_ret ?_
    refine qh_then_ret ?_
    have h6 := Option.some.inj h6; subst h6
    exact q_end (l := [.bool true]) [] 3 ⟨rfl, rfl⟩ (.inl rfl) (by kernel_rfl) (by kernel_rfl) (by kernel_rfl)
   ·
    refine h_cf (b := x1) t3 (by kernel_rfl) ?_
    refine wh_skip ?_
    refine qh_then ?_
    refine wh_seq ?_
    refine wh_region ?_
    refine w_p Tb_ok 1 (by kernel_rfl) ?_
    obtain ⟨r3, er3, h7⟩ := bnd h6
    refine w_fn [(0, true)] (c_triplestore_New er3) rfl fok_54 (by kernel_rfl) ?_
    rintro _ _ ⟨w3_0, hv, rfl⟩; have hv := hv.symm; subst hv
    refine w_al (by kernel_rfl) ti_81 (fun q1 => ?_)
    refine WI.hd (y := blkP q1 81 [(.slice none 0 0), .int .i64 ((0 : Nat) : Int)]) (by kernel_rfl) ?_
    refine w_opP 0 rfl (fun b1 hb => ?_)
    subst hb
    refine w_stB (v := .agg #[w3_0, .int .i64 r3.Used]) (off := 0) (cs := [w3_0, .int .i64 r3.Used]) 0 rfl (cv0 (by kernel_rfl)) (by kernel_rfl) ti_81 rfl rfl (oC (sl_one (rd_hd 1 rfl)) (oC (fun _ _ => rfl) oN)) ?_
    refine WI.hd (y := blkP (.pointer (some ⟨b1, 0, none⟩)) 81 [w3_0, .int .i64 r3.Used]) (by kernel_rfl) ?_
    refine wi_end (by kernel_rfl) ?_
    refine qh_then ?_
    refine wh_seq ?_
    refine wh_region ?_
    refine w_p Tb_ok 1 (by kernel_rfl) ?_
    refine wi_end (by kernel_rfl) ?_
    refine qh_then ?_
    refine wh_seq ?_
    refine wh_seq ?_
    refine wh_region ?_
    refine w_p Tb_ok 1 (by kernel_rfl) ?_
    refine wi_end (by kernel_rfl) ?_
    refine qh_then ?_
    refine WH.ent (ownNil (kd := K_api_Triple) (e := 101)) ?_
    refine h_lenle (rd_lenle 4 rfl) (fun hN1 => ?_)
    obtain ⟨r4, el1, h8⟩ := bnd h7
    refine h_join (X := (Value × Value) × ((List T_api_Triple) × Int × (List T_api_Triple))) (fun g => [(0, vp_made_1), (5, (.pointer (some ⟨b1, 0, none⟩))), (6, g.1.2)]) (fun g => [rdV K_api_Triple vp_made_1 p_made, blkP (.pointer (some ⟨b1, 0, none⟩)) 81 [g.1.1, .int .i64 g.2.2.1], rdV K_api_Triple g.1.1 g.2.1, ownV K_api_Triple 101 g.1.2 g.2.2.2, exF] ++ F) (fun g => r4 = .go g.2) ?_ ?_
    ·
     refine wh_block ?_
     refine h_rg (fun (k1 : Nat) (st : (List T_api_Triple) × Int × (List T_api_Triple)) (g : Value × Value) => [(0, vp_made_1), (1, vp_goes_1), (5, (.pointer (some ⟨b1, 0, none⟩))), (6, g.2), (7, .int .i64 ((k1 : Nat) : Int))]) (fun (k1 : Nat) (st : (List T_api_Triple) × Int × (List T_api_Triple)) (g : Value × Value) => [rdV K_api_Triple vp_made_1 p_made, rdV Kd.u8 vp_goes_1 p_goes, blkP (.pointer (some ⟨b1, 0, none⟩)) 81 [g.1, .int .i64 st.2.1], rdV K_api_Triple g.1 st.1, ownV K_api_Triple 101 g.2 st.2.2, exF] ++ F) (w3_0, (.slice none 0 0)) el1 (Nat.zero_le _) aK (tH [(3, true), (4, true), (1, false), (1, true), (0, false), (3, true)] 4) ?_ ?_
     ·
      rintro ⟨l5, x5, l6⟩ ⟨g5, g6⟩ hr1 j
      refine wh_seq ?_
      refine wh_seq ?_
      refine wh_region ?_
      refine w_p Tb_ok 2 (by kernel_rfl) ?_
      refine w_len (rd_hd 1 rfl) (by kernel_rfl) ts_88 ?_
      refine w_p Tb_ok 1 (by kernel_rfl) ?_
      refine wi_end (by kernel_rfl) ?_
      refine qh_then ?_
      refine h_cf (b := (decide ((((p_goes.length) : Nat) : Int) < ((p_goes.length : Nat) : Int)))) rgF (by kernel_rfl) ?_
      refine wh_exit ?_
      refine qh_then_exit ?_
      refine q_rzX ?_
      refine qh_block_exit ?_
      exact q_join ((g5, g6), (l5, x5, l6)) hr1 aK (tH [(0, true), (2, false), (2, true), (3, false), (3, true)] 4)
     ·
      rintro rem k1 ⟨l1, x2, l2⟩ ⟨g1, g2⟩ o1 hk1 h9 hn1 j
      have h9 : privitylaw25_TriplestoreHandsOutOnce_L0 p_made p_goes k1 l1 x2 l2 = some o1 := h9
      unfold privitylaw25_TriplestoreHandsOutOnce_L0 at h9
      refine wh_seq ?_
      refine wh_seq ?_
      refine wh_region ?_
      refine w_p Tb_ok 2 (by kernel_rfl) ?_
      refine w_len (rd_hd 1 rfl) (by kernel_rfl) ts_88 ?_
      refine w_p Tb_ok 1 (by kernel_rfl) ?_
      refine wi_end (by kernel_rfl) ?_
      refine qh_then ?_
      refine h_ct (b := (decide (((k1 : Nat) : Int) < ((p_goes.length : Nat) : Int)))) (rgT hk1) (by kernel_rfl) ?_
      refine wh_skip ?_
      refine qh_then ?_
      refine wh_seq ?_
      refine wh_block ?_
      refine wh_seq ?_
      obtain ⟨x6, ex6, h10⟩ := bnd h9
      obtain ⟨x7, ex7, h11⟩ := bnd h10
      obtain ⟨r5, er5, h12⟩ := bnd h11
      refine h_flow [0, 0, 0, 6, 14, 30, 63, 127, 255, 255, 255, 0, 2559, 7167, 16383] ⟨6, [0, 0, 0, 0, 0, 0, 2, 0, 0, 0, 0, 1, 0, 1, 0], [(13, [(12, 0)])], [(0, [(0, 2)])], [(3, [(0, 1)]), (4, [(0, 1)]), (6, [(0, 3)]), (13, [(7, 1)])]⟩ (fun γ => [.agg #[g1, .int .i64 x2], vp_goes_1, .int .i64 ((k1 : Nat) : Int), .pointer (some (elV vp_goes_1 (k1 * Kd.u8.size))), .int .u8 x6, .int .i64 x7, .tuple #[(γ 6 0), .agg #[(γ 6 1), .int .i64 r5.2.1.Used], .int .i64 r5.2.2], .tuple #[(γ 6 0), .agg #[(γ 6 1), .int .i64 r5.2.1.Used], .int .i64 r5.2.2], (γ 6 0), .agg #[(γ 6 1), .int .i64 r5.2.1.Used], .int .i64 r5.2.2, (γ 11 0), (γ 6 0), undef, .int .i64 r5.2.2]) (fun i γ => match i with | 6 => [rdV K_api_Triple (γ 6 0) r5.1, rdV K_api_Triple (γ 6 1) r5.2.1.Made] | 11 => [blkP (γ 11 0) 81 [(.slice none 0 0), .int .i64 ((0 : Nat) : Int)]] | 13 => [blkP (γ 11 0) 81 [(γ 6 1), .int .i64 r5.2.1.Used]] | _ => []) (fun γ => [rdV K_api_Triple vp_made_1 p_made, rdV Kd.u8 vp_goes_1 p_goes, blkP (.pointer (some ⟨b1, 0, none⟩)) 81 [g1, .int .i64 x2], rdV K_api_Triple g1 l1, ownV K_api_Triple 101 g2 l2, exF, rdV K_api_Triple (γ 6 0) r5.1, rdV K_api_Triple (γ 6 1) r5.2.1.Made, blkP (γ 11 0) 81 [(γ 6 1), .int .i64 r5.2.1.Used]] ++ F) [1, 2, 7, 8, 9, 10, 12, 14] tryd_mix Tb_ok (by kernel_rfl) (by kernel_rfl) (fun _ => by kernel_rfl) (fun _ => by kernel_rfl) (fun _ => by kernel_rfl) (fun _ => by kernel_rfl) (fun _ => by kernel_rfl) (fun _ => by kernel_rfl) (fun _ => by kernel_rfl) ?_ ?_
      ·
       refine ⟨?_, ?_, ?_, ?_, ?_, ?_, ?_, trivial⟩
       ·
        intro γ F
        refine WI.reH (H' := [blkP (.pointer (some ⟨b1, 0, none⟩)) 81 [g1, .int .i64 x2]] ++ F) (by kernel_rfl) ?_
        refine w_ldB 0 0 rfl (by kernel_rfl) ti_81 rfl rfl ?_
        exact wE (gl []) [(0, false)] 0
       ·
        intro γ F
        refine WI.reH (H' := [rdV Kd.u8 vp_goes_1 p_goes] ++ F) (by kernel_rfl) ?_
        refine w_ix (k := .i64) (rd_hd 0 rfl) (nbd ex6) rfl (by kernel_rfl) ts_88 ti_5 ?_
        exact wE (gl []) [] 1
       ·
        intro γ F
        refine WI.reH (H' := [rdV Kd.u8 vp_goes_1 p_goes] ++ F) (by kernel_rfl) ?_
        refine w_ldR 0 0 rfl ex6 (by kernel_rfl) ti_5 rfl rfl ?_
        rintro _
        exact wE (gl []) [] 1
       ·
        intro γ F
        refine WI.reH (H' := [] ++ F) (by kernel_rfl) ?_
        refine w_cv Tb_ok (ecI ex7) (by kernel_rfl) ?_
        exact wE (gl []) [] 0
       ·
        intro γ F
        refine WI.reH (H' := [rdV K_api_Triple g1 l1] ++ F) (by kernel_rfl) ?_
        refine w_fn [(0, true)] (c_triplestore_Take er5) rfl fok_51 (by kernel_rfl) ?_
        rintro _ _ ⟨w4, w5_0, hv, rfl⟩; have hv := hv.symm; subst hv
        exact wE (gl [w4, w5_0]) [(0, true), (1, true)] 3
       ·
        intro γ F
        refine WI.reH (H' := [] ++ F) (by kernel_rfl) ?_
        refine w_al (by kernel_rfl) ti_81 (fun q2 => ?_)
        refine WI.hd (y := blkP q2 81 [(.slice none 0 0), .int .i64 ((0 : Nat) : Int)]) (by kernel_rfl) ?_
        exact wE (gl [q2]) [(0, false)] 0
       ·
        intro γ F
        refine WI.reH (H' := [blkP (γ 11 0) 81 [(.slice none 0 0), .int .i64 ((0 : Nat) : Int)], rdV K_api_Triple (γ 6 1) r5.2.1.Made] ++ F) (by kernel_rfl) ?_
        refine w_stBp (v := .agg #[(γ 6 1), .int .i64 r5.2.1.Used]) (cs := [(γ 6 1), .int .i64 r5.2.1.Used]) 0 rfl (cv0 (by kernel_rfl)) (by kernel_rfl) ti_81 rfl rfl (oC (sl_one (rd_hd 1 rfl)) (oC (fun _ _ => rfl) oN)) ?_
        exact wE (gl []) [(0, false)] 1
      ·
       intro γ1
       refine q_opS 9 8 (by kernel_rfl) rfl (fun b2 => ?_)
       refine qh_then ?_
       refine wh_seq ?_
       refine wh_seq ?_
       refine wh_region ?_
       refine w_p Tb_ok 3 (by kernel_rfl) ?_
       refine w_len (own_hd 5 rfl) (by kernel_rfl) ts_79 ?_
       refine w_p Tb_ok 2 (by kernel_rfl) ?_
       refine w_ix (k := .i64) (rd_hd 2 rfl) (nbd ex6) rfl (by kernel_rfl) ts_88 ti_5 ?_
       refine w_ldR 2 0 rfl ex6 (by kernel_rfl) ti_5 rfl rfl ?_
       rintro _
       refine w_cv Tb_ok (ecI ex7) (by kernel_rfl) ?_
       obtain ⟨x8, ex8, h13⟩ := bnd h12
       refine w_bi (zaddI ex8) (by kernel_rfl) ?_
       refine w_p Tb_ok 1 (by kernel_rfl) ?_
       refine w_len (rd_hd 1 rfl) (by kernel_rfl) ts_79 ?_
       refine w_p Tb_ok 1 (by kernel_rfl) ?_
       refine w_neBB (t := 4) (yt := 4) (a := (r5.2.2 == (0 : Int))) (b := (decide (x8 ≤ ((p_made.length : Nat) : Int)))) (by kernel_rfl) (show tbool Tryd.prog 4 = true by kernel_rfl) ?_
       refine wi_end (by kernel_rfl) ?_
       refine qh_then ?_
       rcases bcase h13 with ⟨t4, h14⟩ | ⟨t4, h14⟩
       ·
        refine h_ct (b := ((r5.2.2 == (0 : Int)) != (decide (x8 ≤ ((p_made.length : Nat) : Int))))) t4 (by kernel_rfl) ?_
        refine wh_seq ?_
        refine wh_region ?_
        refine w_p Tb_ok 1 (by kernel_rfl) ?_
        refine wi_end (by kernel_rfl) ?_
        refine qh_then ?_
        refine wh_ret ?_
        refine qh_then_ret ?_
        refine qh_block_ret ?_
        refine qh_then_ret ?_
        refine q_rgR ?_
        refine qh_block_ret ?_
        refine q_joinR ?_
        refine qh_then_ret ?_
        have h14 := Option.some.inj h14; subst h14
        have hn := (show _ = _ from hn1); subst hn
        have h8 := Option.some.inj (show some _ = some _ from h8); subst h8
        exact q_end (l := [.bool false]) [] 9 ⟨rfl, rfl⟩ (.inl rfl) (by kernel_rfl) (by kernel_rfl) (by kernel_rfl)
       ·
        refine h_cf (b := ((r5.2.2 == (0 : Int)) != (decide (x8 ≤ ((p_made.length : Nat) : Int))))) t4 (by kernel_rfl) ?_
        refine wh_skip ?_
        refine qh_then ?_
        refine wh_seq ?_
        refine wh_region ?_
        refine w_p Tb_ok 2 (by kernel_rfl) ?_
        obtain ⟨l7, el7, h15⟩ := bnd h14
        refine w_app 5 rfl (rd_src 7 rfl) el7 (by kernel_rfl) ts_79 ti_101 rfl (fun v1 => ?_)
        refine w_p Tb_ok 1 (by kernel_rfl) ?_
        refine wi_end (by kernel_rfl) ?_
        refine qh_then ?_
        refine wh_region ?_
        refine w_ldB 1 0 rfl (by kernel_rfl) ti_81 rfl rfl ?_
        refine w_stB (v := .agg #[(γ1 6 1), .int .i64 r5.2.1.Used]) (off := 0) (cs := [(γ1 6 1), .int .i64 r5.2.1.Used]) 4 rfl (cv0 (by kernel_rfl)) (by kernel_rfl) ti_81 rfl rfl (oC (sl_one (rd_hd 8 rfl)) (oC (fun _ _ => rfl) oN)) ?_
        refine WI.hd (y := blkP (.pointer (some ⟨b1, 0, none⟩)) 81 [(γ1 6 1), .int .i64 r5.2.1.Used]) (by kernel_rfl) ?_
        refine wi_end (by kernel_rfl) ?_
        refine qh_block_normal ?_
        refine qh_then ?_
        refine wh_region ?_
        refine w_p Tb_ok 1 (by kernel_rfl) ?_
        refine w_bi (zinc hk1 hN1) (by kernel_rfl) ?_
        refine w_p Tb_ok 1 (by kernel_rfl) ?_
        refine wi_end (by kernel_rfl) ?_
        have h15 := Option.some.inj h15; subst h15
        exact q_rgo ((γ1 6 1), v1) hn1 aK (tH [(3, true), (4, true), (0, false), (7, true), (0, false), (4, true)] 7)
    ·
     rintro ⟨⟨g3, g4⟩, ⟨l3, x4, l4⟩⟩ hc j
     subst hc
     refine qh_then ?_
     refine wh_seq ?_
     refine wh_region ?_
     refine w_p Tb_ok 1 (by kernel_rfl) ?_
     refine w_len (own_hd 3 rfl) (by kernel_rfl) ts_79 ?_
     refine w_p Tb_ok 1 (by kernel_rfl) ?_
     refine w_len (rd_hd 0 rfl) (by kernel_rfl) ts_79 ?_
     refine w_p Tb_ok 2 (by kernel_rfl) ?_
     rcases bcase h8 with ⟨t5, h16⟩ | ⟨t5, h16⟩
     ·
      refine w_kb (t := 63) t5 (by kernel_rfl) ?_
      refine w_p Tb_ok 3 (by kernel_rfl) ?_
      refine w_len (own_hd 3 rfl) (by kernel_rfl) ts_79 ?_
      obtain ⟨l8, el8, h17⟩ := bnd h16
      refine w_cut 0 rfl el8 loN (hiS (k := .i64)) (by kernel_rfl) ts_79 ti_101 (fun v2 => ?_)
      refine WI.ent (frzAt 4 rfl) ?_
      obtain ⟨r6, er6, h18⟩ := bnd h17
      refine w_fn [(0, true), (1, true)] (c_privityref22_SameList er6) rfl fok_53 (by kernel_rfl) ?_
      rintro _ _ ⟨hv, rfl⟩; have hv := hv.symm; subst hv
      refine w_p Tb_ok 2 (by kernel_rfl) ?_
      rcases bcase h18 with ⟨t6, h19⟩ | ⟨t6, h19⟩
      ·
       refine w_kb (t := 71) t6 (by kernel_rfl) ?_
       refine w_p Tb_ok 1 (by kernel_rfl) ?_
       refine w_ldB 3 1 rfl (by kernel_rfl) ti_3 rfl rfl ?_
       refine w_p Tb_ok 1 (by kernel_rfl) ?_
       refine w_len (rd_hd 0 rfl) (by kernel_rfl) ts_79 ?_
       refine w_p Tb_ok 3 (by kernel_rfl) ?_
       refine wi_end (by kernel_rfl) ?_
       refine qh_then ?_
       refine wh_ret ?_
       have h19 := Option.some.inj h19; subst h19
       exact q_end (l := [.bool (x4 == ((l4.length : Nat) : Int))]) [] 6 ⟨rfl, rfl⟩ (.inl rfl) (by kernel_rfl) (by kernel_rfl) (by kernel_rfl)
      ·
       refine w_kb (t := 71) t6 (by kernel_rfl) ?_
       refine w_p Tb_ok 7 (by kernel_rfl) ?_
       refine wi_end (by kernel_rfl) ?_
       refine qh_then ?_
       refine wh_ret ?_
       have h19 := Option.some.inj h19; subst h19
       exact q_end (l := [.bool false]) [] 6 ⟨rfl, rfl⟩ (.inl rfl) (by kernel_rfl) (by kernel_rfl) (by kernel_rfl)
     ·
      refine w_kb (t := 63) t5 (by kernel_rfl) ?_
      refine w_p Tb_ok 15 (by kernel_rfl) ?_
      refine wi_end (by kernel_rfl) ?_
      refine qh_then ?_
      refine wh_ret ?_
      have h16 := Option.some.inj h16; subst h16
      exact q_end (l := [.bool false]) [] 5 ⟨rfl, rfl⟩ (.inl rfl) (by kernel_rfl) (by kernel_rfl) (by kernel_rfl)
theorem c_privitylaw25_TriplestoreTakeIsAdditive {p_made : List T_api_Triple} {p_a : Nat} {p_b : Nat} {vp_made_1 : Value} {r : Bool} (h : privitylaw25_TriplestoreTakeIsAdditive p_made p_a p_b = some r) : Ct Tryd.prog 16 [vp_made_1, .int .u8 p_a, .int .u8 p_b] [rdV K_api_Triple vp_made_1 p_made, exF] (fun v L => v = .bool r ∧ L = []) := by
 refine ct_intro Tryd.func16 rfl (by kernel_rfl) (fun F => ?_)
 unfold privitylaw25_TriplestoreTakeIsAdditive at h
 refine wh_seq ?_
 refine wh_region ?_
 refine w_p Tb_ok 1 (by kernel_rfl) ?_
 refine wi_end (by kernel_rfl) ?_
 refine qh_then ?_
 refine wh_seq ?_
 refine wh_seq ?_
 refine wh_region ?_
 obtain ⟨r1, er1, h1⟩ := bnd h
 refine w_fn [(1, true)] (c_privitylaw25_awake er1) rfl fok_49 (by kernel_rfl) ?_
 rintro _ _ ⟨hv, rfl⟩; have hv := hv.symm; subst hv
 refine w_p Tb_ok 1 (by kernel_rfl) ?_
 refine wi_end (by kernel_rfl) ?_
 refine qh_then ?_
 rcases bcase h1 with ⟨t1, h2⟩ | ⟨t1, h2⟩
 ·
  refine h_ct (b := (!r1)) t1 (by kernel_rfl) ?_
  refine wh_seq ?_
  refine wh_region ?_
  refine w_p Tb_ok 1 (by kernel_rfl) ?_
  refine wi_end (by kernel_rfl) ?_
  refine qh_then ?_
  refine wh_ret ?_
  refine qh_then_ret ?_
  have h2 := Option.some.inj h2; subst h2
  exact q_end (l := [.bool false]) [] 2 ⟨rfl, rfl⟩ (.inl rfl) (by kernel_rfl) (by kernel_rfl) (by kernel_rfl)
 ·
  refine h_cf (b := (!r1)) t1 (by kernel_rfl) ?_
  refine wh_skip ?_
  refine qh_then ?_
  refine wh_seq ?_
  refine wh_seq ?_
  obtain ⟨x1, ej1, h3⟩ := bnd h2
  refine h_join (X := Unit) (fun g => [(0, vp_made_1), (1, .int .u8 p_a), (2, .int .u8 p_b), (30, .bool x1)]) (fun g => [rdV K_api_Triple vp_made_1 p_made, exF] ++ F) (fun _ => True) ?_ ?_
  ·
   refine wh_region ?_
   refine w_p Tb_ok 1 (by kernel_rfl) ?_
   obtain ⟨r2, er2, h4⟩ := bnd ej1
   refine w_fn [(0, true)] (c_privitylaw25_few er2) rfl fok_50 (by kernel_rfl) ?_
   rintro _ _ ⟨hv, rfl⟩; have hv := hv.symm; subst hv
   refine w_p Tb_ok 2 (by kernel_rfl) ?_
   rcases bcase h4 with ⟨t2, h5⟩ | ⟨t2, h5⟩
   ·
    refine w_kb (t := 21) t2 (by kernel_rfl) ?_
    refine w_p Tb_ok 9 (by kernel_rfl) ?_
    refine wi_end (by kernel_rfl) ?_
    cases h5
    exact q_join () trivial aK (tH [(0, true), (1, true)] 2)
   ·
    refine w_kb (t := 21) t2 (by kernel_rfl) ?_
    refine w_p Tb_ok 1 (by kernel_rfl) ?_
    obtain ⟨x2, ex2, h6⟩ := bnd h5
    refine w_cv Tb_ok (ecI ex2) (by kernel_rfl) ?_
    refine w_p Tb_ok 1 (by kernel_rfl) ?_
    obtain ⟨x3, ex3, h7⟩ := bnd h6
    refine w_cv Tb_ok (ecI ex3) (by kernel_rfl) ?_
    obtain ⟨x4, ex4, h8⟩ := bnd h7
    refine w_bi (zaddI ex4) (by kernel_rfl) ?_
    refine w_p Tb_ok 1 (by kernel_rfl) ?_
    refine w_len (rd_hd 0 rfl) (by kernel_rfl) ts_79 ?_
    refine w_p Tb_ok 2 (by kernel_rfl) ?_
    refine wi_end (by kernel_rfl) ?_
    cases h8
    exact q_join () trivial aK (tH [(0, true), (1, true)] 2)
  ·
   rintro ⟨⟩ - j
   refine qh_then ?_
   rcases bcase h3 with ⟨t3, h9⟩ | ⟨t3, h9⟩
   ·
    refine h_ct (b := x1) t3 (by kernel_rfl) ?_
    refine wh_seq ?_
    refine wh_region ?_
    refine w_p Tb_ok 1 (by kernel_rfl) ?_
    refine wi_end (by kernel_rfl) ?_
    refine qh_then ?_
    refine wh_ret ?_
    refine qh_then_ret ?_
    have h9 := Option.some.inj h9; subst h9
    exact q_end (l := [.bool true]) [] 2 ⟨rfl, rfl⟩ (.inl rfl) (by kernel_rfl) (by kernel_rfl) (by kernel_rfl)
   ·
    refine h_cf (b := x1) t3 (by kernel_rfl) ?_
    refine wh_skip ?_
    refine qh_then ?_
    refine wh_seq ?_
    refine wh_region ?_
    refine w_p Tb_ok 1 (by kernel_rfl) ?_
    obtain ⟨r3, er3, h10⟩ := bnd h9
    refine w_fn [(0, true)] (c_triplestore_New er3) rfl fok_54 (by kernel_rfl) ?_
    rintro _ _ ⟨w3_0, hv, rfl⟩; have hv := hv.symm; subst hv
    refine w_p Tb_ok 1 (by kernel_rfl) ?_
    obtain ⟨x5, ex5, h11⟩ := bnd h10
    refine w_cv Tb_ok (ecI ex5) (by kernel_rfl) ?_
    obtain ⟨r4, er4, h12⟩ := bnd h11
    refine w_fn [(0, true)] (c_triplestore_Take er4) rfl fok_51 (by kernel_rfl) ?_
    rintro _ _ ⟨w4, w5_0, hv, rfl⟩; have hv := hv.symm; subst hv
    refine w_p Tb_ok 4 (by kernel_rfl) ?_
    refine w_al (by kernel_rfl) ti_81 (fun q1 => ?_)
    refine WI.hd (y := blkP q1 81 [(.slice none 0 0), .int .i64 ((0 : Nat) : Int)]) (by kernel_rfl) ?_
    refine w_opP 0 rfl (fun b1 hb => ?_)
    subst hb
    refine w_p Tb_ok 1 (by kernel_rfl) ?_
    refine w_stB (v := .agg #[w5_0, .int .i64 r4.2.1.Used]) (off := 0) (cs := [w5_0, .int .i64 r4.2.1.Used]) 0 rfl (cv0 (by kernel_rfl)) (by kernel_rfl) ti_81 rfl rfl (oC (sl_one (rd_hd 2 rfl)) (oC (fun _ _ => rfl) oN)) ?_
    refine WI.hd (y := blkP (.pointer (some ⟨b1, 0, none⟩)) 81 [w5_0, .int .i64 r4.2.1.Used]) (by kernel_rfl) ?_
    refine w_p Tb_ok 1 (by kernel_rfl) ?_
    refine wi_end (by kernel_rfl) ?_
    refine qh_then ?_
    refine wh_seq ?_
    refine wh_region ?_
    refine w_ldB 0 0 rfl (by kernel_rfl) ti_81 rfl rfl ?_
    refine w_p Tb_ok 1 (by kernel_rfl) ?_
    obtain ⟨x6, ex6, h13⟩ := bnd h12
    refine w_cv Tb_ok (ecI ex6) (by kernel_rfl) ?_
    obtain ⟨r5, er5, h14⟩ := bnd h13
    refine w_fn [(2, true)] (c_triplestore_Take er5) rfl fok_51 (by kernel_rfl) ?_
    rintro _ _ ⟨w7, w8_0, hv, rfl⟩; have hv := hv.symm; subst hv
    refine w_p Tb_ok 4 (by kernel_rfl) ?_
    refine w_al (by kernel_rfl) ti_81 (fun q2 => ?_)
    refine WI.hd (y := blkP q2 81 [(.slice none 0 0), .int .i64 ((0 : Nat) : Int)]) (by kernel_rfl) ?_
    refine w_opP 0 rfl (fun b2 hb => ?_)
    subst hb
    refine w_p Tb_ok 1 (by kernel_rfl) ?_
    refine w_stB (v := .agg #[w8_0, .int .i64 r5.2.1.Used]) (off := 0) (cs := [w8_0, .int .i64 r5.2.1.Used]) 0 rfl (cv0 (by kernel_rfl)) (by kernel_rfl) ti_81 rfl rfl (oC (sl_one (rd_hd 2 rfl)) (oC (fun _ _ => rfl) oN)) ?_
    refine WI.hd (y := blkP (.pointer (some ⟨b2, 0, none⟩)) 81 [w8_0, .int .i64 r5.2.1.Used]) (by kernel_rfl) ?_
    refine w_p Tb_ok 1 (by kernel_rfl) ?_
    refine wi_end (by kernel_rfl) ?_
    refine qh_then ?_
    refine wh_seq ?_
    refine wh_region ?_
    refine w_p Tb_ok 1 (by kernel_rfl) ?_
    refine w_fn [(7, true)] (c_triplestore_New er3) rfl fok_54 (by kernel_rfl) ?_
    rintro _ _ ⟨w10_0, hv, rfl⟩; have hv := hv.symm; subst hv
    refine w_p Tb_ok 1 (by kernel_rfl) ?_
    refine w_cv Tb_ok (ecI ex5) (by kernel_rfl) ?_
    refine w_p Tb_ok 1 (by kernel_rfl) ?_
    refine w_cv Tb_ok (ecI ex6) (by kernel_rfl) ?_
    obtain ⟨x7, ex7, h15⟩ := bnd h14
    refine w_bi (zaddI ex7) (by kernel_rfl) ?_
    obtain ⟨r6, er6, h16⟩ := bnd h15
    refine w_fn [(0, true)] (c_triplestore_Take er6) rfl fok_51 (by kernel_rfl) ?_
    rintro _ _ ⟨w11, w12_0, hv, rfl⟩; have hv := hv.symm; subst hv
    refine w_p Tb_ok 4 (by kernel_rfl) ?_
    refine w_al (by kernel_rfl) ti_81 (fun q3 => ?_)
    refine WI.hd (y := blkP q3 81 [(.slice none 0 0), .int .i64 ((0 : Nat) : Int)]) (by kernel_rfl) ?_
    refine w_opP 0 rfl (fun b3 hb => ?_)
    subst hb
    refine w_p Tb_ok 1 (by kernel_rfl) ?_
    refine w_stB (v := .agg #[w12_0, .int .i64 r6.2.1.Used]) (off := 0) (cs := [w12_0, .int .i64 r6.2.1.Used]) 0 rfl (cv0 (by kernel_rfl)) (by kernel_rfl) ti_81 rfl rfl (oC (sl_one (rd_hd 2 rfl)) (oC (fun _ _ => rfl) oN)) ?_
    refine WI.hd (y := blkP (.pointer (some ⟨b3, 0, none⟩)) 81 [w12_0, .int .i64 r6.2.1.Used]) (by kernel_rfl) ?_
    refine w_p Tb_ok 1 (by kernel_rfl) ?_
    refine wi_end (by kernel_rfl) ?_
    refine qh_then ?_
    refine wh_seq ?_
    refine wh_region ?_
    refine w_p Tb_ok 3 (by kernel_rfl) ?_
    rcases bcase h16 with ⟨t4, h17⟩ | ⟨t4, h17⟩
    ·
     refine w_kb (t := 62) t4 (by kernel_rfl) ?_
     refine w_p Tb_ok 4 (by kernel_rfl) ?_
     rcases bcase h17 with ⟨t5, h18⟩ | ⟨t5, h18⟩
     ·
      refine w_kb (t := 66) t5 (by kernel_rfl) ?_
      refine w_p Tb_ok 4 (by kernel_rfl) ?_
      rcases bcase h18 with ⟨t6, h19⟩ | ⟨t6, h19⟩
      ·
       refine w_kb (t := 70) t6 (by kernel_rfl) ?_
       refine w_p Tb_ok 1 (by kernel_rfl) ?_
       refine w_ldB 4 1 rfl (by kernel_rfl) ti_3 rfl rfl ?_
       refine w_p Tb_ok 1 (by kernel_rfl) ?_
       refine w_ldB 0 1 rfl (by kernel_rfl) ti_3 rfl rfl ?_
       refine w_p Tb_ok 3 (by kernel_rfl) ?_
       rcases bcase h19 with ⟨t7, h20⟩ | ⟨t7, h20⟩
       ·
        refine w_kb (t := 77) t7 (by kernel_rfl) ?_
        refine w_lt (kd := K_api_Triple) (t := 79) (len := 0) (ps0 := []) (ps := []) ([] : List T_api_Triple) _ row0 sc0 (by kernel_rfl) ts_79 ti_101 (by kernel_rfl) rfl rfl (fun v1 => ?_)
        refine w_p Tb_ok 1 (by kernel_rfl) ?_
        obtain ⟨l1, el1, h21⟩ := bnd h20
        refine w_app 0 rfl (rd_src 9 rfl) el1 (by kernel_rfl) ts_79 ti_101 rfl (fun v2 => ?_)
        refine w_p Tb_ok 1 (by kernel_rfl) ?_
        obtain ⟨l2, el2, h22⟩ := bnd h21
        refine w_app 0 rfl (rd_src 6 rfl) el2 (by kernel_rfl) ts_79 ti_101 rfl (fun v3 => ?_)
        refine w_p Tb_ok 1 (by kernel_rfl) ?_
        refine WI.ent (frzAt 0 rfl) ?_
        obtain ⟨r7, er7, h23⟩ := bnd h22
        refine w_fn [(0, true), (2, true)] (c_privityref22_SameList er7) rfl fok_53 (by kernel_rfl) ?_
        rintro _ _ ⟨hv, rfl⟩; have hv := hv.symm; subst hv
        refine w_p Tb_ok 2 (by kernel_rfl) ?_
        refine wi_end (by kernel_rfl) ?_
        refine qh_then ?_
        refine wh_ret ?_
        have h23 := Option.some.inj h23; subst h23
        exact q_end (l := [.bool r7]) [] 14 ⟨rfl, rfl⟩ (.inl rfl) (by kernel_rfl) (by kernel_rfl) (by kernel_rfl)
       ·
        refine w_kb (t := 77) t7 (by kernel_rfl) ?_
        refine w_p Tb_ok 9 (by kernel_rfl) ?_
        refine wi_end (by kernel_rfl) ?_
        refine qh_then ?_
        refine wh_ret ?_
        have h20 := Option.some.inj h20; subst h20
        exact q_end (l := [.bool false]) [] 13 ⟨rfl, rfl⟩ (.inl rfl) (by kernel_rfl) (by kernel_rfl) (by kernel_rfl)
      ·
       refine w_kb (t := 70) t6 (by kernel_rfl) ?_
       refine w_p Tb_ok 16 (by kernel_rfl) ?_
       refine wi_end (by kernel_rfl) ?_
       refine qh_then ?_
       refine wh_ret ?_
       have h19 := Option.some.inj h19; subst h19
       exact q_end (l := [.bool false]) [] 13 ⟨rfl, rfl⟩ (.inl rfl) (by kernel_rfl) (by kernel_rfl) (by kernel_rfl)
     ·
      refine w_kb (t := 66) t5 (by kernel_rfl) ?_
      refine w_p Tb_ok 20 (by kernel_rfl) ?_
      refine wi_end (by kernel_rfl) ?_
      refine qh_then ?_
      refine wh_ret ?_
      have h18 := Option.some.inj h18; subst h18
      exact q_end (l := [.bool false]) [] 13 ⟨rfl, rfl⟩ (.inl rfl) (by kernel_rfl) (by kernel_rfl) (by kernel_rfl)
    ·
     refine w_kb (t := 62) t4 (by kernel_rfl) ?_
     refine w_p Tb_ok 24 (by kernel_rfl) ?_
     refine wi_end (by kernel_rfl) ?_
     refine qh_then ?_
     refine wh_ret ?_
     have h17 := Option.some.inj h17; subst h17
     exact q_end (l := [.bool false]) [] 13 ⟨rfl, rfl⟩ (.inl rfl) (by kernel_rfl) (by kernel_rfl) (by kernel_rfl)
end Go.Proofs.YtclhpomlfadohaaDoor
