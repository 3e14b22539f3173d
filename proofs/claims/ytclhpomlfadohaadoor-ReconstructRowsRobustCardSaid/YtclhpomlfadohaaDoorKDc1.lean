/- Contracts of Go functions, one theorem each: the call returns just what the plain function says. Printed by a program of this claim. -/
import Derived.Test.YtclhpomlfadohaaDoorKD
set_option linter.unusedVariables false
namespace Go.Proofs.YtclhpomlfadohaaDoor
open Go Gv Gw Pu
set_option maxHeartbeats 4000000
theorem c_network_Net_Send {p_n : T_network_Net} {p_out : List (List (List Nat))} {bp_n : Nat} {vp_n_1 : Value} {vp_n_2 : Value} {vp_n_3 : Value} {vp_n_4 : Value} {vp_n_5 : Value} {vp_out_1 : Value} {r : (List (List (List Nat))) × Int × (List (List T_api_Event))} (h : network_Net_Send p_n p_out = some r) : Ct Tryd.prog 66 [(.pointer (some ⟨bp_n, 0, none⟩)), vp_out_1] [blkP (.pointer (some ⟨bp_n, 0, none⟩)) 119 [.int .u64 p_n.zw.S.P, .int .i64 p_n.zw.S.N, .int .i64 p_n.zw.S.T, vp_n_1, vp_n_2, vp_n_3, .int .i64 p_n.zround, (th vp_n_4), vp_n_5], rdV Kd.i64 vp_n_1 p_n.zw.Corrupt, rdV K_api_Deviation vp_n_2 p_n.zw.Deviations, rdV (Kd.sl Kd.u64) vp_n_3 p_n.zw.Tapes, treeV (rowK K_api_Event 67) 46 (th vp_n_4) (tg vp_n_4) p_n.zviews, rdV Kd.any vp_n_5 p_n.ztapes, rdV (Kd.sl (Kd.sl Kd.u64)) vp_out_1 p_out] (fun v L => ∃ w0 w2 : Value, v = w0 ∧ L = [ownV (Kd.sl (Kd.sl Kd.u64)) 27 w0 r.1, blkP (.pointer (some ⟨bp_n, 0, none⟩)) 119 [.int .u64 p_n.zw.S.P, .int .i64 p_n.zw.S.N, .int .i64 p_n.zw.S.T, vp_n_1, vp_n_2, vp_n_3, .int .i64 r.2.1, (th w2), vp_n_5], treeV (rowK K_api_Event 67) 46 (th w2) (tg w2) r.2.2]) := by
 refine ct_intro Tryd.func66 rfl kr (fun F => ?_)
 unfold network_Net_Send at h
 refine wh_seq ?_
 refine wh_region ?_
 refine w_p Tb_ok 1 kr ?_
 refine wi_end kr ?_
 refine qh_then ?_
 refine wh_seq ?_
 refine wh_region ?_
 refine w_p Tb_ok 3 kr ?_
 refine wi_end kr ?_
 refine qh_then ?_
 refine wh_seq ?_
 refine WH.ent (hd_add (tree_hdI (inP 4 rfl))) ?_
 obtain ⟨r1, er1, h1⟩ := bnd h
 refine h_flow [0, 1, 3, 7, 0, 16, 48, 112, 0, 511, 1023] ⟨8, [0, 0, 0, 0, 0, 0, 0, 0, 0, 1, 0], [], [(3, [(0, 1)]), (7, [(0, 1)])], [(9, [(0, 2), (0, 3), (0, 4), (0, 7)])]⟩ (fun γ => [(.pointer (some ⟨bp_n, 0, none⟩)), (.pointer (some ⟨bp_n, 0, none⟩)), .pointer (some ⟨bp_n, 0, none⟩), .agg #[.int .u64 p_n.zw.S.P, .int .i64 p_n.zw.S.N, .int .i64 p_n.zw.S.T, vp_n_1, vp_n_2, vp_n_3], (.pointer (some ⟨bp_n, 0, none⟩)), (.pointer (some ⟨bp_n, 0, none⟩)), .pointer (some ⟨bp_n, 6, none⟩), .int .i64 p_n.zround, vp_out_1, (γ 9 0), (γ 9 0)]) (fun i γ => match i with | 9 => [ownV (Kd.sl (Kd.sl Kd.u64)) 27 (γ 9 0) r1] | _ => []) (fun γ => [hdP (th vp_n_4) p_n.zviews.length, blkP (.pointer (some ⟨bp_n, 0, none⟩)) 119 [.int .u64 p_n.zw.S.P, .int .i64 p_n.zw.S.N, .int .i64 p_n.zw.S.T, vp_n_1, vp_n_2, vp_n_3, .int .i64 p_n.zround, (th vp_n_4), vp_n_5], rdV Kd.i64 vp_n_1 p_n.zw.Corrupt, rdV K_api_Deviation vp_n_2 p_n.zw.Deviations, rdV (Kd.sl Kd.u64) vp_n_3 p_n.zw.Tapes, treeV (rowK K_api_Event 67) 46 (th vp_n_4) (tg vp_n_4) p_n.zviews, rdV Kd.any vp_n_5 p_n.ztapes, rdV (Kd.sl (Kd.sl Kd.u64)) vp_out_1 p_out, ownV (Kd.sl (Kd.sl Kd.u64)) 27 (γ 9 0) r1] ++ F) [0, 1, 2, 4, 5, 6, 8, 10] tryd_mix Tb_ok kr kr (fun _ => by kernel_rfl) (fun _ => by kernel_rfl) (fun _ => by kernel_rfl) (fun _ => by kernel_rfl) (fun _ => by kernel_rfl) (fun _ => by kernel_rfl) (fun _ => by kernel_rfl) ?_ ?_
 ·
  refine ⟨?_, ?_, ?_, trivial⟩
  ·
   intro γ F
   refine WI.reH (H' := [blkP (.pointer (some ⟨bp_n, 0, none⟩)) 119 [.int .u64 p_n.zw.S.P, .int .i64 p_n.zw.S.N, .int .i64 p_n.zw.S.T, vp_n_1, vp_n_2, vp_n_3, .int .i64 p_n.zround, (th vp_n_4), vp_n_5]] ++ F) kr ?_
   refine w_ldB 0 0 rfl kr ti_29 rfl rfl ?_
   exact wE (gl []) [(0, false)] 0
  ·
   intro γ F
   refine WI.reH (H' := [blkP (.pointer (some ⟨bp_n, 0, none⟩)) 119 [.int .u64 p_n.zw.S.P, .int .i64 p_n.zw.S.N, .int .i64 p_n.zw.S.T, vp_n_1, vp_n_2, vp_n_3, .int .i64 p_n.zround, (th vp_n_4), vp_n_5]] ++ F) kr ?_
   refine w_ldB 0 6 rfl kr ti_3 rfl rfl ?_
   exact wE (gl []) [(0, false)] 0
  ·
   intro γ F
   refine WI.reH (H' := [rdV Kd.i64 vp_n_1 p_n.zw.Corrupt, rdV K_api_Deviation vp_n_2 p_n.zw.Deviations, rdV (Kd.sl Kd.u64) vp_n_3 p_n.zw.Tapes, rdV (Kd.sl (Kd.sl Kd.u64)) vp_out_1 p_out] ++ F) kr ?_
   refine w_fn [(0, true), (1, true), (2, true), (3, true)] (c_adversary_ApplyToMessages er1) rfl fok_96 kr ?_
   rintro _ _ ⟨w1, hv, rfl⟩; have hv := hv.symm; subst hv
   exact wE (gl [w1]) [(0, false)] 4
 ·
  intro γ1
  refine qh_then ?_
  refine wh_seq ?_
  refine wh_region ?_
  refine w_p Tb_ok 5 kr ?_
  refine w_ldB 1 1 rfl kr ti_3 rfl rfl ?_
  obtain ⟨l1, el1, h2⟩ := bnd h1
  refine w_mkT (rowK (Kd.sl Kd.u64) 30) new_row (kl := .i64) (kc := .i64) el1 kr ts_75 ti_27 rfl (fun v1 => ?_)
  refine w_p Tb_ok 1 kr ?_
  refine wi_end kr ?_
  refine qh_then ?_
  refine wh_seq ?_
  refine wh_seq ?_
  refine wh_region ?_
  refine w_p Tb_ok 1 kr ?_
  refine w_len (tree_hdI (inP 0 rfl)) kr ts_75 ?_
  refine w_p Tb_ok 1 kr ?_
  refine wi_end kr ?_
  refine qh_then ?_
  refine h_lenle (tree_lenle 0 rfl) (fun hN1 => ?_)
  obtain ⟨⟨l4, l5⟩, el1, h3⟩ := bnd h2
  refine h_join (X := Value × Value) (fun g => [(0, (.pointer (some ⟨bp_n, 0, none⟩))), (7, (th g.2))]) (fun g => [blkP (.pointer (some ⟨bp_n, 0, none⟩)) 119 [.int .u64 p_n.zw.S.P, .int .i64 p_n.zw.S.N, .int .i64 p_n.zw.S.T, vp_n_1, vp_n_2, vp_n_3, .int .i64 p_n.zround, (th g.1), vp_n_5], rdV Kd.i64 vp_n_1 p_n.zw.Corrupt, rdV K_api_Deviation vp_n_2 p_n.zw.Deviations, rdV (Kd.sl Kd.u64) vp_n_3 p_n.zw.Tapes, treeV (rowK K_api_Event 67) 46 (th g.1) (tg g.1) l4, rdV Kd.any vp_n_5 p_n.ztapes, treeV (rowK (Kd.sl Kd.u64) 30) 27 (th g.2) (tg g.2) l5] ++ F) (fun _ => True) ?_ ?_
  ·
   refine wh_block ?_
   refine h_rs (fun (k1 : Nat) (st : (List (List T_api_Event)) × (List (List (List Nat)))) (g : Value × Value) => [(0, (.pointer (some ⟨bp_n, 0, none⟩))), (5, .func (.func 95) #[(.pointer (some ⟨bp_n, 0, none⟩))] #[]), (6, (γ1 9 0)), (7, (th g.2)), (31, .int .i64 ((l1.length : Nat) : Int)), (32, .int .i64 ((k1 : Nat) : Int))]) (fun (k1 : Nat) (st : (List (List T_api_Event)) × (List (List (List Nat)))) (g : Value × Value) => [blkP (.pointer (some ⟨bp_n, 0, none⟩)) 119 [.int .u64 p_n.zw.S.P, .int .i64 p_n.zw.S.N, .int .i64 p_n.zw.S.T, vp_n_1, vp_n_2, vp_n_3, .int .i64 p_n.zround, (th g.1), vp_n_5], rdV Kd.i64 vp_n_1 p_n.zw.Corrupt, rdV K_api_Deviation vp_n_2 p_n.zw.Deviations, rdV (Kd.sl Kd.u64) vp_n_3 p_n.zw.Tapes, treeV (rowK K_api_Event 67) 46 (th g.1) (tg g.1) st.1, rdV Kd.any vp_n_5 p_n.ztapes, ownV (Kd.sl (Kd.sl Kd.u64)) 27 (γ1 9 0) r1, treeV (rowK (Kd.sl Kd.u64) 30) 27 (th g.2) (tg g.2) st.2] ++ F) ((tw (th vp_n_4) (tg vp_n_4)), (tw v1 (List.replicate p_n.zw.S.N.toNat (.slice none 0 0)))) el1 (Nat.zero_le _) aK (tH [(2, false), (2, true), (3, true), (4, true), (5, false), (5, true), (7, false), (0, false)] 6) ?_ ?_
   ·
    rintro ⟨g5, g6⟩ j
    refine wh_seq ?_
    refine wh_region ?_
    refine w_p Tb_ok 1 kr ?_
    refine wi_end kr ?_
    refine qh_then ?_
    refine wh_seq ?_
    refine h_cf (b := (decide ((((l1.length) : Nat) : Int) < ((l1.length : Nat) : Int)))) rgF kr ?_
    refine wh_exit ?_
    refine qh_then_exit ?_
    refine q_rzX ?_
    refine qh_block_exit ?_
    exact q_join ((tw (th g5) (tg g5)), (tw (th g6) (tg g6))) trivial aK (tH [(0, false), (0, true), (1, true), (2, true), (3, false), (3, true), (5, false)] 5)
   ·
    rintro rem k1 ⟨l2, l3⟩ ⟨g1, g2⟩ o1 hk1 h4 hn1 j
    have h4 : network_Net_Send_L0 p_n r1 k1 l2 l3 = some o1 := h4
    unfold network_Net_Send_L0 at h4
    refine wh_seq ?_
    refine wh_region ?_
    refine w_p Tb_ok 1 kr ?_
    refine wi_end kr ?_
    refine qh_then ?_
    refine wh_seq ?_
    refine h_ct (b := (decide (((k1 : Nat) : Int) < ((l1.length : Nat) : Int)))) (rgT hk1) kr ?_
    refine wh_skip ?_
    refine qh_then ?_
    refine wh_seq ?_
    refine wh_block ?_
    refine wh_seq ?_
    refine wh_region ?_
    refine w_p Tb_ok 2 kr ?_
    refine wi_end kr ?_
    refine qh_then ?_
    refine wh_seq ?_
    refine wh_region ?_
    refine w_p Tb_ok 5 kr ?_
    refine w_ldB 0 1 rfl kr ti_3 rfl rfl ?_
    refine w_p Tb_ok 1 kr ?_
    refine wi_end kr ?_
    refine qh_then ?_
    obtain ⟨u1, eu1, h5⟩ := bnd h4
    have hN2 := ckN_some eu1
    obtain ⟨⟨l8, l9⟩, el2, h6⟩ := bnd h5
    refine h_join (X := Value × Value) (fun g => [(0, (.pointer (some ⟨bp_n, 0, none⟩))), (5, .func (.func 95) #[(.pointer (some ⟨bp_n, 0, none⟩))] #[]), (6, (γ1 9 0)), (7, (th g.2)), (31, .int .i64 ((l1.length : Nat) : Int)), (32, .int .i64 ((k1 : Nat) : Int))]) (fun g => [blkP (.pointer (some ⟨bp_n, 0, none⟩)) 119 [.int .u64 p_n.zw.S.P, .int .i64 p_n.zw.S.N, .int .i64 p_n.zw.S.T, vp_n_1, vp_n_2, vp_n_3, .int .i64 p_n.zround, (th g.1), vp_n_5], rdV Kd.i64 vp_n_1 p_n.zw.Corrupt, rdV K_api_Deviation vp_n_2 p_n.zw.Deviations, rdV (Kd.sl Kd.u64) vp_n_3 p_n.zw.Tapes, treeV (rowK K_api_Event 67) 46 (th g.1) (tg g.1) l8, rdV Kd.any vp_n_5 p_n.ztapes, ownV (Kd.sl (Kd.sl Kd.u64)) 27 (γ1 9 0) r1, treeV (rowK (Kd.sl Kd.u64) 30) 27 (th g.2) (tg g.2) l9] ++ F) (fun _ => True) ?_ ?_
    ·
     refine wh_block ?_
     refine h_rs (fun (k2 : Nat) (st : (List (List T_api_Event)) × (List (List (List Nat)))) (g : Value × Value) => [(0, (.pointer (some ⟨bp_n, 0, none⟩))), (5, .func (.func 95) #[(.pointer (some ⟨bp_n, 0, none⟩))] #[]), (6, (γ1 9 0)), (7, (th g.2)), (8, .int .i64 ((k1 : Nat) : Int)), (31, .int .i64 ((l1.length : Nat) : Int)), (32, .int .i64 ((k1 : Nat) : Int)), (40, .int .i64 p_n.zw.S.N), (41, .int .i64 ((k2 : Nat) : Int))]) (fun (k2 : Nat) (st : (List (List T_api_Event)) × (List (List (List Nat)))) (g : Value × Value) => [blkP (.pointer (some ⟨bp_n, 0, none⟩)) 119 [.int .u64 p_n.zw.S.P, .int .i64 p_n.zw.S.N, .int .i64 p_n.zw.S.T, vp_n_1, vp_n_2, vp_n_3, .int .i64 p_n.zround, (th g.1), vp_n_5], rdV Kd.i64 vp_n_1 p_n.zw.Corrupt, rdV K_api_Deviation vp_n_2 p_n.zw.Deviations, rdV (Kd.sl Kd.u64) vp_n_3 p_n.zw.Tapes, treeV (rowK K_api_Event 67) 46 (th g.1) (tg g.1) st.1, rdV Kd.any vp_n_5 p_n.ztapes, ownV (Kd.sl (Kd.sl Kd.u64)) 27 (γ1 9 0) r1, treeV (rowK (Kd.sl Kd.u64) 30) 27 (th g.2) (tg g.2) st.2] ++ F) ((tw (th g1) (tg g1)), (tw (th g2) (tg g2))) el2 (Nat.le_max_left ..) aK (tH [(0, false), (0, true), (1, true), (2, true), (3, false), (3, true), (4, false), (4, false)] 4) ?_ ?_
     ·
      rintro ⟨g11, g12⟩ j
      refine wh_seq ?_
      refine wh_region ?_
      refine w_p Tb_ok 1 kr ?_
      refine wi_end kr ?_
      refine qh_then ?_
      refine wh_seq ?_
      refine h_cf (b := (decide ((((max 0 (p_n.zw.S.N).toNat) : Nat) : Int) < p_n.zw.S.N))) rgLF kr ?_
      refine wh_exit ?_
      refine qh_then_exit ?_
      refine q_rzX ?_
      refine qh_block_exit ?_
      exact q_join ((tw (th g11) (tg g11)), (tw (th g12) (tg g12))) trivial aK (tH [(0, false), (0, true), (1, true), (2, true), (3, false), (3, true), (4, false), (4, false)] 4)
     ·
      rintro rem k2 ⟨l6, l7⟩ ⟨g7, g8⟩ o2 hk2 h7 hn2 j
      have h7 : network_Net_Send_L1 p_n r1 k1 k2 l6 l7 = some o2 := h7
      unfold network_Net_Send_L1 at h7
      refine wh_seq ?_
      refine wh_region ?_
      refine w_p Tb_ok 1 kr ?_
      refine wi_end kr ?_
      refine qh_then ?_
      refine wh_seq ?_
      refine h_ct (b := (decide (((k2 : Nat) : Int) < p_n.zw.S.N))) (rgLT hk2) kr ?_
      refine wh_skip ?_
      refine qh_then ?_
      refine wh_seq ?_
      refine wh_block ?_
      refine wh_seq ?_
      refine wh_region ?_
      refine w_p Tb_ok 2 kr ?_
      refine wi_end kr ?_
      refine qh_then ?_
      refine wh_seq ?_
      refine wh_region ?_
      refine w_p Tb_ok 2 kr ?_
      obtain ⟨x3, ex3, h8⟩ := bnd h7
      refine w_ix (k := .i64) (own_hd 6 rfl) (nbd ex3) rfl kr ts_75 ti_27 ?_
      refine w_ldO 6 0 rfl ex3 kr ti_27 rfl rfl ?_
      rintro v2
      refine w_p Tb_ok 1 kr ?_
      obtain ⟨x4, ex4, h9⟩ := bnd h8
      refine w_ix (k := .i64) (rd_hd 0 rfl) (nbd ex4) rfl kr ts_27 ti_30 ?_
      refine w_ldR 0 0 rfl ex4 kr ti_30 rfl rfl ?_
      rintro v3
      obtain ⟨l10, el10, h10⟩ := bnd h9
      refine w_app0 (kd := Kd.u64) (rd_src 0 rfl) el10 kr ts_30 ti_22 rfl (fun v4 => ?_)
      refine w_p Tb_ok 1 kr ?_
      refine wi_end kr ?_
      refine qh_then ?_
      refine wh_seq ?_
      refine wh_region ?_
      refine w_p Tb_ok 4 kr ?_
      obtain ⟨x5, ex5, h11⟩ := bnd h10
      refine w_ix (k := .i64) (tree_hdI (inP 10 rfl)) (nbd ex5) rfl kr ts_75 ti_27 ?_
      refine w_ldN rs_row (inP 10 rfl) ex5 kr ti_27 (fun g13 => ?_)
      refine w_p Tb_ok 1 kr ?_
      refine WI.ent (frzAt 2 rfl) ?_
      refine w_lt (kd := (Kd.sl Kd.u64)) (t := 27) (len := 1) (ps0 := [(0, v4)]) (ps := [(0, .agg #[v4])]) ([l10] : List (List Nat)) _ (rowC (x := l10) (g := v4) (itS 0 rfl) row0) (scS (rd_hd 0 rfl) sc0) kr ts_27 ti_30 kr rfl rfl (fun v5 => ?_)
      refine WI.fact 2 rfl (fun hg1 => ?_)
      refine WI.ent (tr_out 13 rfl hg1 ex5) ?_
      obtain ⟨l11, el11, h12⟩ := bnd h11
      refine w_app 0 rfl (own_src 2 rfl) el11 kr ts_27 ti_30 rfl (fun v6 => ?_)
      refine w_ix (k := .i64) (hole_hdI (inP 1 rfl)) (nbd ex5) rfl kr ts_75 ti_27 ?_
      obtain ⟨l12, el12, h13⟩ := bnd h12
      refine w_stH (R := (rowK (Kd.sl Kd.u64) 30)) (g' := v6) (m := k1) 0 0 rfl rfl (nbd ex5) (sinj el12) rfl (cvS (own_hd 0 rfl)) (sl_one (own_hd 0 rfl)) kr ti_27 ?_
      refine wi_end kr ?_
      refine qh_then ?_
      refine wh_region ?_
      refine w_p Tb_ok 4 kr ?_
      obtain ⟨r4, er4, h14⟩ := bnd h13
      refine w_fn [(7, false), (7, true), (8, true), (9, true), (10, false), (10, true), (2, true)] (c_network_Net_note er4) rfl fok_95 kr ?_
      rintro _ _ ⟨w2, hv, rfl⟩; have hv := hv.symm; subst hv
      refine wi_end kr ?_
      refine qh_block_normal ?_
      refine qh_then ?_
      refine wh_region ?_
      refine w_bi (zinc hk2 hN2) kr ?_
      refine w_p Tb_ok 1 kr ?_
      refine wi_end kr ?_
      have h14 := Option.some.inj h14; subst h14
      exact q_rs ((tw (th w2) (tg w2)), (tw (th g8) ((tg g8).set k1 v6))) hn2 aK (tH [(0, false), (8, true), (9, true), (10, true), (0, false), (10, true), (11, false), (0, false)] 10)
    ·
     rintro ⟨g9, g10⟩ - j
     refine qh_block_normal ?_
     refine qh_then ?_
     refine wh_region ?_
     refine w_bi (zinc hk1 hN1) kr ?_
     refine w_p Tb_ok 1 kr ?_
     refine wi_end kr ?_
     have h6 := Option.some.inj h6; subst h6
     exact q_rs ((tw (th g9) (tg g9)), (tw (th g10) (tg g10))) hn1 aK (tH [(0, false), (0, true), (1, true), (2, true), (3, false), (3, true), (4, false), (4, false)] 4)
  ·
   rintro ⟨g3, g4⟩ - j
   refine qh_then ?_
   refine wh_seq ?_
   refine wh_region ?_
   refine w_p Tb_ok 3 kr ?_
   refine w_ldB 0 6 rfl kr ti_3 rfl rfl ?_
   obtain ⟨x6, ex6, h15⟩ := bnd h3
   refine w_bi (zaddI ex6) kr ?_
   refine w_p Tb_ok 2 kr ?_
   refine w_stB (v := .int .i64 x6) (off := 6) (cs := [.int .i64 x6]) 0 rfl (cv0 kr) kr ti_3 rfl rfl (oC (fun _ _ => rfl) oN) ?_
   refine WI.hd (y := blkP (.pointer (some ⟨bp_n, 0, none⟩)) 119 [.int .u64 p_n.zw.S.P, .int .i64 p_n.zw.S.N, .int .i64 p_n.zw.S.T, vp_n_1, vp_n_2, vp_n_3, .int .i64 x6, (th g3), vp_n_5]) kr ?_
   refine wi_end kr ?_
   refine qh_then ?_
   refine wh_seq ?_
   refine wh_region ?_
   refine w_p Tb_ok 2 kr ?_
   refine wi_end kr ?_
   refine qh_then ?_
   refine wh_ret ?_
   refine QH.ent (tr_own fz_row 6 rfl) ?_
   have h15 := Option.some.inj h15; subst h15
   exact q_end (l := [(th g4)]) [(0, false), (0, false), (3, false)] 4 ⟨(th g4), (tw (th g3) (tg g3)), rfl, rfl⟩ (.inl rfl) kr kr kr
theorem c_network_Resize {p_l : List Nat} {p_n : Int} {vp_l_1 : Value} {r : (List Nat)} (h : network_Resize p_l p_n = some r) : Ct Tryd.prog 67 [vp_l_1, .int .i64 p_n] [rdV Kd.u64 vp_l_1 p_l] (fun v L => ∃ w0 : Value, v = w0 ∧ L = [ownV Kd.u64 22 w0 r]) := by
 refine ct_intro Tryd.func67 rfl kr (fun F => ?_)
 unfold network_Resize at h
 refine wh_seq ?_
 refine wh_region ?_
 refine w_p Tb_ok 1 kr ?_
 refine wi_end kr ?_
 refine qh_then ?_
 refine wh_seq ?_
 refine wh_region ?_
 refine w_p Tb_ok 1 kr ?_
 obtain ⟨l1, el1, h1⟩ := bnd h
 refine w_mk (kd := Kd.u64) (kl := .i64) (kc := .i64) () el1 kr ts_30 ti_22 rfl kr (it0 rfl) (fun v1 => ?_)
 refine w_p Tb_ok 1 kr ?_
 refine wi_end kr ?_
 refine qh_then ?_
 refine wh_seq ?_
 refine wh_region ?_
 refine w_p Tb_ok 2 kr ?_
 refine w_cp (t2 := 30) 0 rfl (rd_src 1 rfl) kr rfl ts_30 ti_22 ?_
 refine wi_end kr ?_
 refine qh_then ?_
 refine wh_seq ?_
 refine wh_region ?_
 refine w_p Tb_ok 2 kr ?_
 refine wi_end kr ?_
 refine qh_then ?_
 refine wh_ret ?_
 have h1 := Option.some.inj h1; subst h1
 exact q_end (l := [v1]) [(0, false)] 1 ⟨v1, rfl, rfl⟩ (.inl rfl) kr kr kr
theorem c_reconstruct_said {p_n : T_network_Net} {p_lists : List (List Nat)} {p_m : Int} {bp_n : Nat} {vp_n_1 : Value} {vp_n_2 : Value} {vp_n_3 : Value} {vp_n_4 : Value} {vp_n_5 : Value} {vp_lists_1 : Value} {r : (List (List (List Nat))) × Int × (List (List T_api_Event))} (h : reconstruct_said p_n p_lists p_m = some r) : Ct Tryd.prog 72 [(.pointer (some ⟨bp_n, 0, none⟩)), vp_lists_1, .int .i64 p_m] [blkP (.pointer (some ⟨bp_n, 0, none⟩)) 119 [.int .u64 p_n.zw.S.P, .int .i64 p_n.zw.S.N, .int .i64 p_n.zw.S.T, vp_n_1, vp_n_2, vp_n_3, .int .i64 p_n.zround, (th vp_n_4), vp_n_5], rdV Kd.i64 vp_n_1 p_n.zw.Corrupt, rdV K_api_Deviation vp_n_2 p_n.zw.Deviations, rdV (Kd.sl Kd.u64) vp_n_3 p_n.zw.Tapes, treeV (rowK K_api_Event 67) 46 (th vp_n_4) (tg vp_n_4) p_n.zviews, rdV Kd.any vp_n_5 p_n.ztapes, rdV (Kd.sl Kd.u64) vp_lists_1 p_lists] (fun v L => ∃ w0 w2 : Value, v = w0 ∧ L = [ownV (Kd.sl (Kd.sl Kd.u64)) 27 w0 r.1, blkP (.pointer (some ⟨bp_n, 0, none⟩)) 119 [.int .u64 p_n.zw.S.P, .int .i64 p_n.zw.S.N, .int .i64 p_n.zw.S.T, vp_n_1, vp_n_2, vp_n_3, .int .i64 r.2.1, (th w2), vp_n_5], treeV (rowK K_api_Event 67) 46 (th w2) (tg w2) r.2.2]) := by
 refine ct_intro Tryd.func72 rfl kr (fun F => ?_)
 unfold reconstruct_said at h
 refine wh_seq ?_
 refine wh_region ?_
 refine w_p Tb_ok 1 kr ?_
 refine wi_end kr ?_
 refine qh_then ?_
 refine wh_seq ?_
 refine wh_region ?_
 refine w_p Tb_ok 1 kr ?_
 refine w_len (rd_hd 6 rfl) kr ts_27 ?_
 obtain ⟨l1, el1, h1⟩ := bnd h
 refine w_mkT (rowK (Kd.sl Kd.u64) 30) new_row (kl := .i64) (kc := .i64) el1 kr ts_75 ti_27 rfl (fun v1 => ?_)
 refine w_p Tb_ok 1 kr ?_
 refine wi_end kr ?_
 refine qh_then ?_
 refine wh_seq ?_
 refine wh_seq ?_
 refine wh_region ?_
 refine w_p Tb_ok 1 kr ?_
 refine w_len (rd_hd 7 rfl) kr ts_27 ?_
 refine w_p Tb_ok 1 kr ?_
 refine wi_end kr ?_
 refine qh_then ?_
 refine h_lenle (rd_lenle 7 rfl) (fun hN1 => ?_)
 obtain ⟨l3, el1, h2⟩ := bnd h1
 refine h_join (X := Value) (fun g => [(0, (.pointer (some ⟨bp_n, 0, none⟩))), (2, .int .i64 p_m), (7, (th g))]) (fun g => [blkP (.pointer (some ⟨bp_n, 0, none⟩)) 119 [.int .u64 p_n.zw.S.P, .int .i64 p_n.zw.S.N, .int .i64 p_n.zw.S.T, vp_n_1, vp_n_2, vp_n_3, .int .i64 p_n.zround, (th vp_n_4), vp_n_5], rdV Kd.i64 vp_n_1 p_n.zw.Corrupt, rdV K_api_Deviation vp_n_2 p_n.zw.Deviations, rdV (Kd.sl Kd.u64) vp_n_3 p_n.zw.Tapes, treeV (rowK K_api_Event 67) 46 (th vp_n_4) (tg vp_n_4) p_n.zviews, rdV Kd.any vp_n_5 p_n.ztapes, treeV (rowK (Kd.sl Kd.u64) 30) 27 (th g) (tg g) l3] ++ F) (fun _ => True) ?_ ?_
 ·
  refine wh_block ?_
  refine h_rs (fun (k1 : Nat) (st : (List (List (List Nat)))) (g : Value) => [(0, (.pointer (some ⟨bp_n, 0, none⟩))), (1, vp_lists_1), (2, .int .i64 p_m), (7, (th g)), (19, vp_lists_1), (20, .int .i64 ((p_lists.length : Nat) : Int)), (21, .int .i64 ((k1 : Nat) : Int))]) (fun (k1 : Nat) (st : (List (List (List Nat)))) (g : Value) => [blkP (.pointer (some ⟨bp_n, 0, none⟩)) 119 [.int .u64 p_n.zw.S.P, .int .i64 p_n.zw.S.N, .int .i64 p_n.zw.S.T, vp_n_1, vp_n_2, vp_n_3, .int .i64 p_n.zround, (th vp_n_4), vp_n_5], rdV Kd.i64 vp_n_1 p_n.zw.Corrupt, rdV K_api_Deviation vp_n_2 p_n.zw.Deviations, rdV (Kd.sl Kd.u64) vp_n_3 p_n.zw.Tapes, treeV (rowK K_api_Event 67) 46 (th vp_n_4) (tg vp_n_4) p_n.zviews, rdV Kd.any vp_n_5 p_n.ztapes, rdV (Kd.sl Kd.u64) vp_lists_1 p_lists, treeV (rowK (Kd.sl Kd.u64) 30) 27 (th g) (tg g) st] ++ F) (tw v1 (List.replicate ((p_lists.length : Nat) : Int).toNat (.slice none 0 0))) el1 (Nat.zero_le _) aK (tH [(1, false), (1, true), (2, true), (3, true), (4, false), (4, true), (5, true), (0, false)] 5) ?_ ?_
  ·
   rintro g3 j
   refine wh_seq ?_
   refine wh_region ?_
   refine w_p Tb_ok 1 kr ?_
   refine wi_end kr ?_
   refine qh_then ?_
   refine wh_seq ?_
   refine h_cf (b := (decide ((((p_lists.length) : Nat) : Int) < ((p_lists.length : Nat) : Int)))) rgF kr ?_
   refine wh_exit ?_
   refine qh_then_exit ?_
   refine q_rzX ?_
   refine qh_block_exit ?_
   exact q_join (tw (th g3) (tg g3)) trivial aK (tH [(0, false), (0, true), (1, true), (2, true), (3, false), (3, true), (5, false)] 5)
  ·
   rintro rem k1 l2 g1 o1 hk1 h3 hn1 j
   have h3 : reconstruct_said_L0 p_lists k1 l2 = some o1 := h3
   unfold reconstruct_said_L0 at h3
   refine wh_seq ?_
   refine wh_region ?_
   refine w_p Tb_ok 1 kr ?_
   refine wi_end kr ?_
   refine qh_then ?_
   refine wh_seq ?_
   refine h_ct (b := (decide (((k1 : Nat) : Int) < ((p_lists.length : Nat) : Int)))) (rgT hk1) kr ?_
   refine wh_skip ?_
   refine qh_then ?_
   refine wh_seq ?_
   refine wh_block ?_
   refine wh_seq ?_
   refine wh_region ?_
   refine w_p Tb_ok 1 kr ?_
   obtain ⟨x2, ex2, h4⟩ := bnd h3
   refine w_ix (k := .i64) (rd_hd 6 rfl) (nbd ex2) rfl kr ts_27 ti_30 ?_
   refine w_ldR 6 0 rfl ex2 kr ti_30 rfl rfl ?_
   rintro v2
   refine w_p Tb_ok 2 kr ?_
   refine wi_end kr ?_
   refine qh_then ?_
   refine wh_seq ?_
   refine wh_region ?_
   refine w_p Tb_ok 1 kr ?_
   refine w_len (rd_hd 7 rfl) kr ts_27 ?_
   refine w_p Tb_ok 1 kr ?_
   refine wi_end kr ?_
   refine qh_then ?_
   refine h_lenle (rd_lenle 7 rfl) (fun hN2 => ?_)
   obtain ⟨l5, el2, h5⟩ := bnd h4
   refine h_join (X := Value) (fun g => [(0, (.pointer (some ⟨bp_n, 0, none⟩))), (1, vp_lists_1), (2, .int .i64 p_m), (7, (th g)), (19, vp_lists_1), (20, .int .i64 ((p_lists.length : Nat) : Int)), (21, .int .i64 ((k1 : Nat) : Int))]) (fun g => [blkP (.pointer (some ⟨bp_n, 0, none⟩)) 119 [.int .u64 p_n.zw.S.P, .int .i64 p_n.zw.S.N, .int .i64 p_n.zw.S.T, vp_n_1, vp_n_2, vp_n_3, .int .i64 p_n.zround, (th vp_n_4), vp_n_5], rdV Kd.i64 vp_n_1 p_n.zw.Corrupt, rdV K_api_Deviation vp_n_2 p_n.zw.Deviations, rdV (Kd.sl Kd.u64) vp_n_3 p_n.zw.Tapes, treeV (rowK K_api_Event 67) 46 (th vp_n_4) (tg vp_n_4) p_n.zviews, rdV Kd.any vp_n_5 p_n.ztapes, rdV (Kd.sl Kd.u64) vp_lists_1 p_lists, treeV (rowK (Kd.sl Kd.u64) 30) 27 (th g) (tg g) l5] ++ F) (fun _ => True) ?_ ?_
   ·
    refine wh_block ?_
    refine h_rs (fun (k2 : Nat) (st : (List (List (List Nat)))) (g : Value) => [(0, (.pointer (some ⟨bp_n, 0, none⟩))), (1, vp_lists_1), (2, .int .i64 p_m), (7, (th g)), (8, .int .i64 ((k1 : Nat) : Int)), (9, v2), (19, vp_lists_1), (20, .int .i64 ((p_lists.length : Nat) : Int)), (21, .int .i64 ((k1 : Nat) : Int)), (27, .int .i64 ((p_lists.length : Nat) : Int)), (28, .int .i64 ((k2 : Nat) : Int))]) (fun (k2 : Nat) (st : (List (List (List Nat)))) (g : Value) => [blkP (.pointer (some ⟨bp_n, 0, none⟩)) 119 [.int .u64 p_n.zw.S.P, .int .i64 p_n.zw.S.N, .int .i64 p_n.zw.S.T, vp_n_1, vp_n_2, vp_n_3, .int .i64 p_n.zround, (th vp_n_4), vp_n_5], rdV Kd.i64 vp_n_1 p_n.zw.Corrupt, rdV K_api_Deviation vp_n_2 p_n.zw.Deviations, rdV (Kd.sl Kd.u64) vp_n_3 p_n.zw.Tapes, treeV (rowK K_api_Event 67) 46 (th vp_n_4) (tg vp_n_4) p_n.zviews, rdV Kd.any vp_n_5 p_n.ztapes, rdV (Kd.sl Kd.u64) vp_lists_1 p_lists, treeV (rowK (Kd.sl Kd.u64) 30) 27 (th g) (tg g) st, rdV Kd.u64 v2 x2] ++ F) (tw (th g1) (tg g1)) el2 (Nat.zero_le _) aK (tH [(1, false), (1, true), (2, true), (3, true), (4, false), (4, true), (5, true), (6, false), (0, true)] 6) ?_ ?_
    ·
     rintro g6 j
     refine wh_seq ?_
     refine wh_region ?_
     refine w_p Tb_ok 1 kr ?_
     refine wi_end kr ?_
     refine qh_then ?_
     refine wh_seq ?_
     refine h_cf (b := (decide ((((p_lists.length) : Nat) : Int) < ((p_lists.length : Nat) : Int)))) rgF kr ?_
     refine wh_exit ?_
     refine qh_then_exit ?_
     refine q_rzX ?_
     refine qh_block_exit ?_
     exact q_join (tw (th g6) (tg g6)) trivial aK (tH [(0, false), (0, true), (1, true), (2, true), (3, false), (3, true), (4, true), (5, false)] 6)
    ·
     rintro rem k2 l4 g4 o2 hk2 h6 hn2 j
     have h6 : reconstruct_said_L1 k1 x2 k2 l4 = some o2 := h6
     unfold reconstruct_said_L1 at h6
     refine wh_seq ?_
     refine wh_region ?_
     refine w_p Tb_ok 1 kr ?_
     refine wi_end kr ?_
     refine qh_then ?_
     refine wh_seq ?_
     refine h_ct (b := (decide (((k2 : Nat) : Int) < ((p_lists.length : Nat) : Int)))) (rgT hk2) kr ?_
     refine wh_skip ?_
     refine qh_then ?_
     refine wh_seq ?_
     refine wh_block ?_
     refine wh_region ?_
     refine w_p Tb_ok 4 kr ?_
     obtain ⟨x4, ex4, h7⟩ := bnd h6
     refine w_ix (k := .i64) (tree_hdI (inP 7 rfl)) (nbd ex4) rfl kr ts_75 ti_27 ?_
     refine w_ldN rs_row (inP 7 rfl) ex4 kr ti_27 (fun g7 => ?_)
     refine w_p Tb_ok 1 kr ?_
     refine w_lt (kd := (Kd.sl Kd.u64)) (t := 27) (len := 1) (ps0 := [(0, v2)]) (ps := [(0, .agg #[v2])]) ([x2] : List (List Nat)) _ (rowC (x := x2) (g := v2) (itS 10 rfl) row0) (scS (rd_hd 10 rfl) sc0) kr ts_27 ti_30 kr rfl rfl (fun v3 => ?_)
     refine WI.fact 1 rfl (fun hg1 => ?_)
     refine WI.ent (tr_out 10 rfl hg1 ex4) ?_
     obtain ⟨l6, el6, h8⟩ := bnd h7
     refine w_app 0 rfl (own_src 2 rfl) el6 kr ts_27 ti_30 rfl (fun v4 => ?_)
     refine w_ix (k := .i64) (hole_hdI (inP 1 rfl)) (nbd ex4) rfl kr ts_75 ti_27 ?_
     obtain ⟨l7, el7, h9⟩ := bnd h8
     refine w_stH (R := (rowK (Kd.sl Kd.u64) 30)) (g' := v4) (m := k1) 0 0 rfl rfl (nbd ex4) (sinj el7) rfl (cvS (own_hd 0 rfl)) (sl_one (own_hd 0 rfl)) kr ti_27 ?_
     refine wi_end kr ?_
     refine qh_block_normal ?_
     refine qh_then ?_
     refine wh_region ?_
     refine w_bi (zinc hk2 hN2) kr ?_
     refine w_p Tb_ok 1 kr ?_
     refine wi_end kr ?_
     have h9 := Option.some.inj h9; subst h9
     exact q_rs (tw (th g4) ((tg g4).set k1 v4)) hn2 aK (tH [(4, false), (4, true), (5, true), (6, true), (7, false), (7, true), (8, true), (0, false), (8, true)] 9)
   ·
    rintro g5 - j
    refine qh_block_normal ?_
    refine qh_then ?_
    refine wh_region ?_
    refine w_bi (zinc hk1 hN1) kr ?_
    refine w_p Tb_ok 1 kr ?_
    refine wi_end kr ?_
    have h5 := Option.some.inj h5; subst h5
    exact q_rs (tw (th g5) (tg g5)) hn1 aK (tH [(0, false), (0, true), (1, true), (2, true), (3, false), (3, true), (4, true), (5, false)] 5)
 ·
  rintro g2 - j
  refine qh_then ?_
  refine wh_seq ?_
  refine wh_region ?_
  refine w_p Tb_ok 2 kr ?_
  refine WI.ent (tr_frz fz_row 6 rfl) ?_
  obtain ⟨r3, er3, h10⟩ := bnd h2
  refine w_fn [(1, false), (1, true), (2, true), (3, true), (4, false), (4, true), (0, true)] (c_network_Net_Send er3) rfl fok_66 kr ?_
  rintro _ _ ⟨w1, w3, hv, rfl⟩; have hv := hv.symm; subst hv
  refine w_p Tb_ok 1 kr ?_
  refine wi_end kr ?_
  refine qh_then ?_
  refine wh_seq ?_
  refine wh_region ?_
  refine w_p Tb_ok 1 kr ?_
  refine w_len (own_hd 0 rfl) kr ts_75 ?_
  obtain ⟨l8, el8, h11⟩ := bnd h10
  refine w_mkT (treeK (rowK Kd.u64 22) 30) new_tree (kl := .i64) (kc := .i64) el8 kr ts_75 ti_27 rfl (fun v5 => ?_)
  refine w_p Tb_ok 1 kr ?_
  refine wi_end kr ?_
  refine qh_then ?_
  refine wh_seq ?_
  refine wh_seq ?_
  refine wh_region ?_
  refine w_p Tb_ok 1 kr ?_
  refine w_len (own_hd 1 rfl) kr ts_75 ?_
  refine w_p Tb_ok 1 kr ?_
  refine wi_end kr ?_
  refine qh_then ?_
  refine h_lenle (own_lenle 1 rfl) (fun hN3 => ?_)
  obtain ⟨l10, el3, h12⟩ := bnd h11
  refine h_join (X := Value) (fun g => [(11, (th g))]) (fun g => [treeV (treeK (rowK Kd.u64 22) 30) 27 (th g) (tg g) l10, blkP (.pointer (some ⟨bp_n, 0, none⟩)) 119 [.int .u64 p_n.zw.S.P, .int .i64 p_n.zw.S.N, .int .i64 p_n.zw.S.T, vp_n_1, vp_n_2, vp_n_3, .int .i64 r3.2.1, (th w3), vp_n_5], rdV Kd.i64 vp_n_1 p_n.zw.Corrupt, rdV K_api_Deviation vp_n_2 p_n.zw.Deviations, rdV (Kd.sl Kd.u64) vp_n_3 p_n.zw.Tapes, treeV (rowK K_api_Event 67) 46 (th w3) (tg w3) r3.2.2, rdV Kd.any vp_n_5 p_n.ztapes] ++ F) (fun _ => True) ?_ ?_
  ·
   refine wh_block ?_
   refine h_rs (fun (k3 : Nat) (st : (List (List (List Nat)))) (g : Value) => [(2, .int .i64 p_m), (10, w1), (11, (th g)), (49, .int .i64 ((r3.1.length : Nat) : Int)), (50, .int .i64 ((k3 : Nat) : Int))]) (fun (k3 : Nat) (st : (List (List (List Nat)))) (g : Value) => [ownV (Kd.sl (Kd.sl Kd.u64)) 27 w1 r3.1, treeV (treeK (rowK Kd.u64 22) 30) 27 (th g) (tg g) st, blkP (.pointer (some ⟨bp_n, 0, none⟩)) 119 [.int .u64 p_n.zw.S.P, .int .i64 p_n.zw.S.N, .int .i64 p_n.zw.S.T, vp_n_1, vp_n_2, vp_n_3, .int .i64 r3.2.1, (th w3), vp_n_5], rdV Kd.i64 vp_n_1 p_n.zw.Corrupt, rdV K_api_Deviation vp_n_2 p_n.zw.Deviations, rdV (Kd.sl Kd.u64) vp_n_3 p_n.zw.Tapes, treeV (rowK K_api_Event 67) 46 (th w3) (tg w3) r3.2.2, rdV Kd.any vp_n_5 p_n.ztapes] ++ F) (tw v5 (List.replicate ((r3.1.length : Nat) : Int).toNat (tw (.slice none 0 0) []))) el3 (Nat.zero_le _) aK (tH [(1, false), (0, false), (0, false), (2, true), (3, true), (4, true), (0, false), (4, true)] 5) ?_ ?_
   ·
    rintro g10 j
    refine wh_seq ?_
    refine wh_region ?_
    refine w_p Tb_ok 1 kr ?_
    refine wi_end kr ?_
    refine qh_then ?_
    refine wh_seq ?_
    refine h_cf (b := (decide ((((r3.1.length) : Nat) : Int) < ((r3.1.length : Nat) : Int)))) rgF kr ?_
    refine wh_exit ?_
    refine qh_then_exit ?_
    refine q_rzX ?_
    refine qh_block_exit ?_
    exact q_join (tw (th g10) (tg g10)) trivial aK (tH [(1, false), (1, false), (1, true), (2, true), (3, true), (4, false), (4, true)] 5)
   ·
    rintro rem k3 l9 g8 o3 hk3 h13 hn3 j
    have h13 : reconstruct_said_L2 p_m r3 k3 l9 = some o3 := h13
    unfold reconstruct_said_L2 at h13
    refine wh_seq ?_
    refine wh_region ?_
    refine w_p Tb_ok 1 kr ?_
    refine wi_end kr ?_
    refine qh_then ?_
    refine wh_seq ?_
    refine h_ct (b := (decide (((k3 : Nat) : Int) < ((r3.1.length : Nat) : Int)))) (rgT hk3) kr ?_
    refine wh_skip ?_
    refine qh_then ?_
    refine wh_seq ?_
    refine wh_block ?_
    refine wh_seq ?_
    refine wh_region ?_
    refine w_p Tb_ok 2 kr ?_
    refine wi_end kr ?_
    refine qh_then ?_
    refine wh_seq ?_
    refine wh_region ?_
    refine w_p Tb_ok 3 kr ?_
    obtain ⟨l11, el11, h14⟩ := bnd h13
    refine w_mkT (rowK Kd.u64 22) new_row (kl := .i64) (kc := .i64) el11 kr ts_27 ti_30 rfl (fun v6 => ?_)
    obtain ⟨x6, ex6, h15⟩ := bnd h14
    refine w_ix (k := .i64) (tree_hdI (inP 2 rfl)) (nbd ex6) rfl kr ts_75 ti_27 ?_
    refine WI.row rs_tree (inP 2 rfl) ex6 (fun g11 hg2 => ?_)
    refine WI.fact 0 rfl (fun hg3 => ?_)
    refine WI.ent (tr_out 4 rfl hg3 ex6) ?_
    obtain ⟨l12, el12, h16⟩ := bnd h15
    refine w_stH (R := (treeK (rowK Kd.u64 22) 30)) (g' := (tw v6 (List.replicate p_m.toNat (.slice none 0 0)))) (m := k3) 4 1 rfl rfl (nbd ex6) (sinj el12) rfl (cvS (tree_hdI (inP 4 rfl))) (sl_one (tree_hdI (inP 4 rfl))) kr ti_27 ?_
    refine wi_end kr ?_
    refine qh_then ?_
    refine wh_seq ?_
    refine wh_region ?_
    refine w_p Tb_ok 2 kr ?_
    obtain ⟨x7, ex7, h17⟩ := bnd h16
    refine w_ix (k := .i64) (own_hd 4 rfl) (nbd ex7) rfl kr ts_75 ti_27 ?_
    refine w_ldO 4 0 rfl ex7 kr ti_27 rfl rfl ?_
    rintro v7
    refine w_len (rd_hd 0 rfl) kr ts_27 ?_
    refine w_p Tb_ok 1 kr ?_
    refine wi_end kr ?_
    refine qh_then ?_
    refine h_lenle (rd_lenle 0 rfl) (fun hN4 => ?_)
    obtain ⟨l14, el4, h18⟩ := bnd h17
    refine h_join (X := Value) (fun g => [(2, .int .i64 p_m), (10, w1), (11, (th g)), (49, .int .i64 ((r3.1.length : Nat) : Int)), (50, .int .i64 ((k3 : Nat) : Int))]) (fun g => [ownV (Kd.sl (Kd.sl Kd.u64)) 27 w1 r3.1, treeV (treeK (rowK Kd.u64 22) 30) 27 (th g) (tg g) l14, blkP (.pointer (some ⟨bp_n, 0, none⟩)) 119 [.int .u64 p_n.zw.S.P, .int .i64 p_n.zw.S.N, .int .i64 p_n.zw.S.T, vp_n_1, vp_n_2, vp_n_3, .int .i64 r3.2.1, (th w3), vp_n_5], rdV Kd.i64 vp_n_1 p_n.zw.Corrupt, rdV K_api_Deviation vp_n_2 p_n.zw.Deviations, rdV (Kd.sl Kd.u64) vp_n_3 p_n.zw.Tapes, treeV (rowK K_api_Event 67) 46 (th w3) (tg w3) r3.2.2, rdV Kd.any vp_n_5 p_n.ztapes] ++ F) (fun _ => True) ?_ ?_
    ·
     refine wh_block ?_
     refine h_rs (fun (k4 : Nat) (st : (List (List (List Nat)))) (g : Value) => [(2, .int .i64 p_m), (10, w1), (11, (th g)), (12, .int .i64 ((k3 : Nat) : Int)), (49, .int .i64 ((r3.1.length : Nat) : Int)), (50, .int .i64 ((k3 : Nat) : Int)), (62, .int .i64 ((x7.length : Nat) : Int)), (63, .int .i64 ((k4 : Nat) : Int))]) (fun (k4 : Nat) (st : (List (List (List Nat)))) (g : Value) => [ownV (Kd.sl (Kd.sl Kd.u64)) 27 w1 r3.1, treeV (treeK (rowK Kd.u64 22) 30) 27 (th g) (tg g) st, blkP (.pointer (some ⟨bp_n, 0, none⟩)) 119 [.int .u64 p_n.zw.S.P, .int .i64 p_n.zw.S.N, .int .i64 p_n.zw.S.T, vp_n_1, vp_n_2, vp_n_3, .int .i64 r3.2.1, (th w3), vp_n_5], rdV Kd.i64 vp_n_1 p_n.zw.Corrupt, rdV K_api_Deviation vp_n_2 p_n.zw.Deviations, rdV (Kd.sl Kd.u64) vp_n_3 p_n.zw.Tapes, treeV (rowK K_api_Event 67) 46 (th w3) (tg w3) r3.2.2, rdV Kd.any vp_n_5 p_n.ztapes] ++ F) (tw (th g8) ((tg g8).set k3 (tw v6 (List.replicate p_m.toNat (.slice none 0 0))))) el4 (Nat.zero_le _) aK (tH [(5, false), (1, false), (4, false), (4, true), (5, true), (6, true), (7, false), (7, true)] 8) ?_ ?_
     ·
      rintro g14 j
      refine wh_seq ?_
      refine wh_region ?_
      refine w_p Tb_ok 1 kr ?_
      refine wi_end kr ?_
      refine qh_then ?_
      refine wh_seq ?_
      refine h_cf (b := (decide ((((x7.length) : Nat) : Int) < ((x7.length : Nat) : Int)))) rgF kr ?_
      refine wh_exit ?_
      refine qh_then_exit ?_
      refine q_rzX ?_
      refine qh_block_exit ?_
      exact q_join (tw (th g14) (tg g14)) trivial aK (tH [(0, false), (0, false), (0, false), (0, true), (1, true), (2, true), (3, false), (3, true)] 4)
     ·
      rintro rem k4 l13 g12 o4 hk4 h19 hn4 j
      have h19 : reconstruct_said_L3 p_m k3 x7 k4 l13 = some o4 := h19
      unfold reconstruct_said_L3 at h19
      refine wh_seq ?_
      refine wh_region ?_
      refine w_p Tb_ok 1 kr ?_
      refine wi_end kr ?_
      refine qh_then ?_
      refine wh_seq ?_
      refine h_ct (b := (decide (((k4 : Nat) : Int) < ((x7.length : Nat) : Int)))) (rgT hk4) kr ?_
      refine wh_skip ?_
      refine qh_then ?_
      refine wh_seq ?_
      refine wh_block ?_
      refine wh_seq ?_
      refine wh_region ?_
      refine w_p Tb_ok 2 kr ?_
      refine wi_end kr ?_
      refine qh_then ?_
      refine wh_seq ?_
      refine wh_region ?_
      refine w_p Tb_ok 2 kr ?_
      refine w_ix (k := .i64) (own_hd 0 rfl) (nbd ex7) rfl kr ts_75 ti_27 ?_
      refine w_ldO 0 0 rfl ex7 kr ti_27 rfl rfl ?_
      rintro v8
      refine w_p Tb_ok 1 kr ?_
      obtain ⟨x9, ex9, h20⟩ := bnd h19
      refine w_ix (k := .i64) (rd_hd 0 rfl) (nbd ex9) rfl kr ts_27 ti_30 ?_
      refine w_ldR 0 0 rfl ex9 kr ti_30 rfl rfl ?_
      rintro v9
      refine w_p Tb_ok 1 kr ?_
      obtain ⟨r6, er6, h21⟩ := bnd h20
      refine w_fn [(0, true)] (c_network_Resize er6) rfl fok_67 kr ?_
      rintro _ _ ⟨w4, hv, rfl⟩; have hv := hv.symm; subst hv
      refine w_len (own_hd 0 rfl) kr ts_30 ?_
      refine w_p Tb_ok 1 kr ?_
      refine wi_end kr ?_
      refine qh_then ?_
      refine h_lenle (own_lenle 0 rfl) (fun hN5 => ?_)
      obtain ⟨l16, el5, h22⟩ := bnd h21
      refine h_join (X := Value) (fun g => [(2, .int .i64 p_m), (10, w1), (11, (th g)), (12, .int .i64 ((k3 : Nat) : Int)), (49, .int .i64 ((r3.1.length : Nat) : Int)), (50, .int .i64 ((k3 : Nat) : Int)), (62, .int .i64 ((x7.length : Nat) : Int)), (63, .int .i64 ((k4 : Nat) : Int))]) (fun g => [ownV (Kd.sl (Kd.sl Kd.u64)) 27 w1 r3.1, treeV (treeK (rowK Kd.u64 22) 30) 27 (th g) (tg g) l16, blkP (.pointer (some ⟨bp_n, 0, none⟩)) 119 [.int .u64 p_n.zw.S.P, .int .i64 p_n.zw.S.N, .int .i64 p_n.zw.S.T, vp_n_1, vp_n_2, vp_n_3, .int .i64 r3.2.1, (th w3), vp_n_5], rdV Kd.i64 vp_n_1 p_n.zw.Corrupt, rdV K_api_Deviation vp_n_2 p_n.zw.Deviations, rdV (Kd.sl Kd.u64) vp_n_3 p_n.zw.Tapes, treeV (rowK K_api_Event 67) 46 (th w3) (tg w3) r3.2.2, rdV Kd.any vp_n_5 p_n.ztapes] ++ F) (fun _ => True) ?_ ?_
      ·
       refine wh_block ?_
       refine h_rs (fun (k5 : Nat) (st : (List (List (List Nat)))) (g : Value) => [(2, .int .i64 p_m), (10, w1), (11, (th g)), (12, .int .i64 ((k3 : Nat) : Int)), (49, .int .i64 ((r3.1.length : Nat) : Int)), (50, .int .i64 ((k3 : Nat) : Int)), (62, .int .i64 ((x7.length : Nat) : Int)), (63, .int .i64 ((k4 : Nat) : Int)), (74, w4), (75, .int .i64 ((r6.length : Nat) : Int)), (76, .int .i64 ((k5 : Nat) : Int))]) (fun (k5 : Nat) (st : (List (List (List Nat)))) (g : Value) => [ownV (Kd.sl (Kd.sl Kd.u64)) 27 w1 r3.1, treeV (treeK (rowK Kd.u64 22) 30) 27 (th g) (tg g) st, ownV Kd.u64 22 w4 r6, blkP (.pointer (some ⟨bp_n, 0, none⟩)) 119 [.int .u64 p_n.zw.S.P, .int .i64 p_n.zw.S.N, .int .i64 p_n.zw.S.T, vp_n_1, vp_n_2, vp_n_3, .int .i64 r3.2.1, (th w3), vp_n_5], rdV Kd.i64 vp_n_1 p_n.zw.Corrupt, rdV K_api_Deviation vp_n_2 p_n.zw.Deviations, rdV (Kd.sl Kd.u64) vp_n_3 p_n.zw.Tapes, treeV (rowK K_api_Event 67) 46 (th w3) (tg w3) r3.2.2, rdV Kd.any vp_n_5 p_n.ztapes] ++ F) (tw (th g12) (tg g12)) el5 (Nat.zero_le _) aK (tH [(3, false), (3, false), (0, false), (2, false), (2, true), (3, true), (4, true), (5, false), (5, true)] 6) ?_ ?_
       ·
        rintro g17 j
        refine wh_seq ?_
        refine wh_region ?_
        refine w_p Tb_ok 1 kr ?_
        refine wi_end kr ?_
        refine qh_then ?_
        refine wh_seq ?_
        refine h_cf (b := (decide ((((r6.length) : Nat) : Int) < ((r6.length : Nat) : Int)))) rgF kr ?_
        refine wh_exit ?_
        refine qh_then_exit ?_
        refine q_rzX ?_
        refine qh_block_exit ?_
        exact q_join (tw (th g17) (tg g17)) trivial aK (tH [(0, false), (0, false), (1, false), (1, true), (2, true), (3, true), (4, false), (4, true)] 5)
       ·
        rintro rem k5 l15 g15 o5 hk5 h23 hn5 j
        have h23 : reconstruct_said_L4 k3 r6 k5 l15 = some o5 := h23
        unfold reconstruct_said_L4 at h23
        refine wh_seq ?_
        refine wh_region ?_
        refine w_p Tb_ok 1 kr ?_
        refine wi_end kr ?_
        refine qh_then ?_
        refine wh_seq ?_
        refine h_ct (b := (decide (((k5 : Nat) : Int) < ((r6.length : Nat) : Int)))) (rgT hk5) kr ?_
        refine wh_skip ?_
        refine qh_then ?_
        refine wh_seq ?_
        refine wh_block ?_
        refine wh_seq ?_
        refine wh_region ?_
        refine w_p Tb_ok 1 kr ?_
        obtain ⟨x11, ex11, h24⟩ := bnd h23
        refine w_ix (k := .i64) (own_hd 2 rfl) (nbd ex11) rfl kr ts_30 ti_22 ?_
        refine w_ldO 2 0 rfl ex11 kr ti_22 rfl rfl ?_
        rintro _
        refine w_p Tb_ok 2 kr ?_
        refine wi_end kr ?_
        refine qh_then ?_
        obtain ⟨x12, ex12, h25⟩ := bnd h24
        obtain ⟨x13, ex13, h26⟩ := bnd h25
        refine WH.ent (hd_add (tree_hdI (inP 1 rfl))) ?_
        refine WH.ent (hd_add (tree_hdI (inP 8 rfl))) ?_
        refine WH.row rs_tree (inP 3 rfl) ex12 (fun g18 hg4 => ?_)
        refine WH.fact 0 rfl (fun hg5 => ?_)
        refine WH.ent (tr_out 5 rfl hg5 ex12) ?_
        refine WH.row rs_row (inP 0 rfl) ex13 (fun g19 hg6 => ?_)
        refine WH.fact 0 rfl (fun hg7 => ?_)
        refine WH.ent (tr_out 2 rfl hg7 ex13) ?_
        obtain ⟨l17, el17, h27⟩ := bnd h26
        obtain ⟨l18, el18, h28⟩ := bnd h27
        obtain ⟨l19, el19, h29⟩ := bnd h28
        refine h_flow [0, 0, 3, 7, 0, 0, 0, 96, 224, 0, 992, 2016, 0, 4096, 16352, 32767, 65535] ⟨17, [0, 0, 0, 0, 0, 0, 0, 0, 0, 0, 0, 0, 0, 1, 1, 0, 1], [(14, [(0, 0)]), (16, [(15, 0), (0, 1), (0, 4)])], [(3, [(0, 4)]), (8, [(0, 4)]), (11, [(0, 1), (0, 4)]), (14, [(14, 0), (0, 1), (0, 4)])], [(2, [(0, 8)]), (3, [(0, 5)]), (7, [(0, 8)]), (8, [(0, 5)]), (10, [(0, 6)]), (11, [(0, 2)]), (15, [(0, 6)]), (16, [(0, 5)])]⟩ (fun γ => [(th g15), .int .i64 ((k3 : Nat) : Int), .pointer (some (elV (th g15) (k3 * 1))), (th g18), .int .i64 ((k5 : Nat) : Int), (th g15), .int .i64 ((k3 : Nat) : Int), .pointer (some (elV (th g15) (k3 * 1))), (th g18), .int .i64 ((k5 : Nat) : Int), .pointer (some (elV (th g18) (k5 * 1))), g19, .int .u64 x11, (γ 13 0), (γ 14 0), .pointer (some (elV (th g18) (k5 * 1))), undef]) (fun i γ => match i with | 13 => [ownV Kd.u64 22 (γ 13 0) ([x11] : List Nat)] | 14 => [ownV Kd.u64 22 (γ 14 0) l17] | 16 => [treeV (treeK (rowK Kd.u64 22) 30) 27 (th g15) ((tg g15).set k3 (tw (th g18) ((tg g18).set k5 (γ 14 0)))) l19] | _ => []) (fun γ => [fact ((tg g18)[k5]? = some g19), hdP g19 x13.length, fact ((tg g15)[k3]? = some g18), hdP (th g18) x12.length, hdP (th w3) r3.2.2.length, hdP (th g15) l15.length, ownV (Kd.sl (Kd.sl Kd.u64)) 27 w1 r3.1, ownV Kd.u64 22 w4 r6, blkP (.pointer (some ⟨bp_n, 0, none⟩)) 119 [.int .u64 p_n.zw.S.P, .int .i64 p_n.zw.S.N, .int .i64 p_n.zw.S.T, vp_n_1, vp_n_2, vp_n_3, .int .i64 r3.2.1, (th w3), vp_n_5], rdV Kd.i64 vp_n_1 p_n.zw.Corrupt, rdV K_api_Deviation vp_n_2 p_n.zw.Deviations, rdV (Kd.sl Kd.u64) vp_n_3 p_n.zw.Tapes, treeV (rowK K_api_Event 67) 46 (th w3) (tg w3) r3.2.2, rdV Kd.any vp_n_5 p_n.ztapes, ownV Kd.u64 22 (γ 13 0) ([x11] : List Nat), treeV (treeK (rowK Kd.u64 22) 30) 27 (th g15) ((tg g15).set k3 (tw (th g18) ((tg g18).set k5 (γ 14 0)))) l19] ++ F) [0, 1, 4, 5, 6, 9, 12] tryd_mix Tb_ok kr kr (fun _ => by kernel_rfl) (fun _ => by kernel_rfl) (fun _ => by kernel_rfl) (fun _ => by kernel_rfl) (fun _ => by kernel_rfl) (fun _ => by kernel_rfl) (fun _ => by kernel_rfl) ?_ ?_
        ·
         refine ⟨?_, ?_, ?_, ?_, ?_, ?_, ?_, ?_, ?_, ?_, trivial⟩
         ·
          intro γ F
          refine WI.reH (H' := [hdP (th g15) l15.length] ++ F) kr ?_
          refine w_ix (k := .i64) (hdI 0 rfl) (nbd ex12) rfl kr ts_75 ti_27 ?_
          exact wE (gl []) [] 1
         ·
          intro γ F
          refine WI.reH (H' := [holeV (treeK (rowK Kd.u64 22) 30) 27 (th g15) (tg g15) l15 k3, fact ((tg g15)[k3]? = some g18)] ++ F) kr ?_
          refine WI.fact 1 rfl (fun hg8 => ?_)
          refine w_ldG (m := k3) (hOut (inP 0 rfl)) hg8 kr ti_27 ?_
          exact wE (gl []) [(0, false)] 1
         ·
          intro γ F
          refine WI.reH (H' := [hdP (th g15) l15.length] ++ F) kr ?_
          refine w_ix (k := .i64) (hdI 0 rfl) (nbd ex12) rfl kr ts_75 ti_27 ?_
          exact wE (gl []) [] 1
         ·
          intro γ F
          refine WI.reH (H' := [holeV (treeK (rowK Kd.u64 22) 30) 27 (th g15) (tg g15) l15 k3, fact ((tg g15)[k3]? = some g18)] ++ F) kr ?_
          refine WI.fact 1 rfl (fun hg9 => ?_)
          refine w_ldG (m := k3) (hOut (inP 0 rfl)) hg9 kr ti_27 ?_
          exact wE (gl []) [(0, false)] 1
         ·
          intro γ F
          refine WI.reH (H' := [hdP (th g18) x12.length] ++ F) kr ?_
          refine w_ix (k := .i64) (hdI 0 rfl) (nbd ex13) rfl kr ts_27 ti_30 ?_
          exact wE (gl []) [] 1
         ·
          intro γ F
          refine WI.reH (H' := [holeV (rowK Kd.u64 22) 30 (th g18) (tg g18) x12 k5, holeV (treeK (rowK Kd.u64 22) 30) 27 (th g15) (tg g15) l15 k3, fact ((tg g18)[k5]? = some g19)] ++ F) kr ?_
          refine WI.fact 2 rfl (fun hg10 => ?_)
          refine w_ldG (m := k5) (hOut (inP 0 rfl)) hg10 kr ti_30 ?_
          exact wE (gl []) [(0, false), (0, false)] 1
         ·
          intro γ F
          refine WI.reH (H' := [] ++ F) kr ?_
          refine w_lt (kd := Kd.u64) (t := 30) (len := 1) (ps0 := [(0, .int .u64 x11)]) (ps := [(0, .int .u64 x11)]) ([x11] : List Nat) _ (rowC (x := x11) (g := ()) (it0 rfl) row0) (scI sc0) kr ts_30 ti_22 kr rfl rfl (fun v10 => ?_)
          exact wE (gl [v10]) [(0, false)] 0
         ·
          intro γ F
          refine WI.reH (H' := [ownV Kd.u64 22 g19 x13, ownV Kd.u64 22 (γ 13 0) ([x11] : List Nat), holeV (rowK Kd.u64 22) 30 (th g18) (tg g18) x12 k5, holeV (treeK (rowK Kd.u64 22) 30) 27 (th g15) (tg g15) l15 k3] ++ F) kr ?_
          refine w_app 0 rfl (own_src 1 rfl) el17 kr ts_30 ti_22 rfl (fun v11 => ?_)
          exact wE (gl [v11]) [(0, false), (0, false), (0, false), (0, false)] 0
         ·
          intro γ F
          refine WI.reH (H' := [hdP (th g18) x12.length] ++ F) kr ?_
          refine w_ix (k := .i64) (hdI 0 rfl) (nbd ex13) rfl kr ts_27 ti_30 ?_
          exact wE (gl []) [] 1
         ·
          intro γ F
          refine WI.reH (H' := [ownV Kd.u64 22 (γ 14 0) l17, holeV (rowK Kd.u64 22) 30 (th g18) (tg g18) x12 k5, holeV (treeK (rowK Kd.u64 22) 30) 27 (th g15) (tg g15) l15 k3, fact ((tg g15)[k3]? = some g18)] ++ F) kr ?_
          refine w_stH (R := (rowK Kd.u64 22)) (g' := (γ 14 0)) (m := k5) 0 0 rfl rfl (nbd ex13) (sinj el18) rfl (cvS (own_hd 0 rfl)) (sl_one (own_hd 0 rfl)) kr ti_30 ?_
          refine WI.fact 2 rfl (fun hg11 => ?_)
          refine WI.ent (tr_in (R := (treeK (rowK Kd.u64 22) 30)) (g' := (tw (th g18) ((tg g18).set k5 (γ 14 0)))) (m := k3) 0 0 rfl rfl hg11 rfl (sinj el19)) ?_
          exact wE (gl []) [(0, false)] 1
        ·
         intro γ1
         refine qh_block_normal ?_
         refine qh_then ?_
         refine wh_region ?_
         refine w_bi (zinc hk5 hN5) kr ?_
         refine w_p Tb_ok 1 kr ?_
         refine wi_end kr ?_
         have h29 := Option.some.inj h29; subst h29
         exact q_rs (tw (th g15) ((tg g15).set k3 (tw (th g18) ((tg g18).set k5 (γ1 14 0))))) hn5 aK (tH [(6, false), (14, false), (6, false), (6, false), (6, true), (7, true), (8, true), (9, false), (9, true)] 11)
      ·
       rintro g16 - j
       refine qh_block_normal ?_
       refine qh_then ?_
       refine wh_region ?_
       refine w_bi (zinc hk4 hN4) kr ?_
       refine w_p Tb_ok 1 kr ?_
       refine wi_end kr ?_
       have h22 := Option.some.inj h22; subst h22
       exact q_rs (tw (th g16) (tg g16)) hn4 aK (tH [(0, false), (0, false), (0, false), (0, true), (1, true), (2, true), (3, false), (3, true)] 4)
    ·
     rintro g13 - j
     refine qh_block_normal ?_
     refine qh_then ?_
     refine wh_region ?_
     refine w_bi (zinc hk3 hN3) kr ?_
     refine w_p Tb_ok 1 kr ?_
     refine wi_end kr ?_
     have h18 := Option.some.inj h18; subst h18
     exact q_rs (tw (th g13) (tg g13)) hn3 aK (tH [(0, false), (0, false), (0, false), (0, true), (1, true), (2, true), (3, false), (3, true)] 4)
  ·
   rintro g9 - j
   refine qh_then ?_
   refine wh_seq ?_
   refine wh_region ?_
   refine w_p Tb_ok 2 kr ?_
   refine wi_end kr ?_
   refine qh_then ?_
   refine wh_ret ?_
   refine QH.ent (tr_own (fz_tree fz_row) 0 rfl) ?_
   have h12 := Option.some.inj h12; subst h12
   exact q_end (l := [(th g9)]) [(0, false), (0, false), (3, false)] 4 ⟨(th g9), (tw (th w3) (tg w3)), rfl, rfl⟩ (.inl rfl) kr kr kr
theorem c_reconstruct_points {p_words : List Nat} {vp_words_1 : Value} {r : (List T_api_Point)} (h : reconstruct_points p_words = some r) : Ct Tryd.prog 73 [vp_words_1] [rdV Kd.u64 vp_words_1 p_words] (fun v L => ∃ w0 : Value, v = w0 ∧ L = [ownV K_api_Point 113 w0 r]) := by
 refine ct_intro Tryd.func73 rfl kr (fun F => ?_)
 unfold reconstruct_points at h
 refine wh_seq ?_
 refine wh_region ?_
 refine w_p Tb_ok 1 kr ?_
 refine wi_end kr ?_
 refine qh_then ?_
 refine wh_seq ?_
 refine wh_region ?_
 refine w_p Tb_ok 1 kr ?_
 refine wi_end kr ?_
 refine qh_then ?_
 refine wh_seq ?_
 refine wh_seq ?_
 refine wh_region ?_
 refine w_p Tb_ok 1 kr ?_
 refine w_len (rd_hd 0 rfl) kr ts_30 ?_
 refine w_p Tb_ok 1 kr ?_
 refine wi_end kr ?_
 refine qh_then ?_
 refine WH.ent (ownNil (kd := K_api_Point) (e := 113)) ?_
 refine h_lenle (rd_lenle 1 rfl) (fun hN1 => ?_)
 obtain ⟨l2, el1, h1⟩ := bnd h
 refine h_join (X := Value) (fun g => [(3, g)]) (fun g => [ownV K_api_Point 113 g l2] ++ F) (fun _ => True) ?_ ?_
 ·
  refine wh_block ?_
  refine h_rs (fun (k1 : Nat) (st : (List T_api_Point)) (g : Value) => [(3, g), (6, vp_words_1), (7, .int .i64 ((p_words.length : Nat) : Int)), (8, .int .i64 ((k1 : Nat) : Int))]) (fun (k1 : Nat) (st : (List T_api_Point)) (g : Value) => [ownV K_api_Point 113 g st, rdV Kd.u64 vp_words_1 p_words] ++ F) (.slice none 0 0) el1 (Nat.zero_le _) aK (tH [(0, false), (0, true)] 1) ?_ ?_
  ·
   rintro g3 j
   refine wh_seq ?_
   refine wh_region ?_
   refine w_p Tb_ok 1 kr ?_
   refine wi_end kr ?_
   refine qh_then ?_
   refine wh_seq ?_
   refine h_cf (b := (decide ((((p_words.length) : Nat) : Int) < ((p_words.length : Nat) : Int)))) rgF kr ?_
   refine wh_exit ?_
   refine qh_then_exit ?_
   refine q_rzX ?_
   refine qh_block_exit ?_
   exact q_join g3 trivial aK (tH [(0, false)] 1)
  ·
   rintro rem k1 l1 g1 o1 hk1 h2 hn1 j
   have h2 : reconstruct_points_L0 p_words k1 l1 = some o1 := h2
   unfold reconstruct_points_L0 at h2
   refine wh_seq ?_
   refine wh_region ?_
   refine w_p Tb_ok 1 kr ?_
   refine wi_end kr ?_
   refine qh_then ?_
   refine wh_seq ?_
   refine h_ct (b := (decide (((k1 : Nat) : Int) < ((p_words.length : Nat) : Int)))) (rgT hk1) kr ?_
   refine wh_skip ?_
   refine qh_then ?_
   refine wh_seq ?_
   refine wh_block ?_
   refine wh_seq ?_
   refine wh_region ?_
   refine w_p Tb_ok 1 kr ?_
   obtain ⟨x2, ex2, h3⟩ := bnd h2
   refine w_ix (k := .i64) (rd_hd 1 rfl) (nbd ex2) rfl kr ts_30 ti_22 ?_
   refine w_ldR 1 0 rfl ex2 kr ti_22 rfl rfl ?_
   rintro _
   refine w_p Tb_ok 2 kr ?_
   refine wi_end kr ?_
   refine qh_then ?_
   refine wh_region ?_
   refine w_p Tb_ok 2 kr ?_
   obtain ⟨x3, ex3, h4⟩ := bnd h3
   refine w_bi (zaddI ex3) kr ?_
   obtain ⟨x4, ex4, h5⟩ := bnd h4
   refine w_cv Tb_ok (ecU ex4) kr ?_
   refine w_p Tb_ok 1 kr ?_
   refine w_bd (v := .agg #[.int .u64 x4, .int .u64 x2]) (t := 113) (ps0 := [(0, .int .u64 x4), (1, .int .u64 x2)]) (ps := [(0, .int .u64 x4), (1, .int .u64 x2)]) (scI (scI sc0)) kr (fun w => by kernel_rfl) ?_
   refine w_lt (kd := K_api_Point) (t := 111) (len := 1) (ps0 := [(0, .agg #[.int .u64 x4, .int .u64 x2])]) (ps := [(0, .agg #[.int .u64 x4, .int .u64 x2])]) ([(⟨x4, x2⟩ : T_api_Point)] : List T_api_Point) _ (rowC (x := (⟨x4, x2⟩ : T_api_Point)) (g := ((), ())) (itC (itA (it0 rfl) (it0 rfl))) row0) (scI sc0) kr ts_111 ti_113 kr rfl rfl (fun v1 => ?_)
   obtain ⟨l3, el3, h6⟩ := bnd h5
   refine w_app 1 rfl (own_src 0 rfl) el3 kr ts_111 ti_113 rfl (fun v2 => ?_)
   refine w_p Tb_ok 1 kr ?_
   refine wi_end kr ?_
   refine qh_block_normal ?_
   refine qh_then ?_
   refine wh_region ?_
   refine w_bi (zinc hk1 hN1) kr ?_
   refine w_p Tb_ok 1 kr ?_
   refine wi_end kr ?_
   have h6 := Option.some.inj h6; subst h6
   exact q_rs v2 hn1 aK (tH [(0, false), (1, true)] 2)
 ·
  rintro g2 - j
  refine qh_then ?_
  refine wh_seq ?_
  refine wh_region ?_
  refine w_p Tb_ok 2 kr ?_
  refine wi_end kr ?_
  refine qh_then ?_
  refine wh_ret ?_
  have h1 := Option.some.inj h1; subst h1
  exact q_end (l := [g2]) [(0, false)] 0 ⟨g2, rfl, rfl⟩ (.inl rfl) kr kr kr
theorem c_reedsolomon_may {p_pts : List T_api_Point} {p_deg : Int} {p_wrong : Int} {vp_pts_1 : Value} {r : Bool} (h : reedsolomon_may p_pts p_deg p_wrong = some r) : Ct Tryd.prog 97 [vp_pts_1, .int .i64 p_deg, .int .i64 p_wrong] [rdV K_api_Point vp_pts_1 p_pts] (fun v L => v = .bool r ∧ L = []) := by
 refine ct_intro Tryd.func97 rfl kr (fun F => ?_)
 unfold reedsolomon_may at h
 refine wh_seq ?_
 refine wh_region ?_
 refine w_p Tb_ok 1 kr ?_
 refine wi_end kr ?_
 refine qh_then ?_
 refine wh_seq ?_
 refine wh_seq ?_
 obtain ⟨x1, ej1, h1⟩ := bnd h
 refine h_join (X := Unit) (fun g => [(0, vp_pts_1), (37, .bool x1)]) (fun g => [rdV K_api_Point vp_pts_1 p_pts] ++ F) (fun _ => True) ?_ ?_
 ·
  refine wh_region ?_
  refine w_p Tb_ok 3 kr ?_
  rcases bcase ej1 with ⟨t1, h2⟩ | ⟨t1, h2⟩
  ·
   refine w_kb (t := 12) t1 kr ?_
   refine w_p Tb_ok 25 kr ?_
   refine wi_end kr ?_
   cases h2
   exact q_join () trivial aK (tH [(0, true)] 1)
  ·
   refine w_kb (t := 12) t1 kr ?_
   refine w_p Tb_ok 4 kr ?_
   rcases bcase h2 with ⟨t2, h3⟩ | ⟨t2, h3⟩
   ·
    refine w_kb (t := 16) t2 kr ?_
    refine w_p Tb_ok 21 kr ?_
    refine wi_end kr ?_
    cases h3
    exact q_join () trivial aK (tH [(0, true)] 1)
   ·
    refine w_kb (t := 16) t2 kr ?_
    refine w_p Tb_ok 2 kr ?_
    refine w_len (rd_hd 0 rfl) kr ts_111 ?_
    refine w_p Tb_ok 3 kr ?_
    rcases bcase h3 with ⟨t3, h4⟩ | ⟨t3, h4⟩
    ·
     refine w_kb (t := 22) t3 kr ?_
     refine w_p Tb_ok 15 kr ?_
     refine wi_end kr ?_
     cases h4
     exact q_join () trivial aK (tH [(0, true)] 1)
    ·
     refine w_kb (t := 22) t3 kr ?_
     refine w_p Tb_ok 2 kr ?_
     refine w_len (rd_hd 0 rfl) kr ts_111 ?_
     refine w_p Tb_ok 3 kr ?_
     rcases bcase h4 with ⟨t4, h5⟩ | ⟨t4, h5⟩
     ·
      refine w_kb (t := 28) t4 kr ?_
      refine w_p Tb_ok 9 kr ?_
      refine wi_end kr ?_
      cases h5
      exact q_join () trivial aK (tH [(0, true)] 1)
     ·
      refine w_kb (t := 28) t4 kr ?_
      refine w_p Tb_ok 1 kr ?_
      refine w_len (rd_hd 0 rfl) kr ts_111 ?_
      refine w_p Tb_ok 1 kr ?_
      obtain ⟨x2, ex2, h6⟩ := bnd h5
      refine w_bi (zaddI ex2) kr ?_
      refine w_p Tb_ok 1 kr ?_
      obtain ⟨x3, ex3, h7⟩ := bnd h6
      refine w_bi (zmulI ex3) kr ?_
      obtain ⟨x4, ex4, h8⟩ := bnd h7
      refine w_bi (zaddI ex4) kr ?_
      refine w_p Tb_ok 2 kr ?_
      refine wi_end kr ?_
      cases h8
      exact q_join () trivial aK (tH [(0, true)] 1)
 ·
  rintro ⟨⟩ - j
  refine qh_then ?_
  rcases bcase h1 with ⟨t5, h9⟩ | ⟨t5, h9⟩
  ·
   refine h_ct (b := x1) t5 kr ?_
   refine wh_seq ?_
   refine wh_region ?_
   refine w_p Tb_ok 1 kr ?_
   refine wi_end kr ?_
   refine qh_then ?_
   refine wh_ret ?_
   refine qh_then_ret ?_
   have h9 := Option.some.inj h9; subst h9
   exact q_end (l := [.bool false]) [] 1 ⟨rfl, rfl⟩ (.inl rfl) kr kr kr
  ·
   refine h_cf (b := x1) t5 kr ?_
   refine wh_skip ?_
   refine qh_then ?_
   refine wh_seq ?_
   refine wh_region ?_
   refine w_mkM (t := 181) .u64 Value.bool kr (fun v1 => ?_)
   refine w_p Tb_ok 1 kr ?_
   refine wi_end kr ?_
   refine qh_then ?_
   refine wh_seq ?_
   refine wh_seq ?_
   refine wh_region ?_
   refine w_p Tb_ok 1 kr ?_
   refine w_len (rd_hd 1 rfl) kr ts_111 ?_
   refine w_p Tb_ok 1 kr ?_
   refine wi_end kr ?_
   refine qh_then ?_
   refine h_lenle (rd_lenle 1 rfl) (fun hN1 => ?_)
   obtain ⟨r1, el1, h10⟩ := bnd h9
   refine h_join (X := Unit × (List (Int × Bool))) (fun g => []) (fun g => [] ++ F) (fun g => r1 = .go g.2) ?_ ?_
   ·
    refine wh_block ?_
    refine h_rg (fun (k1 : Nat) (st : (List (Int × Bool))) (g : Unit) => [(7, v1), (39, vp_pts_1), (40, .int .i64 ((p_pts.length : Nat) : Int)), (41, .int .i64 ((k1 : Nat) : Int))]) (fun (k1 : Nat) (st : (List (Int × Bool))) (g : Unit) => [mapV .u64 Value.bool v1 st, rdV K_api_Point vp_pts_1 p_pts] ++ F) () el1 (Nat.zero_le _) aK (tH [(0, false), (0, true)] 1) ?_ ?_
    ·
     rintro l3 ⟨⟩ hr1 j
     refine wh_seq ?_
     refine wh_region ?_
     refine w_p Tb_ok 1 kr ?_
     refine wi_end kr ?_
     refine qh_then ?_
     refine wh_seq ?_
     refine h_cf (b := (decide ((((p_pts.length) : Nat) : Int) < ((p_pts.length : Nat) : Int)))) rgF kr ?_
     refine wh_exit ?_
     refine qh_then_exit ?_
     refine q_rzX ?_
     refine qh_block_exit ?_
     exact q_join ((), l3) hr1 aK (tH [] 2)
    ·
     rintro rem k1 l1 ⟨⟩ o1 hk1 h11 hn1 j
     have h11 : reedsolomon_may_L0 p_pts k1 l1 = some o1 := h11
     unfold reedsolomon_may_L0 at h11
     refine wh_seq ?_
     refine wh_region ?_
     refine w_p Tb_ok 1 kr ?_
     refine wi_end kr ?_
     refine qh_then ?_
     refine wh_seq ?_
     refine h_ct (b := (decide (((k1 : Nat) : Int) < ((p_pts.length : Nat) : Int)))) (rgT hk1) kr ?_
     refine wh_skip ?_
     refine qh_then ?_
     refine wh_seq ?_
     refine wh_block ?_
     refine wh_seq ?_
     refine wh_region ?_
     obtain ⟨x6, ex6, h12⟩ := bnd h11
     refine w_ix (k := .i64) (rd_hd 1 rfl) (nbd ex6) rfl kr ts_111 ti_113 ?_
     refine w_ldR 1 0 rfl ex6 kr ti_113 rfl rfl ?_
     rintro ⟨_, _⟩
     refine w_al kr ti_113 (fun q1 => ?_)
     refine WI.hd (y := blkP q1 113 [.int .u64 ((0 : Nat) : Int), .int .u64 ((0 : Nat) : Int)]) kr ?_
     refine w_opP 0 rfl (fun b1 hb => ?_)
     subst hb
     refine w_stB (v := .agg #[.int .u64 x6.X, .int .u64 x6.Y]) (off := 0) (cs := [.int .u64 x6.X, .int .u64 x6.Y]) 0 rfl (cv0 kr) kr ti_113 rfl rfl (oC (fun _ _ => rfl) (oC (fun _ _ => rfl) oN)) ?_
     refine WI.hd (y := blkP (.pointer (some ⟨b1, 0, none⟩)) 113 [.int .u64 x6.X, .int .u64 x6.Y]) kr ?_
     refine wi_end kr ?_
     refine qh_then ?_
     refine wh_seq ?_
     refine wh_seq ?_
     refine wh_region ?_
     refine w_p Tb_ok 2 kr ?_
     refine w_ldB 0 0 rfl kr ti_22 rfl rfl ?_
     refine w_lkM (k := ((x6.X : Nat) : Int)) false false 1 rfl kr tm_181 ti_4 rfl ?_
     refine wi_end kr ?_
     refine qh_then ?_
     rcases bcase h12 with ⟨t6, h13⟩ | ⟨t6, h13⟩
     ·
      refine h_ct (b := ((mgetO l1 ((x6.X : Nat) : Int)).getD false)) t6 kr ?_
      refine wh_seq ?_
      refine wh_region ?_
      refine w_p Tb_ok 1 kr ?_
      refine wi_end kr ?_
      refine qh_then ?_
      refine wh_ret ?_
      refine qh_then_ret ?_
      refine qh_block_ret ?_
      refine qh_then_ret ?_
      refine q_rgR ?_
      refine qh_block_ret ?_
      refine q_joinR ?_
      refine qh_then_ret ?_
      have h13 := Option.some.inj h13; subst h13
      have hn := (show _ = _ from hn1); subst hn
      have h10 := Option.some.inj (show some _ = some _ from h10); subst h10
      exact q_end (l := [.bool false]) [] 3 ⟨rfl, rfl⟩ (.inl rfl) kr kr kr
     ·
      refine h_cf (b := ((mgetO l1 ((x6.X : Nat) : Int)).getD false)) t6 kr ?_
      refine wh_skip ?_
      refine qh_then ?_
      refine wh_region ?_
      refine w_p Tb_ok 2 kr ?_
      refine w_ldB 0 0 rfl kr ti_22 rfl rfl ?_
      refine w_upM (vd := Value.bool) (k := ((x6.X : Nat) : Int)) (a := true) 1 rfl kr tm_181 ?_
      refine wi_end kr ?_
      refine qh_block_normal ?_
      refine qh_then ?_
      refine wh_region ?_
      refine w_bi (zinc hk1 hN1) kr ?_
      refine w_p Tb_ok 1 kr ?_
      refine wi_end kr ?_
      have h13 := Option.some.inj h13; subst h13
      exact q_rgo () hn1 aK (tH [(0, false), (1, true)] 2)
   ·
    rintro ⟨⟨⟩, l2⟩ hc j
    subst hc
    refine qh_then ?_
    refine wh_seq ?_
    refine wh_region ?_
    refine w_p Tb_ok 1 kr ?_
    refine wi_end kr ?_
    refine qh_then ?_
    refine wh_ret ?_
    have h10 := Option.some.inj h10; subst h10
    exact q_end (l := [.bool true]) [] 0 ⟨rfl, rfl⟩ (.inl rfl) kr kr kr
theorem c_field_Neg {p_p : Nat} {p_a : Nat} {r : Nat} (h : field_Neg p_p p_a = some r) : Ct Tryd.prog 116 [.int .u64 p_p, .int .u64 p_a] [] (fun v L => v = .int .u64 r ∧ L = []) := by
 refine ct_intro Tryd.func116 rfl kr (fun F => ?_)
 unfold field_Neg at h
 refine wh_seq ?_
 refine wh_region ?_
 refine w_p Tb_ok 1 kr ?_
 refine wi_end kr ?_
 refine qh_then ?_
 refine wh_seq ?_
 refine wh_seq ?_
 refine wh_region ?_
 refine w_p Tb_ok 2 kr ?_
 refine wi_end kr ?_
 refine qh_then ?_
 rcases bcase h with ⟨t1, h1⟩ | ⟨t1, h1⟩
 ·
  refine h_ct (b := (((p_a : Nat) : Int) == (0 : Int))) t1 kr ?_
  refine wh_seq ?_
  refine wh_region ?_
  refine w_p Tb_ok 1 kr ?_
  refine wi_end kr ?_
  refine qh_then ?_
  refine wh_ret ?_
  refine qh_then_ret ?_
  have h1 := Option.some.inj h1; subst h1
  exact q_end (l := [.int .u64 ((0 : Nat) : Int)]) [] 0 ⟨rfl, rfl⟩ (.inl rfl) kr kr kr
 ·
  refine h_cf (b := (((p_a : Nat) : Int) == (0 : Int))) t1 kr ?_
  refine wh_skip ?_
  refine qh_then ?_
  refine wh_seq ?_
  refine wh_region ?_
  refine w_p Tb_ok 2 kr ?_
  obtain ⟨x1, ex1, h2⟩ := bnd h1
  refine w_bi (esubU ex1) kr ?_
  refine w_p Tb_ok 1 kr ?_
  refine wi_end kr ?_
  refine qh_then ?_
  refine wh_ret ?_
  have h2 := Option.some.inj h2; subst h2
  exact q_end (l := [.int .u64 x1]) [] 0 ⟨rfl, rfl⟩ (.inl rfl) kr kr kr
theorem c_matrix_rect_1 {p_row : List Nat} {p_a1 : List (List Nat)} {vp_row_1 : Value} {bp_a1 : Nat} {vp_a1_1 : Value} {r : Bool} (h : matrix_rect_1 p_row p_a1 = some r) : Ct Tryd.prog 148 [vp_row_1, (.pointer (some ⟨bp_a1, 0, none⟩))] [rdV Kd.u64 vp_row_1 p_row, blkP (.pointer (some ⟨bp_a1, 0, none⟩)) 27 [vp_a1_1], rdV (Kd.sl Kd.u64) vp_a1_1 p_a1] (fun v L => v = .bool r ∧ L = [blkP (.pointer (some ⟨bp_a1, 0, none⟩)) 27 [vp_a1_1]]) := by
 refine ct_intro Tryd.func148 rfl kr (fun F => ?_)
 unfold matrix_rect_1 at h
 refine wh_seq ?_
 refine wh_region ?_
 refine w_p Tb_ok 1 kr ?_
 refine wi_end kr ?_
 refine qh_then ?_
 refine wh_seq ?_
 refine wh_region ?_
 refine w_p Tb_ok 1 kr ?_
 refine w_len (rd_hd 0 rfl) kr ts_30 ?_
 refine w_ldB 1 0 rfl kr ti_27 rfl rfl ?_
 obtain ⟨x1, ex1, h1⟩ := bnd h
 refine w_ix (k := .i64) (rd_hd 2 rfl) (nbd ex1) rfl kr ts_27 ti_30 ?_
 refine w_ldR 2 0 rfl ex1 kr ti_30 rfl rfl ?_
 rintro v1
 refine w_len (rd_hd 0 rfl) kr ts_30 ?_
 refine w_p Tb_ok 2 kr ?_
 refine wi_end kr ?_
 refine qh_then ?_
 refine wh_ret ?_
 have h1 := Option.some.inj h1; subst h1
 exact q_end (l := [.bool (((p_row.length : Nat) : Int) != ((x1.length : Nat) : Int))]) [(2, false)] 3 ⟨rfl, rfl⟩ (.inl rfl) kr kr kr
theorem c_slices_IndexFunc_LLuint64_Luint64_matrix_rect_1 {p_s : List (List Nat)} {p_f_c0 : List (List Nat)} {vp_s_1 : Value} {bp_f_c0 : Nat} {vp_f_c0_1 : Value} {r : Int} (h : slices_IndexFunc_LLuint64_Luint64_matrix_rect_1 p_s p_f_c0 = some r) : Ct Tryd.prog 132 [vp_s_1, .func (.func 148) #[] #[(.pointer (some ⟨bp_f_c0, 0, none⟩))]] [rdV (Kd.sl Kd.u64) vp_s_1 p_s, blkP (.pointer (some ⟨bp_f_c0, 0, none⟩)) 27 [vp_f_c0_1], rdV (Kd.sl Kd.u64) vp_f_c0_1 p_f_c0] (fun v L => v = .int .i64 r ∧ L = [blkP (.pointer (some ⟨bp_f_c0, 0, none⟩)) 27 [vp_f_c0_1]]) := by
 refine ct_intro Tryd.func132 rfl kr (fun F => ?_)
 unfold slices_IndexFunc_LLuint64_Luint64_matrix_rect_1 at h
 refine wh_seq ?_
 refine wh_region ?_
 refine w_p Tb_ok 1 kr ?_
 refine wi_end kr ?_
 refine qh_then ?_
 refine wh_seq ?_
 refine wh_seq ?_
 refine wh_region ?_
 refine w_p Tb_ok 1 kr ?_
 refine w_len (rd_hd 0 rfl) kr ts_27 ?_
 refine w_p Tb_ok 1 kr ?_
 refine wi_end kr ?_
 refine qh_then ?_
 refine h_lenle (rd_lenle 0 rfl) (fun hN1 => ?_)
 obtain ⟨r1, el1, h1⟩ := bnd h
 refine h_join (X := Unit × Unit) (fun g => []) (fun g => [blkP (.pointer (some ⟨bp_f_c0, 0, none⟩)) 27 [vp_f_c0_1], rdV (Kd.sl Kd.u64) vp_f_c0_1 p_f_c0] ++ F) (fun g => r1 = .go g.2) ?_ ?_
 ·
  refine wh_block ?_
  refine h_rg (fun (k1 : Nat) (st : Unit) (g : Unit) => [(0, vp_s_1), (1, .func (.func 148) #[] #[(.pointer (some ⟨bp_f_c0, 0, none⟩))]), (7, .int .i64 ((p_s.length : Nat) : Int)), (8, .int .i64 ((k1 : Nat) : Int))]) (fun (k1 : Nat) (st : Unit) (g : Unit) => [rdV (Kd.sl Kd.u64) vp_s_1 p_s, blkP (.pointer (some ⟨bp_f_c0, 0, none⟩)) 27 [vp_f_c0_1], rdV (Kd.sl Kd.u64) vp_f_c0_1 p_f_c0] ++ F) () el1 (Nat.zero_le _) aK (tH [(0, true), (1, false), (1, true)] 2) ?_ ?_
  ·
   rintro ⟨⟩ ⟨⟩ hr1 j
   refine wh_seq ?_
   refine wh_region ?_
   refine w_p Tb_ok 1 kr ?_
   refine wi_end kr ?_
   refine qh_then ?_
   refine wh_seq ?_
   refine h_cf (b := (decide ((((p_s.length) : Nat) : Int) < ((p_s.length : Nat) : Int)))) rgF kr ?_
   refine wh_exit ?_
   refine qh_then_exit ?_
   refine q_rzX ?_
   refine qh_block_exit ?_
   exact q_join ((), ()) hr1 aK (tH [(1, false), (1, true)] 2)
  ·
   rintro rem k1 ⟨⟩ ⟨⟩ o1 hk1 h2 hn1 j
   have h2 : slices_IndexFunc_LLuint64_Luint64_matrix_rect_1_L0 p_s p_f_c0 k1 = some o1 := h2
   unfold slices_IndexFunc_LLuint64_Luint64_matrix_rect_1_L0 at h2
   refine wh_seq ?_
   refine wh_region ?_
   refine w_p Tb_ok 1 kr ?_
   refine wi_end kr ?_
   refine qh_then ?_
   refine wh_seq ?_
   refine h_ct (b := (decide (((k1 : Nat) : Int) < ((p_s.length : Nat) : Int)))) (rgT hk1) kr ?_
   refine wh_skip ?_
   refine qh_then ?_
   refine wh_seq ?_
   refine wh_block ?_
   refine wh_seq ?_
   refine wh_region ?_
   refine w_p Tb_ok 2 kr ?_
   refine wi_end kr ?_
   refine qh_then ?_
   refine wh_seq ?_
   refine wh_region ?_
   refine w_p Tb_ok 3 kr ?_
   obtain ⟨x1, ex1, h3⟩ := bnd h2
   refine w_ix (k := .i64) (rd_hd 0 rfl) (nbd ex1) rfl kr ts_27 ti_30 ?_
   refine w_ldR 0 0 rfl ex1 kr ti_30 rfl rfl ?_
   rintro v1
   obtain ⟨r2, er2, h4⟩ := bnd h3
   refine w_fn [(0, true), (2, false), (2, true)] (c_matrix_rect_1 er2) rfl fok_148 kr ?_
   rintro _ _ ⟨hv, rfl⟩; have hv := hv.symm; subst hv
   refine wi_end kr ?_
   refine qh_then ?_
   rcases bcase h4 with ⟨t1, h5⟩ | ⟨t1, h5⟩
   ·
    refine h_ct (b := r2) t1 kr ?_
    refine wh_seq ?_
    refine wh_region ?_
    refine w_p Tb_ok 2 kr ?_
    refine wi_end kr ?_
    refine qh_then ?_
    refine wh_ret ?_
    refine qh_block_ret ?_
    refine qh_then_ret ?_
    refine q_rgR ?_
    refine qh_block_ret ?_
    refine q_joinR ?_
    refine qh_then_ret ?_
    have h5 := Option.some.inj h5; subst h5
    have hn := (show _ = _ from hn1); subst hn
    have h1 := Option.some.inj (show some _ = some _ from h1); subst h1
    exact q_end (l := [.int .i64 ((k1 : Nat) : Int)]) [(0, false)] 3 ⟨rfl, rfl⟩ (.inl rfl) kr kr kr
   ·
    refine h_cf (b := r2) t1 kr ?_
    refine wh_skip ?_
    refine qh_block_normal ?_
    refine qh_then ?_
    refine wh_region ?_
    refine w_bi (zinc hk1 hN1) kr ?_
    refine w_p Tb_ok 1 kr ?_
    refine wi_end kr ?_
    have h5 := Option.some.inj h5; subst h5
    exact q_rgo () hn1 aK (tH [(2, true), (0, false), (2, true)] 3)
 ·
  rintro ⟨⟨⟩, ⟨⟩⟩ hc j
  subst hc
  refine qh_then ?_
  refine wh_seq ?_
  refine wh_region ?_
  refine w_p Tb_ok 1 kr ?_
  refine wi_end kr ?_
  refine qh_then ?_
  refine wh_ret ?_
  have h1 := Option.some.inj h1; subst h1
  exact q_end (l := [.int .i64 (-1)]) [(0, false)] 1 ⟨rfl, rfl⟩ (.inl rfl) kr kr kr
theorem c_slices_ContainsFunc_LLuint64_Luint64_matrix_rect_1 {p_s : List (List Nat)} {p_f_c0 : List (List Nat)} {vp_s_1 : Value} {bp_f_c0 : Nat} {vp_f_c0_1 : Value} {r : Bool} (h : slices_ContainsFunc_LLuint64_Luint64_matrix_rect_1 p_s p_f_c0 = some r) : Ct Tryd.prog 112 [vp_s_1, .func (.func 148) #[] #[(.pointer (some ⟨bp_f_c0, 0, none⟩))]] [rdV (Kd.sl Kd.u64) vp_s_1 p_s, blkP (.pointer (some ⟨bp_f_c0, 0, none⟩)) 27 [vp_f_c0_1], rdV (Kd.sl Kd.u64) vp_f_c0_1 p_f_c0] (fun v L => v = .bool r ∧ L = [blkP (.pointer (some ⟨bp_f_c0, 0, none⟩)) 27 [vp_f_c0_1]]) := by
 refine ct_intro Tryd.func112 rfl kr (fun F => ?_)
 unfold slices_ContainsFunc_LLuint64_Luint64_matrix_rect_1 at h
 refine wh_seq ?_
 refine wh_region ?_
 refine w_p Tb_ok 1 kr ?_
 refine wi_end kr ?_
 refine qh_then ?_
 refine wh_seq ?_
 refine wh_region ?_
 refine w_p Tb_ok 2 kr ?_
 obtain ⟨r1, er1, h1⟩ := bnd h
 refine w_fn [(0, true), (1, false), (1, true)] (c_slices_IndexFunc_LLuint64_Luint64_matrix_rect_1 er1) rfl fok_132 kr ?_
 rintro _ _ ⟨hv, rfl⟩; have hv := hv.symm; subst hv
 refine w_p Tb_ok 2 kr ?_
 refine wi_end kr ?_
 refine qh_then ?_
 refine wh_ret ?_
 have h1 := Option.some.inj h1; subst h1
 exact q_end (l := [.bool (decide (r1 ≥ (0 : Int)))]) [(0, false)] 2 ⟨rfl, rfl⟩ (.inl rfl) kr kr kr
theorem c_matrix_rect {p_m : List (List Nat)} {vp_m_1 : Value} {r : Bool} (h : matrix_rect p_m = some r) : Ct Tryd.prog 140 [vp_m_1] [rdV (Kd.sl Kd.u64) vp_m_1 p_m] (fun v L => v = .bool r ∧ L = []) := by
 refine ct_intro Tryd.func140 rfl kr (fun F => ?_)
 unfold matrix_rect at h
 refine wh_seq ?_
 refine wh_region ?_
 refine w_box (t := 27) (v := vp_m_1) (cs := [vp_m_1]) (cvS (rd_hd 0 rfl)) kr (fun q1 => ?_)
 refine WI.hd (y := blkP q1 27 [vp_m_1]) kr ?_
 refine w_opP 0 rfl (fun b1 hb => ?_)
 subst hb
 refine w_p Tb_ok 1 kr ?_
 refine wi_end kr ?_
 refine qh_then ?_
 refine wh_seq ?_
 refine wh_region ?_
 refine w_ldB 0 0 rfl kr ti_27 rfl rfl ?_
 refine w_p Tb_ok 1 kr ?_
 obtain ⟨r1, er1, h1⟩ := bnd h
 refine w_fn [(1, true), (0, false), (0, true)] (c_slices_ContainsFunc_LLuint64_Luint64_matrix_rect_1 er1) rfl fok_112 kr ?_
 rintro _ _ ⟨hv, rfl⟩; have hv := hv.symm; subst hv
 refine w_p Tb_ok 2 kr ?_
 refine wi_end kr ?_
 refine qh_then ?_
 refine wh_ret ?_
 have h1 := Option.some.inj h1; subst h1
 exact q_end (l := [.bool (!r1)]) [] 2 ⟨rfl, rfl⟩ (.inl rfl) kr kr kr
theorem c_matrix_cols {p_m : List (List Nat)} {vp_m_1 : Value} {r : Int} (h : matrix_cols p_m = some r) : Ct Tryd.prog 141 [vp_m_1] [rdV (Kd.sl Kd.u64) vp_m_1 p_m] (fun v L => v = .int .i64 r ∧ L = []) := by
 refine ct_intro Tryd.func141 rfl kr (fun F => ?_)
 unfold matrix_cols at h
 refine wh_seq ?_
 refine wh_region ?_
 refine w_p Tb_ok 1 kr ?_
 refine wi_end kr ?_
 refine qh_then ?_
 refine wh_seq ?_
 refine wh_seq ?_
 refine wh_region ?_
 refine w_p Tb_ok 1 kr ?_
 refine w_len (rd_hd 0 rfl) kr ts_27 ?_
 refine w_p Tb_ok 1 kr ?_
 refine wi_end kr ?_
 refine qh_then ?_
 rcases bcase h with ⟨t1, h1⟩ | ⟨t1, h1⟩
 ·
  refine h_ct (b := (((p_m.length : Nat) : Int) == (0 : Int))) t1 kr ?_
  refine wh_seq ?_
  refine wh_region ?_
  refine w_p Tb_ok 1 kr ?_
  refine wi_end kr ?_
  refine qh_then ?_
  refine wh_ret ?_
  refine qh_then_ret ?_
  have h1 := Option.some.inj h1; subst h1
  exact q_end (l := [.int .i64 ((0 : Nat) : Int)]) [] 1 ⟨rfl, rfl⟩ (.inl rfl) kr kr kr
 ·
  refine h_cf (b := (((p_m.length : Nat) : Int) == (0 : Int))) t1 kr ?_
  refine wh_skip ?_
  refine qh_then ?_
  refine wh_seq ?_
  refine wh_region ?_
  refine w_p Tb_ok 1 kr ?_
  obtain ⟨x1, ex1, h2⟩ := bnd h1
  refine w_ix (k := .i64) (rd_hd 0 rfl) (nbd ex1) rfl kr ts_27 ti_30 ?_
  refine w_ldR 0 0 rfl ex1 kr ti_30 rfl rfl ?_
  rintro v1
  refine w_len (rd_hd 0 rfl) kr ts_30 ?_
  refine w_p Tb_ok 1 kr ?_
  refine wi_end kr ?_
  refine qh_then ?_
  refine wh_ret ?_
  have h2 := Option.some.inj h2; subst h2
  exact q_end (l := [.int .i64 ((x1.length : Nat) : Int)]) [] 2 ⟨rfl, rfl⟩ (.inl rfl) kr kr kr
theorem c_field_Pow {p_p : Nat} {p_a : Nat} {p_n : Nat} {r : Nat} (h : field_Pow p_p p_a p_n = some r) : Ct Tryd.prog 143 [.int .u64 p_p, .int .u64 p_a, .int .u64 p_n] [] (fun v L => v = .int .u64 r ∧ L = []) := by
 refine ct_intro Tryd.func143 rfl kr (fun F => ?_)
 unfold field_Pow at h
 refine wh_seq ?_
 refine wh_region ?_
 refine w_p Tb_ok 1 kr ?_
 refine wi_end kr ?_
 refine qh_then ?_
 refine wh_seq ?_
 refine wh_region ?_
 refine w_p Tb_ok 1 kr ?_
 refine wi_end kr ?_
 refine qh_then ?_
 refine wh_seq ?_
 obtain ⟨x5, el1, h1⟩ := bnd h
 refine h_join (X := Unit) (fun g => [(7, .int .u64 x5)]) (fun g => [] ++ F) (fun _ => True) ?_ ?_
 ·
  refine wh_block ?_
  refine h_lp (fun (st : Nat × Nat × Nat) (g : Unit) => [(0, .int .u64 p_p), (1, .int .u64 st.1), (2, .int .u64 st.2.1), (7, .int .u64 st.2.2)]) (fun (st : Nat × Nat × Nat) (g : Unit) => [] ++ F) () el1 aK (tH [] 0) ?_
  rintro kk ⟨x1, x2, x3⟩ ⟨⟩ o1 h2 hn1 j
  have h2 : field_Pow_L0 p_p x1 x2 x3 = some o1 := h2
  unfold field_Pow_L0 at h2
  refine wh_seq ?_
  refine wh_seq ?_
  refine wh_region ?_
  refine w_p Tb_ok 2 kr ?_
  refine wi_end kr ?_
  refine qh_then ?_
  rcases bcase h2 with ⟨t1, h3⟩ | ⟨t1, h3⟩
  ·
   refine h_ct (b := (decide (((x2 : Nat) : Int) > (0 : Int)))) t1 kr ?_
   refine wh_skip ?_
   refine qh_then ?_
   refine wh_seq ?_
   refine wh_block ?_
   refine wh_seq ?_
   refine wh_seq ?_
   refine wh_region ?_
   refine w_p Tb_ok 1 kr ?_
   obtain ⟨x6, ex6, h4⟩ := bnd h3
   refine w_bi (eandU ex6) kr ?_
   refine w_p Tb_ok 1 kr ?_
   refine wi_end kr ?_
   refine qh_then ?_
   rcases bcase h4 with ⟨t2, h5⟩ | ⟨t2, h5⟩
   ·
    refine h_ct (b := (((x6 : Nat) : Int) == (1 : Int))) t2 kr ?_
    refine wh_region ?_
    refine w_p Tb_ok 3 kr ?_
    obtain ⟨r2, er2, h6⟩ := bnd h5
    refine w_fn [] (c_field_Mul er2) rfl fok_87 kr ?_
    rintro _ _ ⟨hv, rfl⟩; have hv := hv.symm; subst hv
    refine w_p Tb_ok 1 kr ?_
    refine wi_end kr ?_
    refine qh_then ?_
    refine wh_region ?_
    refine w_p Tb_ok 3 kr ?_
    obtain ⟨r3, er3, h7⟩ := bnd h6
    refine w_fn [] (c_field_Mul er3) rfl fok_87 kr ?_
    rintro _ _ ⟨hv, rfl⟩; have hv := hv.symm; subst hv
    refine w_p Tb_ok 1 kr ?_
    refine wi_end kr ?_
    refine qh_block_normal ?_
    refine qh_then ?_
    refine wh_region ?_
    refine w_p Tb_ok 1 kr ?_
    obtain ⟨x7, ex7, h8⟩ := bnd h7
    refine w_sh (yk := .u64) (.inr rfl) (zshr ex7) kr ?_
    refine w_p Tb_ok 1 kr ?_
    refine wi_end kr ?_
    have h8 := Option.some.inj h8; subst h8
    exact q_go () hn1 aK (tH [] 0)
   ·
    refine h_cf (b := (((x6 : Nat) : Int) == (1 : Int))) t2 kr ?_
    refine wh_skip ?_
    refine qh_then ?_
    refine wh_region ?_
    refine w_p Tb_ok 3 kr ?_
    obtain ⟨r4, er4, h9⟩ := bnd h5
    refine w_fn [] (c_field_Mul er4) rfl fok_87 kr ?_
    rintro _ _ ⟨hv, rfl⟩; have hv := hv.symm; subst hv
    refine w_p Tb_ok 1 kr ?_
    refine wi_end kr ?_
    refine qh_block_normal ?_
    refine qh_then ?_
    refine wh_region ?_
    refine w_p Tb_ok 1 kr ?_
    obtain ⟨x8, ex8, h10⟩ := bnd h9
    refine w_sh (yk := .u64) (.inr rfl) (zshr ex8) kr ?_
    refine w_p Tb_ok 1 kr ?_
    refine wi_end kr ?_
    have h10 := Option.some.inj h10; subst h10
    exact q_go () hn1 aK (tH [] 0)
  ·
   refine h_cf (b := (decide (((x2 : Nat) : Int) > (0 : Int)))) t1 kr ?_
   refine wh_exit ?_
   refine qh_then_exit ?_
   refine q_lpX ?_
   refine qh_block_exit ?_
   have h3 := Option.some.inj h3; subst h3
   cases (show _ = _ from hn1)
   exact q_join () trivial aK (tH [] 0)
 ·
  rintro ⟨⟩ - j
  refine qh_then ?_
  refine wh_seq ?_
  refine wh_region ?_
  refine w_p Tb_ok 2 kr ?_
  refine wi_end kr ?_
  refine qh_then ?_
  refine wh_ret ?_
  have h1 := Option.some.inj h1; subst h1
  exact q_end (l := [.int .u64 x5]) [] 0 ⟨rfl, rfl⟩ (.inl rfl) kr kr kr
theorem c_field_Inverse {p_p : Nat} {p_a : Nat} {r : Nat × Int} (h : field_Inverse p_p p_a = some r) : Ct Tryd.prog 128 [.int .u64 p_p, .int .u64 p_a] [] (fun v L => v = .tuple #[.int .u64 r.1, .int .i64 r.2] ∧ L = []) := by
 refine ct_intro Tryd.func128 rfl kr (fun F => ?_)
 unfold field_Inverse at h
 refine wh_seq ?_
 refine wh_region ?_
 refine w_p Tb_ok 2 kr ?_
 refine wi_end kr ?_
 refine qh_then ?_
 refine wh_seq ?_
 refine wh_seq ?_
 refine wh_region ?_
 refine w_p Tb_ok 2 kr ?_
 refine wi_end kr ?_
 refine qh_then ?_
 rcases bcase h with ⟨t1, h1⟩ | ⟨t1, h1⟩
 ·
  refine h_ct (b := (((p_a : Nat) : Int) == (0 : Int))) t1 kr ?_
  refine wh_seq ?_
  refine wh_region ?_
  refine w_p Tb_ok 2 kr ?_
  refine wi_end kr ?_
  refine qh_then ?_
  refine wh_ret ?_
  refine qh_then_ret ?_
  have h1 := Option.some.inj h1; subst h1
  exact q_end (l := [.int .u64 ((0 : Nat) : Int), .int .i64 ((8 : Nat) : Int)]) [] 0 ⟨rfl, rfl⟩ (.inl rfl) kr kr kr
 ·
  refine h_cf (b := (((p_a : Nat) : Int) == (0 : Int))) t1 kr ?_
  refine wh_skip ?_
  refine qh_then ?_
  refine wh_seq ?_
  refine wh_region ?_
  refine w_p Tb_ok 3 kr ?_
  obtain ⟨x1, ex1, h2⟩ := bnd h1
  refine w_bi (esubU ex1) kr ?_
  obtain ⟨r1, er1, h3⟩ := bnd h2
  refine w_fn [] (c_field_Pow er1) rfl fok_143 kr ?_
  rintro _ _ ⟨hv, rfl⟩; have hv := hv.symm; subst hv
  refine w_p Tb_ok 2 kr ?_
  refine wi_end kr ?_
  refine qh_then ?_
  refine wh_ret ?_
  have h3 := Option.some.inj h3; subst h3
  exact q_end (l := [.int .u64 r1, .int .i64 ((0 : Nat) : Int)]) [] 0 ⟨rfl, rfl⟩ (.inl rfl) kr kr kr
theorem c_field_Sub {p_p : Nat} {p_a : Nat} {p_b : Nat} {r : Nat} (h : field_Sub p_p p_a p_b = some r) : Ct Tryd.prog 86 [.int .u64 p_p, .int .u64 p_a, .int .u64 p_b] [] (fun v L => v = .int .u64 r ∧ L = []) := by
 refine ct_intro Tryd.func86 rfl kr (fun F => ?_)
 unfold field_Sub at h
 refine wh_seq ?_
 refine wh_region ?_
 refine w_p Tb_ok 1 kr ?_
 refine wi_end kr ?_
 refine qh_then ?_
 refine wh_seq ?_
 refine wh_region ?_
 refine w_p Tb_ok 4 kr ?_
 obtain ⟨r1, er1, h1⟩ := bnd h
 refine w_fn [] (c_field_Neg er1) rfl fok_116 kr ?_
 rintro _ _ ⟨hv, rfl⟩; have hv := hv.symm; subst hv
 obtain ⟨r2, er2, h2⟩ := bnd h1
 refine w_fn [] (c_field_Add er2) rfl fok_89 kr ?_
 rintro _ _ ⟨hv, rfl⟩; have hv := hv.symm; subst hv
 refine w_p Tb_ok 1 kr ?_
 refine wi_end kr ?_
 refine qh_then ?_
 refine wh_ret ?_
 have h2 := Option.some.inj h2; subst h2
 exact q_end (l := [.int .u64 r2]) [] 0 ⟨rfl, rfl⟩ (.inl rfl) kr kr kr
theorem c_matrix_reduce {p_p : Nat} {p_m : List (List Nat)} {p_columns : Int} {vp_m_1 : Value} {r : T_matrix_worked} (h : matrix_reduce p_p p_m p_columns = some r) : Ct Tryd.prog 142 [.int .u64 p_p, vp_m_1, .int .i64 p_columns] [rdV (Kd.sl Kd.u64) vp_m_1 p_m] (fun v L => ∃ w0 w0__1 w0__2 : Value, v = w0 ∧ L = [blkP w0 198 [.int .u64 r.zp, w0__1, w0__2, .int .u64 r.zdet], ownV (Kd.sl Kd.u64) 30 w0__1 r.zm, ownV Kd.i64 3 w0__2 r.zpivot]) := by
 refine ct_intro Tryd.func142 rfl kr (fun F => ?_)
 unfold matrix_reduce at h
 refine wh_seq ?_
 refine wh_region ?_
 refine w_p Tb_ok 1 kr ?_
 refine wi_end kr ?_
 refine qh_then ?_
 refine wh_seq ?_
 refine wh_region ?_
 refine w_p Tb_ok 2 kr ?_
 obtain ⟨r1, er1, h1⟩ := bnd h
 refine w_fn [(0, true)] (c_slices_Clone_LLuint64_Luint64 er1) rfl fok_123 kr ?_
 rintro _ _ ⟨w1, hv, rfl⟩; have hv := hv.symm; subst hv
 refine w_bd (v := .agg #[.int .u64 p_p, w1, (.slice none 0 0), .int .u64 ((1 : Nat) : Int)]) (t := 198) (ps0 := [(0, .int .u64 p_p), (1, w1), (3, .int .u64 ((1 : Nat) : Int))]) (ps := [(0, .int .u64 p_p), (1, .agg #[w1]), (3, .int .u64 ((1 : Nat) : Int))]) (scI (scS (own_hd 0 rfl) (scI sc0))) kr (fun w => by kernel_rfl) ?_
 refine w_box (t := 198) (v := .agg #[.int .u64 p_p, w1, (.slice none 0 0), .int .u64 ((1 : Nat) : Int)]) (cs := [.int .u64 p_p, w1, (.slice none 0 0), .int .u64 ((1 : Nat) : Int)]) (cv0 kr) kr (fun q1 => ?_)
 refine WI.hd (y := blkP q1 198 [.int .u64 p_p, w1, (.slice none 0 0), .int .u64 ((1 : Nat) : Int)]) kr ?_
 refine w_opP 0 rfl (fun b1 hb => ?_)
 subst hb
 refine w_p Tb_ok 1 kr ?_
 refine wi_end kr ?_
 refine qh_then ?_
 refine wh_seq ?_
 refine wh_seq ?_
 refine wh_region ?_
 refine w_p Tb_ok 3 kr ?_
 refine w_ldB 0 1 rfl kr ti_27 rfl rfl ?_
 refine w_len (own_hd 1 rfl) kr ts_27 ?_
 refine w_p Tb_ok 1 kr ?_
 refine wi_end kr ?_
 refine qh_then ?_
 refine WH.half 22 1 rfl (fun gs1 => ?_)
 obtain ⟨u1, eu1, h2⟩ := bnd h1
 have hN1 := ckN_some eu1
 obtain ⟨l2, el1, h3⟩ := bnd h2
 refine h_join (X := Value) (fun g => [(0, .int .u64 p_p), (2, .int .i64 p_columns), (7, (.pointer (some ⟨b1, 0, none⟩)))]) (fun g => [blkP (.pointer (some ⟨b1, 0, none⟩)) 198 [.int .u64 p_p, w1, (.slice none 0 0), .int .u64 ((1 : Nat) : Int)], treeV (rowK Kd.u64 22) 30 w1 (tg g) l2] ++ F) (fun _ => True) ?_ ?_
 ·
  refine wh_block ?_
  refine h_rs (fun (k1 : Nat) (st : (List (List Nat))) (g : Value) => [(0, .int .u64 p_p), (2, .int .i64 p_columns), (7, (.pointer (some ⟨b1, 0, none⟩))), (31, w1), (32, .int .i64 ((r1.length : Nat) : Int)), (33, .int .i64 ((k1 : Nat) : Int))]) (fun (k1 : Nat) (st : (List (List Nat))) (g : Value) => [blkP (.pointer (some ⟨b1, 0, none⟩)) 198 [.int .u64 p_p, w1, (.slice none 0 0), .int .u64 ((1 : Nat) : Int)], halfV Kd.u64 22 30 w1 (tg g) st k1 r1.length] ++ F) (tw w1 gs1) el1 (Nat.zero_le _) aK (tH [(1, false), (0, false)] 1) ?_ ?_
  ·
   rintro g3 j
   refine wh_seq ?_
   refine wh_region ?_
   refine w_p Tb_ok 1 kr ?_
   refine wi_end kr ?_
   refine qh_then ?_
   refine wh_seq ?_
   refine h_cf (b := (decide ((((r1.length) : Nat) : Int) < ((r1.length : Nat) : Int)))) rgF kr ?_
   refine wh_exit ?_
   refine qh_then_exit ?_
   refine q_rzX ?_
   refine qh_block_exit ?_
   refine QH.ent (half_end 1 rfl) ?_
   exact q_join (tw w1 (tg g3)) trivial aK (tH [(1, false), (0, false)] 0)
  ·
   rintro rem k1 l1 g1 o1 hk1 h4 hn1 j
   have h4 : matrix_reduce_L0 k1 l1 = some o1 := h4
   unfold matrix_reduce_L0 at h4
   refine wh_seq ?_
   refine wh_region ?_
   refine w_p Tb_ok 1 kr ?_
   refine wi_end kr ?_
   refine qh_then ?_
   refine wh_seq ?_
   refine h_ct (b := (decide (((k1 : Nat) : Int) < ((r1.length : Nat) : Int)))) (rgT hk1) kr ?_
   refine wh_skip ?_
   refine qh_then ?_
   refine wh_seq ?_
   refine wh_block ?_
   refine wh_seq ?_
   refine wh_region ?_
   refine w_p Tb_ok 1 kr ?_
   obtain ⟨x2, ex2, h5⟩ := bnd h4
   refine w_ix (k := .i64) (half_hdI (inP 1 rfl)) (nbd ex2) rfl kr ts_27 ti_30 ?_
   refine w_ldHf 1 rfl ex2 kr ti_30 (fun v1 => ?_)
   refine w_p Tb_ok 2 kr ?_
   refine wi_end kr ?_
   refine qh_then ?_
   obtain ⟨r3, er3, h6⟩ := bnd h5
   obtain ⟨l3, el3, h7⟩ := bnd h6
   refine h_flow [0, 1, 3, 7, 0, 0, 32, 127, 255] ⟨3, [0, 0, 0, 0, 0, 0, 1, 0, 1], [(8, [(7, 0), (0, 2)])], [(3, [(0, 1)]), (7, [(0, 2)])], [(6, [(0, 0)])]⟩ (fun γ => [(.pointer (some ⟨b1, 0, none⟩)), (.pointer (some ⟨b1, 0, none⟩)), .pointer (some ⟨b1, 1, none⟩), w1, .int .i64 ((k1 : Nat) : Int), v1, (γ 6 0), .pointer (some (elV w1 (k1 * (Kd.sl Kd.u64).size))), undef]) (fun i γ => match i with | 6 => [ownV Kd.u64 22 (γ 6 0) r3] | 8 => [halfV Kd.u64 22 30 w1 ((tg g1).set k1 (γ 6 0)) l3 (k1 + 1) r1.length] | _ => []) (fun γ => [rdV Kd.u64 v1 x2, blkP (.pointer (some ⟨b1, 0, none⟩)) 198 [.int .u64 p_p, w1, (.slice none 0 0), .int .u64 ((1 : Nat) : Int)], halfV Kd.u64 22 30 w1 ((tg g1).set k1 (γ 6 0)) l3 (k1 + 1) r1.length] ++ F) [0, 1, 2, 4, 5] tryd_mix Tb_ok kr kr (fun _ => by kernel_rfl) (fun _ => by kernel_rfl) (fun _ => by kernel_rfl) (fun _ => by kernel_rfl) (fun _ => by kernel_rfl) (fun _ => by kernel_rfl) (fun _ => by kernel_rfl) ?_ ?_
   ·
    refine ⟨?_, ?_, ?_, ?_, trivial⟩
    ·
     intro γ F
     refine WI.reH (H' := [blkP (.pointer (some ⟨b1, 0, none⟩)) 198 [.int .u64 p_p, w1, (.slice none 0 0), .int .u64 ((1 : Nat) : Int)]] ++ F) kr ?_
     refine w_ldB 0 1 rfl kr ti_27 rfl rfl ?_
     exact wE (gl []) [(0, false)] 0
    ·
     intro γ F
     refine WI.reH (H' := [rdV Kd.u64 v1 x2] ++ F) kr ?_
     refine w_fn [(0, true)] (c_slices_Clone_Luint64_uint64 er3) rfl fok_138 kr ?_
     rintro _ _ ⟨w2, hv, rfl⟩; have hv := hv.symm; subst hv
     exact wE (gl [w2]) [(0, false)] 1
    ·
     intro γ F
     refine WI.reH (H' := [halfV Kd.u64 22 30 w1 (tg g1) l1 k1 r1.length] ++ F) kr ?_
     refine w_ix (k := .i64) (half_hdI (inP 0 rfl)) (nbd ex2) rfl kr ts_27 ti_30 ?_
     exact wE (gl []) [(0, false)] 0
    ·
     intro γ F
     refine WI.reH (H' := [ownV Kd.u64 22 (γ 6 0) r3, halfV Kd.u64 22 30 w1 (tg g1) l1 k1 r1.length] ++ F) kr ?_
     refine w_stHf (w := (γ 6 0)) 0 0 rfl rfl (nbd ex2) (sinj el3) (cvS (own_hd 0 rfl)) (sl_one (own_hd 0 rfl)) kr ti_30 ?_
     exact wE (gl []) [(0, false)] 0
   ·
    intro γ1
    refine qh_block_normal ?_
    refine qh_then ?_
    refine wh_region ?_
    refine w_bi (zinc hk1 hN1) kr ?_
    refine w_p Tb_ok 1 kr ?_
    refine wi_end kr ?_
    have h7 := Option.some.inj h7; subst h7
    exact q_rs (tw w1 ((tg g1).set k1 (γ1 6 0))) hn1 aK (tH [(1, false), (1, false)] 1)
 ·
  rintro g2 - j
  refine qh_then ?_
  refine wh_seq ?_
  refine wh_seq ?_
  refine wh_region ?_
  refine w_p Tb_ok 2 kr ?_
  refine wi_end kr ?_
  refine qh_then ?_
  refine WH.ent (ownNil (kd := Kd.i64) (e := 3)) ?_
  obtain ⟨u2, eu2, h8⟩ := bnd h3
  have hN2 := ckN_some eu2
  obtain ⟨⟨l6, l7, x5⟩, el2, h9⟩ := bnd h8
  refine h_join (X := Value × Value) (fun g => [(7, (.pointer (some ⟨b1, 0, none⟩)))]) (fun g => [blkP (.pointer (some ⟨b1, 0, none⟩)) 198 [.int .u64 p_p, (th g.1), g.2, .int .u64 x5], treeV (rowK Kd.u64 22) 30 (th g.1) (tg g.1) l6, ownV Kd.i64 3 g.2 l7] ++ F) (fun _ => True) ?_ ?_
  ·
   refine wh_block ?_
   refine h_rs (fun (k2 : Nat) (st : (List (List Nat)) × (List Int) × Nat) (g : Value × Value) => [(0, .int .u64 p_p), (7, (.pointer (some ⟨b1, 0, none⟩))), (47, .int .i64 p_columns), (48, .int .i64 ((k2 : Nat) : Int))]) (fun (k2 : Nat) (st : (List (List Nat)) × (List Int) × Nat) (g : Value × Value) => [blkP (.pointer (some ⟨b1, 0, none⟩)) 198 [.int .u64 p_p, (th g.1), g.2, .int .u64 st.2.2], treeV (rowK Kd.u64 22) 30 (th g.1) (tg g.1) st.1, ownV Kd.i64 3 g.2 st.2.1] ++ F) ((tw w1 (tg g2)), (.slice none 0 0)) el2 (Nat.le_max_left ..) aK (tH [(1, false), (1, false), (0, false)] 0) ?_ ?_
   ·
    rintro ⟨g8, g9⟩ j
    refine wh_seq ?_
    refine wh_region ?_
    refine w_p Tb_ok 1 kr ?_
    refine wi_end kr ?_
    refine qh_then ?_
    refine wh_seq ?_
    refine h_cf (b := (decide ((((max 0 (p_columns).toNat) : Nat) : Int) < p_columns))) rgLF kr ?_
    refine wh_exit ?_
    refine qh_then_exit ?_
    refine q_rzX ?_
    refine qh_block_exit ?_
    exact q_join ((tw (th g8) (tg g8)), g9) trivial aK (tH [(0, false), (0, false), (0, false)] 0)
   ·
    rintro rem k2 ⟨l4, l5, x3⟩ ⟨g4, g5⟩ o2 hk2 h10 hn2 j
    have h10 : matrix_reduce_L1 p_p k2 l4 l5 x3 = some o2 := h10
    unfold matrix_reduce_L1 at h10
    refine wh_seq ?_
    refine wh_region ?_
    refine w_p Tb_ok 1 kr ?_
    refine wi_end kr ?_
    refine qh_then ?_
    refine wh_seq ?_
    refine h_ct (b := (decide (((k2 : Nat) : Int) < p_columns))) (rgLT hk2) kr ?_
    refine wh_skip ?_
    refine qh_then ?_
    refine wh_seq ?_
    refine wh_block ?_
    refine wh_seq ?_
    refine wh_region ?_
    refine w_p Tb_ok 2 kr ?_
    refine wi_end kr ?_
    refine qh_then ?_
    refine wh_seq ?_
    refine wh_region ?_
    refine w_p Tb_ok 3 kr ?_
    refine w_ldB 0 2 rfl kr ti_25 rfl rfl ?_
    refine w_len (own_hd 2 rfl) kr ts_25 ?_
    refine w_p Tb_ok 1 kr ?_
    refine wi_end kr ?_
    refine qh_then ?_
    refine wh_seq ?_
    refine wh_region ?_
    refine w_p Tb_ok 1 kr ?_
    refine wi_end kr ?_
    refine qh_then ?_
    refine wh_seq ?_
    refine wh_seq ?_
    refine wh_region ?_
    refine w_p Tb_ok 2 kr ?_
    refine wi_end kr ?_
    refine qh_then ?_
    obtain ⟨x9, el3, h11⟩ := bnd h10
    refine h_join (X := Value) (fun g => [(0, .int .u64 p_p), (7, (.pointer (some ⟨b1, 0, none⟩))), (10, .int .i64 ((k2 : Nat) : Int)), (11, .int .i64 ((l5.length : Nat) : Int)), (12, .int .i64 x9), (47, .int .i64 p_columns), (48, .int .i64 ((k2 : Nat) : Int))]) (fun g => [blkP (.pointer (some ⟨b1, 0, none⟩)) 198 [.int .u64 p_p, (th g), g5, .int .u64 x3], treeV (rowK Kd.u64 22) 30 (th g) (tg g) l4, ownV Kd.i64 3 g5 l5] ++ F) (fun _ => True) ?_ ?_
    ·
     refine wh_block ?_
     refine h_lp (fun (st : Int × Int) (g : Unit) => [(0, .int .u64 p_p), (7, (.pointer (some ⟨b1, 0, none⟩))), (10, .int .i64 ((k2 : Nat) : Int)), (11, .int .i64 ((l5.length : Nat) : Int)), (12, .int .i64 st.1), (13, .int .i64 st.2), (47, .int .i64 p_columns), (48, .int .i64 ((k2 : Nat) : Int))]) (fun (st : Int × Int) (g : Unit) => [blkP (.pointer (some ⟨b1, 0, none⟩)) 198 [.int .u64 p_p, (th g4), g5, .int .u64 x3], treeV (rowK Kd.u64 22) 30 (th g4) (tg g4) l4, ownV Kd.i64 3 g5 l5] ++ F) () el3 aK (tH [(0, false), (0, false), (0, false)] 0) ?_
     rintro kk ⟨x6, x7⟩ ⟨⟩ o3 h12 hn3 j
     have h12 : matrix_reduce_L2 l4 k2 x6 x7 = some o3 := h12
     unfold matrix_reduce_L2 at h12
     refine wh_seq ?_
     refine wh_seq ?_
     obtain ⟨x10, ej1, h13⟩ := bnd h12
     refine h_join (X := Unit) (fun g => [(0, .int .u64 p_p), (7, (.pointer (some ⟨b1, 0, none⟩))), (10, .int .i64 ((k2 : Nat) : Int)), (11, .int .i64 ((l5.length : Nat) : Int)), (12, .int .i64 x6), (13, .int .i64 x7), (47, .int .i64 p_columns), (48, .int .i64 ((k2 : Nat) : Int)), (67, .bool x10)]) (fun g => [blkP (.pointer (some ⟨b1, 0, none⟩)) 198 [.int .u64 p_p, (th g4), g5, .int .u64 x3], treeV (rowK Kd.u64 22) 30 (th g4) (tg g4) l4, ownV Kd.i64 3 g5 l5] ++ F) (fun _ => True) ?_ ?_
     ·
      refine wh_region ?_
      refine w_p Tb_ok 4 kr ?_
      refine w_ldB 0 1 rfl kr ti_27 rfl rfl ?_
      refine w_len (tree_hdI (inP 1 rfl)) kr ts_27 ?_
      refine w_p Tb_ok 2 kr ?_
      rcases bcase ej1 with ⟨t1, h14⟩ | ⟨t1, h14⟩
      ·
       refine w_kb (t := 64) t1 kr ?_
       refine w_p Tb_ok 3 kr ?_
       refine wi_end kr ?_
       cases h14
       exact q_join () trivial aK (tH [(0, false), (0, false), (0, false)] 0)
      ·
       refine w_kb (t := 64) t1 kr ?_
       refine w_p Tb_ok 3 kr ?_
       refine wi_end kr ?_
       cases h14
       exact q_join () trivial aK (tH [(0, false), (0, false), (0, false)] 0)
     ·
      rintro ⟨⟩ - j
      refine qh_then ?_
      rcases bcase h13 with ⟨t2, h15⟩ | ⟨t2, h15⟩
      ·
       refine h_ct (b := x10) t2 kr ?_
       refine wh_skip ?_
       refine qh_then ?_
       refine wh_seq ?_
       refine wh_block ?_
       refine wh_seq ?_
       refine wh_region ?_
       refine w_p Tb_ok 3 kr ?_
       refine w_ldB 0 1 rfl kr ti_27 rfl rfl ?_
       refine w_p Tb_ok 1 kr ?_
       obtain ⟨x11, ex11, h16⟩ := bnd h15
       refine w_ix (k := .i64) (tree_hdI (inP 1 rfl)) (ib ex11) (iz ex11) kr ts_27 ti_30 ?_
       refine w_ldN rs_row (inP 1 rfl) (ig ex11) kr ti_30 (fun g12 => ?_)
       refine w_p Tb_ok 1 kr ?_
       obtain ⟨x12, ex12, h17⟩ := bnd h16
       refine w_ix (k := .i64) (hdI 1 rfl) (nbd ex12) rfl kr ts_30 ti_22 ?_
       refine WI.fact 0 rfl (fun hg1 => ?_)
       refine w_ldI (kd := Kd.u64) (e := 22) (v := g12) (xs := x11) (m := k2) 0 (inRow (R := (rowK Kd.u64 22)) (inP 3 rfl) hg1 (ig ex11)) ex12 kr ti_22 rfl rfl ?_
       rintro _
       refine w_p Tb_ok 1 kr ?_
       refine wi_end kr ?_
       refine qh_then ?_
       rcases bcase h17 with ⟨t3, h18⟩ | ⟨t3, h18⟩
       ·
        refine h_ct (b := (((x12 : Nat) : Int) != (0 : Int))) t3 kr ?_
        refine wh_region ?_
        refine w_p Tb_ok 2 kr ?_
        refine wi_end kr ?_
        refine qh_block_normal ?_
        refine qh_then ?_
        refine wh_region ?_
        refine w_p Tb_ok 1 kr ?_
        obtain ⟨x13, ex13, h19⟩ := bnd h18
        refine w_bi (zaddI ex13) kr ?_
        refine w_p Tb_ok 1 kr ?_
        refine wi_end kr ?_
        have h19 := Option.some.inj h19; subst h19
        exact q_go () hn3 aK (tH [(2, false), (2, false), (2, false)] 2)
       ·
        refine h_cf (b := (((x12 : Nat) : Int) != (0 : Int))) t3 kr ?_
        refine wh_skip ?_
        refine qh_block_normal ?_
        refine qh_then ?_
        refine wh_region ?_
        refine w_p Tb_ok 1 kr ?_
        obtain ⟨x14, ex14, h20⟩ := bnd h18
        refine w_bi (zaddI ex14) kr ?_
        refine w_p Tb_ok 1 kr ?_
        refine wi_end kr ?_
        have h20 := Option.some.inj h20; subst h20
        exact q_go () hn3 aK (tH [(2, false), (2, false), (2, false)] 2)
      ·
       refine h_cf (b := x10) t2 kr ?_
       refine wh_exit ?_
       refine qh_then_exit ?_
       refine q_lpX ?_
       refine qh_block_exit ?_
       have h15 := Option.some.inj h15; subst h15
       cases (show _ = _ from hn3)
       exact q_join (tw (th g4) (tg g4)) trivial aK (tH [(0, false), (0, false), (0, false)] 0)
    ·
     rintro g11 - j
     refine qh_then ?_
     refine wh_seq ?_
     refine wh_seq ?_
     refine wh_region ?_
     refine w_p Tb_ok 2 kr ?_
     refine wi_end kr ?_
     refine qh_then ?_
     rcases bcase h11 with ⟨t4, h21⟩ | ⟨t4, h21⟩
     ·
      refine h_ct (b := (decide (x9 < (0 : Int)))) t4 kr ?_
      refine wh_exit ?_
      refine qh_then_exit ?_
      refine qh_block_exit ?_
      refine qh_then ?_
      refine wh_region ?_
      refine w_bi (zinc hk2 hN2) kr ?_
      refine w_p Tb_ok 1 kr ?_
      refine wi_end kr ?_
      have h21 := Option.some.inj h21; subst h21
      exact q_rs ((tw (th g11) (tg g11)), g5) hn2 aK (tH [(0, false), (0, false), (0, false)] 0)
     ·
      refine h_cf (b := (decide (x9 < (0 : Int)))) t4 kr ?_
      refine wh_skip ?_
      refine qh_then ?_
      refine wh_seq ?_
      refine wh_seq ?_
      refine wh_region ?_
      refine w_p Tb_ok 3 kr ?_
      refine wi_end kr ?_
      refine qh_then ?_
      obtain ⟨⟨l8, x15⟩, ej2, h22⟩ := bnd h21
      refine h_join (X := Value) (fun g => [(0, .int .u64 p_p), (7, (.pointer (some ⟨b1, 0, none⟩))), (10, .int .i64 ((k2 : Nat) : Int)), (11, .int .i64 ((l5.length : Nat) : Int)), (47, .int .i64 p_columns), (48, .int .i64 ((k2 : Nat) : Int))]) (fun g => [blkP (.pointer (some ⟨b1, 0, none⟩)) 198 [.int .u64 p_p, (th g), g5, .int .u64 x15], treeV (rowK Kd.u64 22) 30 (th g) (tg g) l8, ownV Kd.i64 3 g5 l5] ++ F) (fun _ => True) ?_ ?_
      ·
       rcases bcase ej2 with ⟨t5, h23⟩ | ⟨t5, h23⟩
       ·
        refine h_ct (b := (x9 != ((l5.length : Nat) : Int))) t5 kr ?_
        refine wh_seq ?_
        refine WH.ent (hd_add (tree_hdI (inP 1 rfl))) ?_
        refine WH.ent (hd_add (own_hd 3 rfl)) ?_
        obtain ⟨x16, ex16, h24⟩ := bnd h23
        obtain ⟨x17, ex17, h25⟩ := bnd h24
        obtain ⟨l9, el9, h26⟩ := bnd h25
        refine h_flow [0, 1, 3, 7, 0, 0, 32, 96, 224, 0, 0, 1024, 3072, 7168, 0, 31744, 64512, 0, 131072, 393216, 917504, 0, 4063232, 8257536, 16776703, 33553919, 67108863, 134217727] ⟨5, [0, 0, 0, 0, 0, 0, 0, 0, 0, 0, 0, 0, 0, 0, 0, 0, 2, 0, 0, 0, 0, 0, 0, 2, 0, 1, 0, 1], [(25, [(0, 3)]), (27, [(26, 0)])], [(3, [(0, 2)]), (8, [(0, 2)]), (13, [(0, 2)]), (16, [(0, 3)]), (20, [(0, 2)]), (23, [(0, 3)])], [(15, [(0, 1)]), (22, [(0, 1)]), (24, [(0, 1)]), (25, [(17, 1)]), (26, [(0, 1)]), (27, [(24, 0), (24, 1), (17, 0)])]⟩ (fun γ => [(.pointer (some ⟨b1, 0, none⟩)), (.pointer (some ⟨b1, 0, none⟩)), .pointer (some ⟨b1, 1, none⟩), (th g11), .int .i64 x9, (.pointer (some ⟨b1, 0, none⟩)), (.pointer (some ⟨b1, 0, none⟩)), .pointer (some ⟨b1, 1, none⟩), (th g11), .int .i64 ((l5.length : Nat) : Int), (.pointer (some ⟨b1, 0, none⟩)), (.pointer (some ⟨b1, 0, none⟩)), .pointer (some ⟨b1, 1, none⟩), (th g11), .int .i64 ((l5.length : Nat) : Int), .pointer (some (elV (th g11) (l5.length * 1))), (γ 16 0), (.pointer (some ⟨b1, 0, none⟩)), (.pointer (some ⟨b1, 0, none⟩)), .pointer (some ⟨b1, 1, none⟩), (th g11), .int .i64 x9, .pointer (some (elV (th g11) (x9.toNat * 1))), (γ 23 0), .pointer (some (elV (th g11) (x9.toNat * 1))), undef, .pointer (some (elV (th g11) (l5.length * 1))), undef]) (fun i γ => match i with | 16 => [fact ((tg g11)[l5.length]? = some (γ 16 0)), hdP (γ 16 0) x16.length] | 23 => [fact ((tg g11)[x9.toNat]? = some (γ 23 0)), hdP (γ 23 0) x17.length] | 25 => [limboV (rowK Kd.u64 22) 30 (th g11) (((tg g11).map ((rowK Kd.u64 22) : RK (List Nat)).hd).set x9.toNat (γ 16 0)) (tg g11) l4] | 27 => [treeV (rowK Kd.u64 22) 30 (th g11) (((tg g11).set x9.toNat (γ 16 0)).set l5.length (γ 23 0)) l9] | _ => []) (fun γ => [hdP g5 l5.length, hdP (th g11) l4.length, blkP (.pointer (some ⟨b1, 0, none⟩)) 198 [.int .u64 p_p, (th g11), g5, .int .u64 x3], ownV Kd.i64 3 g5 l5, fact ((tg g11)[l5.length]? = some (γ 16 0)), hdP (γ 16 0) x16.length, fact ((tg g11)[x9.toNat]? = some (γ 23 0)), hdP (γ 23 0) x17.length, treeV (rowK Kd.u64 22) 30 (th g11) (((tg g11).set x9.toNat (γ 16 0)).set l5.length (γ 23 0)) l9] ++ F) [0, 1, 2, 4, 5, 6, 7, 9, 10, 11, 12, 14, 17, 18, 19, 21] tryd_mix Tb_ok kr kr (fun _ => by kernel_rfl) (fun _ => by kernel_rfl) (fun _ => by kernel_rfl) (fun _ => by kernel_rfl) (fun _ => by kernel_rfl) (fun _ => by kernel_rfl) (fun _ => by kernel_rfl) ?_ ?_
        ·
         refine ⟨?_, ?_, ?_, ?_, ?_, ?_, ?_, ?_, ?_, ?_, ?_, ?_, trivial⟩
         ·
          intro γ F
          refine WI.reH (H' := [blkP (.pointer (some ⟨b1, 0, none⟩)) 198 [.int .u64 p_p, (th g11), g5, .int .u64 x3]] ++ F) kr ?_
          refine w_ldB 0 1 rfl kr ti_27 rfl rfl ?_
          exact wE (gl []) [(0, false)] 0
         ·
          intro γ F
          refine WI.reH (H' := [blkP (.pointer (some ⟨b1, 0, none⟩)) 198 [.int .u64 p_p, (th g11), g5, .int .u64 x3]] ++ F) kr ?_
          refine w_ldB 0 1 rfl kr ti_27 rfl rfl ?_
          exact wE (gl []) [(0, false)] 0
         ·
          intro γ F
          refine WI.reH (H' := [blkP (.pointer (some ⟨b1, 0, none⟩)) 198 [.int .u64 p_p, (th g11), g5, .int .u64 x3]] ++ F) kr ?_
          refine w_ldB 0 1 rfl kr ti_27 rfl rfl ?_
          exact wE (gl []) [(0, false)] 0
         ·
          intro γ F
          refine WI.reH (H' := [hdP (th g11) l4.length] ++ F) kr ?_
          refine w_ix (k := .i64) (hdI 0 rfl) (nbd ex16) rfl kr ts_27 ti_30 ?_
          exact wE (gl []) [] 1
         ·
          intro γ F
          refine WI.reH (H' := [treeV (rowK Kd.u64 22) 30 (th g11) (tg g11) l4] ++ F) kr ?_
          refine w_ldN rs_row (inP 0 rfl) ex16 kr ti_30 (fun g14 => ?_)
          exact wE (gl [g14]) [(0, true), (1, true), (2, false)] 2
         ·
          intro γ F
          refine WI.reH (H' := [blkP (.pointer (some ⟨b1, 0, none⟩)) 198 [.int .u64 p_p, (th g11), g5, .int .u64 x3]] ++ F) kr ?_
          refine w_ldB 0 1 rfl kr ti_27 rfl rfl ?_
          exact wE (gl []) [(0, false)] 0
         ·
          intro γ F
          refine WI.reH (H' := [hdP (th g11) l4.length] ++ F) kr ?_
          refine w_ix (k := .i64) (hdI 0 rfl) (ib ex17) (iz ex17) kr ts_27 ti_30 ?_
          exact wE (gl []) [] 1
         ·
          intro γ F
          refine WI.reH (H' := [treeV (rowK Kd.u64 22) 30 (th g11) (tg g11) l4] ++ F) kr ?_
          refine w_ldN rs_row (inP 0 rfl) (ig ex17) kr ti_30 (fun g15 => ?_)
          exact wE (gl [g15]) [(0, true), (1, true), (2, false)] 2
         ·
          intro γ F
          refine WI.reH (H' := [hdP (th g11) l4.length] ++ F) kr ?_
          refine w_ix (k := .i64) (hdI 0 rfl) (ib ex17) (iz ex17) kr ts_27 ti_30 ?_
          exact wE (gl []) [] 1
         ·
          intro γ F
          refine WI.reH (H' := [treeV (rowK Kd.u64 22) 30 (th g11) (tg g11) l4, hdP (γ 16 0) x16.length] ++ F) kr ?_
          refine WI.ent (tr_limbo 0 rfl) ?_
          refine w_stL (m := x9.toNat) 0 rfl (ig ex17) (cvS (hdI 1 rfl)) (sl_one (hdI 1 rfl)) kr ti_30 ?_
          exact wE (gl []) [(0, false)] 1
         ·
          intro γ F
          refine WI.reH (H' := [hdP (th g11) l4.length] ++ F) kr ?_
          refine w_ix (k := .i64) (hdI 0 rfl) (nbd ex16) rfl kr ts_27 ti_30 ?_
          exact wE (gl []) [] 1
         ·
          intro γ F
          refine WI.reH (H' := [limboV (rowK Kd.u64 22) 30 (th g11) (((tg g11).map ((rowK Kd.u64 22) : RK (List Nat)).hd).set x9.toNat (γ 16 0)) (tg g11) l4, fact ((tg g11)[x9.toNat]? = some (γ 23 0)), hdP (γ 23 0) x17.length, fact ((tg g11)[l5.length]? = some (γ 16 0))] ++ F) kr ?_
          refine w_stL (m := l5.length) 0 rfl ex16 (cvS (hdI 2 rfl)) (sl_one (hdI 2 rfl)) kr ti_30 ?_
          refine WI.fact 1 rfl (fun hg2 => ?_)
          refine WI.fact 3 rfl (fun hg3 => ?_)
          refine WI.ent (limbo_swap (R := (rowK Kd.u64 22)) (a := x9.toNat) (b := l5.length) (ga := (γ 23 0)) (gb := (γ 16 0)) 0 rfl hg2 hg3 (ig ex17) ex16 (sinj el9)) ?_
          exact wE (gl []) [(0, false)] 3
        ·
         intro γ2
         refine qh_then ?_
         refine wh_region ?_
         refine w_p Tb_ok 5 kr ?_
         refine w_ldB 2 3 rfl kr ti_22 rfl rfl ?_
         obtain ⟨r6, er6, h27⟩ := bnd h26
         refine w_fn [] (c_field_Neg er6) rfl fok_116 kr ?_
         rintro _ _ ⟨hv, rfl⟩; have hv := hv.symm; subst hv
         refine w_p Tb_ok 2 kr ?_
         refine w_stB (v := .int .u64 r6) (off := 3) (cs := [.int .u64 r6]) 2 rfl (cv0 kr) kr ti_22 rfl rfl (oC (fun _ _ => rfl) oN) ?_
         refine WI.hd (y := blkP (.pointer (some ⟨b1, 0, none⟩)) 198 [.int .u64 p_p, (th g11), g5, .int .u64 r6]) kr ?_
         refine wi_end kr ?_
         cases h27
         exact q_join (tw (th g11) (((tg g11).set x9.toNat (γ2 16 0)).set l5.length (γ2 23 0))) trivial aK (tH [(0, false), (7, false), (2, false)] 6)
       ·
        refine h_cf (b := (x9 != ((l5.length : Nat) : Int))) t5 kr ?_
        refine wh_skip ?_
        cases h23
        exact q_join (tw (th g11) (tg g11)) trivial aK (tH [(0, false), (0, false), (0, false)] 0)
      ·
       rintro g13 - j
       refine qh_then ?_
       refine wh_seq ?_
       refine WH.ent (hd_add (tree_hdI (inP 1 rfl))) ?_
       obtain ⟨x18, ex18, h28⟩ := bnd h22
       obtain ⟨x19, ex19, h29⟩ := bnd h28
       obtain ⟨r7, er7, h30⟩ := bnd h29
       refine h_flow [0, 0, 0, 4, 12, 28, 0, 64, 192, 448, 0, 1984, 4032, 0, 16320, 32704, 65534, 131071, 262143, 524287] ⟨4, [0, 0, 0, 0, 0, 0, 0, 0, 0, 0, 0, 0, 2, 0, 0, 0, 0, 0, 0, 1], [(19, [(0, 1)])], [(5, [(0, 1)]), (9, [(0, 1)]), (12, [(0, 2)]), (15, [(0, 2)])], [(11, [(0, 0)]), (14, [(13, 1)]), (15, [(13, 0)])]⟩ (fun γ => [(.pointer (some ⟨b1, 0, none⟩)), .int .u64 p_p, (.pointer (some ⟨b1, 0, none⟩)), (.pointer (some ⟨b1, 0, none⟩)), .pointer (some ⟨b1, 3, none⟩), .int .u64 x15, (.pointer (some ⟨b1, 0, none⟩)), (.pointer (some ⟨b1, 0, none⟩)), .pointer (some ⟨b1, 1, none⟩), (th g13), .int .i64 ((l5.length : Nat) : Int), .pointer (some (elV (th g13) (l5.length * 1))), (γ 12 0), .int .i64 ((k2 : Nat) : Int), .pointer (some (elV (γ 12 0) (k2 * Kd.u64.size))), .int .u64 x19, .int .u64 r7, (.pointer (some ⟨b1, 0, none⟩)), .pointer (some ⟨b1, 3, none⟩), undef]) (fun i γ => match i with | 12 => [fact ((tg g13)[l5.length]? = some (γ 12 0)), hdP (γ 12 0) x18.length] | 19 => [blkP (.pointer (some ⟨b1, 0, none⟩)) 198 [.int .u64 p_p, (th g13), g5, .int .u64 r7]] | _ => []) (fun γ => [hdP (th g13) l8.length, treeV (rowK Kd.u64 22) 30 (th g13) (tg g13) l8, ownV Kd.i64 3 g5 l5, fact ((tg g13)[l5.length]? = some (γ 12 0)), hdP (γ 12 0) x18.length, blkP (.pointer (some ⟨b1, 0, none⟩)) 198 [.int .u64 p_p, (th g13), g5, .int .u64 r7]] ++ F) [0, 1, 2, 3, 4, 6, 7, 8, 10, 13, 17, 18] tryd_mix Tb_ok kr kr (fun _ => by kernel_rfl) (fun _ => by kernel_rfl) (fun _ => by kernel_rfl) (fun _ => by kernel_rfl) (fun _ => by kernel_rfl) (fun _ => by kernel_rfl) (fun _ => by kernel_rfl) ?_ ?_
       ·
        refine ⟨?_, ?_, ?_, ?_, ?_, ?_, ?_, ?_, trivial⟩
        ·
         intro γ F
         refine WI.reH (H' := [blkP (.pointer (some ⟨b1, 0, none⟩)) 198 [.int .u64 p_p, (th g13), g5, .int .u64 x15]] ++ F) kr ?_
         refine w_ldB 0 3 rfl kr ti_22 rfl rfl ?_
         exact wE (gl []) [(0, false)] 0
        ·
         intro γ F
         refine WI.reH (H' := [blkP (.pointer (some ⟨b1, 0, none⟩)) 198 [.int .u64 p_p, (th g13), g5, .int .u64 x15]] ++ F) kr ?_
         refine w_ldB 0 1 rfl kr ti_27 rfl rfl ?_
         exact wE (gl []) [(0, false)] 0
        ·
         intro γ F
         refine WI.reH (H' := [hdP (th g13) l8.length] ++ F) kr ?_
         refine w_ix (k := .i64) (hdI 0 rfl) (nbd ex18) rfl kr ts_27 ti_30 ?_
         exact wE (gl []) [] 1
        ·
         intro γ F
         refine WI.reH (H' := [treeV (rowK Kd.u64 22) 30 (th g13) (tg g13) l8] ++ F) kr ?_
         refine w_ldN rs_row (inP 0 rfl) ex18 kr ti_30 (fun g16 => ?_)
         exact wE (gl [g16]) [(0, true), (1, true), (2, false)] 2
        ·
         intro γ F
         refine WI.reH (H' := [hdP (γ 12 0) x18.length] ++ F) kr ?_
         refine w_ix (k := .i64) (hdI 0 rfl) (nbd ex19) rfl kr ts_30 ti_22 ?_
         exact wE (gl []) [] 1
        ·
         intro γ F
         refine WI.reH (H' := [treeV (rowK Kd.u64 22) 30 (th g13) (tg g13) l8, fact ((tg g13)[l5.length]? = some (γ 12 0))] ++ F) kr ?_
         refine WI.fact 1 rfl (fun hg4 => ?_)
         refine w_ldI (kd := Kd.u64) (e := 22) (v := (γ 12 0)) (xs := x18) (m := k2) 0 (inRow (R := (rowK Kd.u64 22)) (inP 0 rfl) hg4 ex18) ex19 kr ti_22 rfl rfl ?_
         rintro _
         exact wE (gl []) [(0, false)] 1
        ·
         intro γ F
         refine WI.reH (H' := [] ++ F) kr ?_
         refine w_fn [] (c_field_Mul er7) rfl fok_87 kr ?_
         rintro _ _ ⟨hv, rfl⟩; have hv := hv.symm; subst hv
         exact wE (gl []) [] 0
        ·
         intro γ F
         refine WI.reH (H' := [blkP (.pointer (some ⟨b1, 0, none⟩)) 198 [.int .u64 p_p, (th g13), g5, .int .u64 x15]] ++ F) kr ?_
         refine w_stB (v := .int .u64 r7) (off := 3) (cs := [.int .u64 r7]) 0 rfl (cv0 kr) kr ti_22 rfl rfl (oC (fun _ _ => rfl) oN) ?_
         refine WI.hd (y := blkP (.pointer (some ⟨b1, 0, none⟩)) 198 [.int .u64 p_p, (th g13), g5, .int .u64 r7]) kr ?_
         exact wE (gl []) [(0, false)] 0
       ·
        intro γ3
        refine qh_then ?_
        refine wh_seq ?_
        refine wh_region ?_
        refine w_p Tb_ok 4 kr ?_
        refine w_ldB 5 1 rfl kr ti_27 rfl rfl ?_
        refine w_p Tb_ok 1 kr ?_
        refine w_ix (k := .i64) (tree_hdI (inP 1 rfl)) (nbd ex18) rfl kr ts_27 ti_30 ?_
        refine WI.fact 3 rfl (fun hg5 => ?_)
        refine w_ldG (m := l5.length) (inOut (inP 1 rfl)) hg5 kr ti_30 ?_
        refine w_p Tb_ok 1 kr ?_
        refine w_ix (k := .i64) (hdI 4 rfl) (nbd ex19) rfl kr ts_30 ti_22 ?_
        refine WI.fact 3 rfl (fun hg6 => ?_)
        refine w_ldI (kd := Kd.u64) (e := 22) (v := (γ3 12 0)) (xs := x18) (m := k2) 0 (inRow (R := (rowK Kd.u64 22)) (inP 1 rfl) hg6 ex18) ex19 kr ti_22 rfl rfl ?_
        rintro _
        obtain ⟨r8, er8, h31⟩ := bnd h30
        refine w_fn [] (c_field_Inverse er8) rfl fok_128 kr ?_
        rintro _ _ ⟨hv, rfl⟩; have hv := hv.symm; subst hv
        refine w_p Tb_ok 5 kr ?_
        refine wi_end kr ?_
        refine qh_then ?_
        refine wh_seq ?_
        refine wh_seq ?_
        refine wh_region ?_
        refine w_p Tb_ok 3 kr ?_
        refine w_ldB 5 1 rfl kr ti_27 rfl rfl ?_
        refine w_p Tb_ok 1 kr ?_
        refine w_ix (k := .i64) (tree_hdI (inP 1 rfl)) (nbd ex18) rfl kr ts_27 ti_30 ?_
        refine WI.fact 3 rfl (fun hg7 => ?_)
        refine w_ldG (m := l5.length) (inOut (inP 1 rfl)) hg7 kr ti_30 ?_
        refine w_len (hdI 4 rfl) kr ts_30 ?_
        refine w_p Tb_ok 1 kr ?_
        refine wi_end kr ?_
        refine qh_then ?_
        obtain ⟨u3, eu3, h32⟩ := bnd h31
        have hN3 := ckN_some eu3
        obtain ⟨l11, el4, h33⟩ := bnd h32
        refine h_join (X := Unit) (fun g => [(0, .int .u64 p_p), (7, (.pointer (some ⟨b1, 0, none⟩))), (10, .int .i64 ((k2 : Nat) : Int)), (11, .int .i64 ((l5.length : Nat) : Int)), (47, .int .i64 p_columns), (48, .int .i64 ((k2 : Nat) : Int))]) (fun g => [blkP (.pointer (some ⟨b1, 0, none⟩)) 198 [.int .u64 p_p, (th g13), g5, .int .u64 r7], treeV (rowK Kd.u64 22) 30 (th g13) (tg g13) l11, ownV Kd.i64 3 g5 l5] ++ F) (fun _ => True) ?_ ?_
        ·
         refine wh_block ?_
         refine h_rs (fun (k3 : Nat) (st : (List (List Nat))) (g : Unit) => [(0, .int .u64 p_p), (7, (.pointer (some ⟨b1, 0, none⟩))), (10, .int .i64 ((k2 : Nat) : Int)), (11, .int .i64 ((l5.length : Nat) : Int)), (14, .int .u64 r8.1), (47, .int .i64 p_columns), (48, .int .i64 ((k2 : Nat) : Int)), (162, (γ3 12 0)), (163, .int .i64 ((x18.length : Nat) : Int)), (164, .int .i64 ((k3 : Nat) : Int))]) (fun (k3 : Nat) (st : (List (List Nat))) (g : Unit) => [blkP (.pointer (some ⟨b1, 0, none⟩)) 198 [.int .u64 p_p, (th g13), g5, .int .u64 r7], treeV (rowK Kd.u64 22) 30 (th g13) (tg g13) st, ownV Kd.i64 3 g5 l5, fact ((tg g13)[l5.length]? = some (γ3 12 0)), hdP (γ3 12 0) x18.length] ++ F) () el4 (Nat.zero_le _) aK (tH [(5, false), (1, false), (1, false), (1, true), (2, true)] 3) ?_ ?_
         ·
          rintro ⟨⟩ j
          refine wh_seq ?_
          refine wh_region ?_
          refine w_p Tb_ok 1 kr ?_
          refine wi_end kr ?_
          refine qh_then ?_
          refine wh_seq ?_
          refine h_cf (b := (decide ((((x18.length) : Nat) : Int) < ((x18.length : Nat) : Int)))) rgF kr ?_
          refine wh_exit ?_
          refine qh_then_exit ?_
          refine q_rzX ?_
          refine qh_block_exit ?_
          exact q_join () trivial aK (tH [(0, false), (0, false), (0, false)] 2)
         ·
          rintro rem k3 l10 ⟨⟩ o4 hk3 h34 hn4 j
          have h34 : matrix_reduce_L3 p_p l5 x18 r8 k3 l10 = some o4 := h34
          unfold matrix_reduce_L3 at h34
          refine wh_seq ?_
          refine wh_region ?_
          refine w_p Tb_ok 1 kr ?_
          refine wi_end kr ?_
          refine qh_then ?_
          refine wh_seq ?_
          refine h_ct (b := (decide (((k3 : Nat) : Int) < ((x18.length : Nat) : Int)))) (rgT hk3) kr ?_
          refine wh_skip ?_
          refine qh_then ?_
          refine wh_seq ?_
          refine wh_block ?_
          refine wh_seq ?_
          refine wh_region ?_
          refine w_p Tb_ok 1 kr ?_
          obtain ⟨x21, ex21, h35⟩ := bnd h34
          refine w_ix (k := .i64) (hdI 4 rfl) (nbd ex21) rfl kr ts_30 ti_22 ?_
          refine WI.fact 3 rfl (fun hg8 => ?_)
          obtain ⟨x22, ex22, h36⟩ := bnd h35
          obtain ⟨x23, ex23, h37⟩ := bnd h36
          refine w_ldI (kd := Kd.u64) (e := 22) (v := (γ3 12 0)) (xs := x22) (m := k3) 0 (inRow (R := (rowK Kd.u64 22)) (inP 1 rfl) hg8 ex22) ex23 kr ti_22 rfl rfl ?_
          rintro _
          refine w_p Tb_ok 2 kr ?_
          refine wi_end kr ?_
          refine qh_then ?_
          refine WH.ent (hd_add (tree_hdI (inP 1 rfl))) ?_
          obtain ⟨r10, er10, h38⟩ := bnd h37
          obtain ⟨l12, el12, h39⟩ := bnd h38
          obtain ⟨l13, el13, h40⟩ := bnd h39
          refine h_flow [0, 1, 3, 7, 0, 31, 63, 0, 0, 0, 0, 1792, 4095, 8191] ⟨6, [0, 0, 0, 0, 0, 0, 0, 0, 0, 0, 0, 0, 0, 1], [(13, [(0, 2)])], [(3, [(0, 1)]), (6, [(0, 2)])], [(5, [(0, 0)]), (6, [(0, 4)]), (12, [(0, 5)]), (13, [(0, 4)])]⟩ (fun γ => [(.pointer (some ⟨b1, 0, none⟩)), (.pointer (some ⟨b1, 0, none⟩)), .pointer (some ⟨b1, 1, none⟩), (th g13), .int .i64 ((l5.length : Nat) : Int), .pointer (some (elV (th g13) (l5.length * 1))), (γ3 12 0), .int .i64 ((k3 : Nat) : Int), .int .u64 p_p, .int .u64 r8.1, .int .u64 x23, .int .u64 r10, .pointer (some (elV (γ3 12 0) (k3 * Kd.u64.size))), undef]) (fun i γ => match i with | 13 => [treeV (rowK Kd.u64 22) 30 (th g13) (tg g13) l13] | _ => []) (fun γ => [hdP (th g13) l10.length, blkP (.pointer (some ⟨b1, 0, none⟩)) 198 [.int .u64 p_p, (th g13), g5, .int .u64 r7], ownV Kd.i64 3 g5 l5, fact ((tg g13)[l5.length]? = some (γ3 12 0)), hdP (γ3 12 0) x18.length, treeV (rowK Kd.u64 22) 30 (th g13) (tg g13) l13] ++ F) [0, 1, 2, 4, 7, 8, 9, 10] tryd_mix Tb_ok kr kr (fun _ => by kernel_rfl) (fun _ => by kernel_rfl) (fun _ => by kernel_rfl) (fun _ => by kernel_rfl) (fun _ => by kernel_rfl) (fun _ => by kernel_rfl) (fun _ => by kernel_rfl) ?_ ?_
          ·
           refine ⟨?_, ?_, ?_, ?_, ?_, ?_, trivial⟩
           ·
            intro γ F
            refine WI.reH (H' := [blkP (.pointer (some ⟨b1, 0, none⟩)) 198 [.int .u64 p_p, (th g13), g5, .int .u64 r7]] ++ F) kr ?_
            refine w_ldB 0 1 rfl kr ti_27 rfl rfl ?_
            exact wE (gl []) [(0, false)] 0
           ·
            intro γ F
            refine WI.reH (H' := [hdP (th g13) l10.length] ++ F) kr ?_
            refine w_ix (k := .i64) (hdI 0 rfl) (nbd ex22) rfl kr ts_27 ti_30 ?_
            exact wE (gl []) [] 1
           ·
            intro γ F
            refine WI.reH (H' := [treeV (rowK Kd.u64 22) 30 (th g13) (tg g13) l10, fact ((tg g13)[l5.length]? = some (γ3 12 0))] ++ F) kr ?_
            refine WI.fact 1 rfl (fun hg9 => ?_)
            refine w_ldG (m := l5.length) (inOut (inP 0 rfl)) hg9 kr ti_30 ?_
            exact wE (gl []) [(0, false)] 1
           ·
            intro γ F
            refine WI.reH (H' := [] ++ F) kr ?_
            refine w_fn [] (c_field_Mul er10) rfl fok_87 kr ?_
            rintro _ _ ⟨hv, rfl⟩; have hv := hv.symm; subst hv
            exact wE (gl []) [] 0
           ·
            intro γ F
            refine WI.reH (H' := [hdP (γ3 12 0) x18.length] ++ F) kr ?_
            refine w_ix (k := .i64) (hdI 0 rfl) (nbd ex21) rfl kr ts_30 ti_22 ?_
            exact wE (gl []) [] 1
           ·
            intro γ F
            refine WI.reH (H' := [treeV (rowK Kd.u64 22) 30 (th g13) (tg g13) l10, fact ((tg g13)[l5.length]? = some (γ3 12 0))] ++ F) kr ?_
            refine WI.fact 1 rfl (fun hg10 => ?_)
            refine w_stT (kd := Kd.u64) (w := .int .u64 r10) (m := l5.length) (k := k3) (y0 := r10) 0 () rfl hg10 ex22 (nbd ex23) (sinj el12) (sinj el13) kr ti_22 (cv0 kr) (it0 rfl) ?_
            exact wE (gl []) [(0, false)] 1
          ·
           intro γ4
           refine qh_block_normal ?_
           refine qh_then ?_
           refine wh_region ?_
           refine w_bi (zinc hk3 hN3) kr ?_
           refine w_p Tb_ok 1 kr ?_
           refine wi_end kr ?_
           have h40 := Option.some.inj h40; subst h40
           exact q_rs () hn4 aK (tH [(1, false), (4, false), (1, false), (1, true), (2, true)] 3)
        ·
         rintro ⟨⟩ - j
         refine qh_then ?_
         refine wh_seq ?_
         refine wh_seq ?_
         refine wh_region ?_
         refine w_p Tb_ok 3 kr ?_
         refine w_ldB 0 1 rfl kr ti_27 rfl rfl ?_
         refine w_len (tree_hdI (inP 1 rfl)) kr ts_27 ?_
         refine w_p Tb_ok 1 kr ?_
         refine wi_end kr ?_
         refine qh_then ?_
         refine h_lenle (tree_lenle 1 rfl) (fun hN4 => ?_)
         obtain ⟨l15, el5, h41⟩ := bnd h33
         refine h_join (X := Unit) (fun g => [(0, .int .u64 p_p), (7, (.pointer (some ⟨b1, 0, none⟩))), (10, .int .i64 ((k2 : Nat) : Int)), (47, .int .i64 p_columns), (48, .int .i64 ((k2 : Nat) : Int))]) (fun g => [blkP (.pointer (some ⟨b1, 0, none⟩)) 198 [.int .u64 p_p, (th g13), g5, .int .u64 r7], treeV (rowK Kd.u64 22) 30 (th g13) (tg g13) l15, ownV Kd.i64 3 g5 l5] ++ F) (fun _ => True) ?_ ?_
         ·
          refine wh_block ?_
          refine h_rs (fun (k4 : Nat) (st : (List (List Nat))) (g : Unit) => [(0, .int .u64 p_p), (7, (.pointer (some ⟨b1, 0, none⟩))), (10, .int .i64 ((k2 : Nat) : Int)), (11, .int .i64 ((l5.length : Nat) : Int)), (47, .int .i64 p_columns), (48, .int .i64 ((k2 : Nat) : Int)), (186, (th g13)), (187, .int .i64 ((l11.length : Nat) : Int)), (188, .int .i64 ((k4 : Nat) : Int))]) (fun (k4 : Nat) (st : (List (List Nat))) (g : Unit) => [blkP (.pointer (some ⟨b1, 0, none⟩)) 198 [.int .u64 p_p, (th g13), g5, .int .u64 r7], treeV (rowK Kd.u64 22) 30 (th g13) (tg g13) st, ownV Kd.i64 3 g5 l5] ++ F) () el5 (Nat.zero_le _) aK (tH [(0, false), (0, false), (0, false)] 0) ?_ ?_
          ·
           rintro ⟨⟩ j
           refine wh_seq ?_
           refine wh_region ?_
           refine w_p Tb_ok 1 kr ?_
           refine wi_end kr ?_
           refine qh_then ?_
           refine wh_seq ?_
           refine h_cf (b := (decide ((((l11.length) : Nat) : Int) < ((l11.length : Nat) : Int)))) rgF kr ?_
           refine wh_exit ?_
           refine qh_then_exit ?_
           refine q_rzX ?_
           refine qh_block_exit ?_
           exact q_join () trivial aK (tH [(0, false), (0, false), (0, false)] 0)
          ·
           rintro rem k4 l14 ⟨⟩ o5 hk4 h42 hn5 j
           have h42 : matrix_reduce_L4 p_p l5 k2 k4 l14 = some o5 := h42
           unfold matrix_reduce_L4 at h42
           refine wh_seq ?_
           refine wh_region ?_
           refine w_p Tb_ok 1 kr ?_
           refine wi_end kr ?_
           refine qh_then ?_
           refine wh_seq ?_
           refine h_ct (b := (decide (((k4 : Nat) : Int) < ((l11.length : Nat) : Int)))) (rgT hk4) kr ?_
           refine wh_skip ?_
           refine qh_then ?_
           refine wh_seq ?_
           refine wh_block ?_
           refine wh_seq ?_
           refine wh_region ?_
           refine w_p Tb_ok 1 kr ?_
           obtain ⟨x25, ex25, h43⟩ := bnd h42
           refine w_ix (k := .i64) (tree_hdI (inP 1 rfl)) (nbd ex25) rfl kr ts_27 ti_30 ?_
           refine w_ldN rs_row (inP 1 rfl) ex25 kr ti_30 (fun g17 => ?_)
           refine w_p Tb_ok 2 kr ?_
           refine wi_end kr ?_
           refine qh_then ?_
           refine wh_seq ?_
           refine wh_seq ?_
           obtain ⟨x26, ej3, h44⟩ := bnd h43
           refine h_join (X := Unit) (fun g => [(0, .int .u64 p_p), (7, (.pointer (some ⟨b1, 0, none⟩))), (10, .int .i64 ((k2 : Nat) : Int)), (11, .int .i64 ((l5.length : Nat) : Int)), (19, g17), (47, .int .i64 p_columns), (48, .int .i64 ((k2 : Nat) : Int)), (186, (th g13)), (187, .int .i64 ((l11.length : Nat) : Int)), (188, .int .i64 ((k4 : Nat) : Int)), (202, .bool x26)]) (fun g => [blkP (.pointer (some ⟨b1, 0, none⟩)) 198 [.int .u64 p_p, (th g13), g5, .int .u64 r7], treeV (rowK Kd.u64 22) 30 (th g13) (tg g13) l14, ownV Kd.i64 3 g5 l5, fact ((tg g13)[k4]? = some g17), hdP g17 x25.length] ++ F) (fun _ => True) ?_ ?_
           ·
            refine wh_region ?_
            refine w_p Tb_ok 4 kr ?_
            rcases bcase ej3 with ⟨t6, h45⟩ | ⟨t6, h45⟩
            ·
             refine w_kb (t := 196) t6 kr ?_
             refine w_p Tb_ok 6 kr ?_
             refine wi_end kr ?_
             cases h45
             exact q_join () trivial aK (tH [(2, false), (2, false), (2, false), (0, true), (1, true)] 2)
            ·
             refine w_kb (t := 196) t6 kr ?_
             refine w_p Tb_ok 2 kr ?_
             obtain ⟨x27, ex27, h46⟩ := bnd h45
             refine w_ix (k := .i64) (hdI 1 rfl) (nbd ex27) rfl kr ts_30 ti_22 ?_
             refine WI.fact 0 rfl (fun hg11 => ?_)
             refine w_ldI (kd := Kd.u64) (e := 22) (v := g17) (xs := x25) (m := k2) 0 (inRow (R := (rowK Kd.u64 22)) (inP 3 rfl) hg11 ex25) ex27 kr ti_22 rfl rfl ?_
             rintro _
             refine w_p Tb_ok 2 kr ?_
             refine wi_end kr ?_
             cases h46
             exact q_join () trivial aK (tH [(2, false), (2, false), (2, false), (0, true), (1, true)] 2)
           ·
            rintro ⟨⟩ - j
            refine qh_then ?_
            rcases bcase h44 with ⟨t7, h47⟩ | ⟨t7, h47⟩
            ·
             refine h_ct (b := x26) t7 kr ?_
             refine wh_exit ?_
             refine qh_then_exit ?_
             refine qh_block_exit ?_
             refine qh_then ?_
             refine wh_region ?_
             refine w_bi (zinc hk4 hN4) kr ?_
             refine w_p Tb_ok 1 kr ?_
             refine wi_end kr ?_
             have h47 := Option.some.inj h47; subst h47
             exact q_rs () hn5 aK (tH [(0, false), (0, false), (0, false)] 2)
            ·
             refine h_cf (b := x26) t7 kr ?_
             refine wh_skip ?_
             refine qh_then ?_
             refine wh_seq ?_
             refine wh_region ?_
             refine w_p Tb_ok 2 kr ?_
             obtain ⟨x28, ex28, h48⟩ := bnd h47
             refine w_ix (k := .i64) (hdI 4 rfl) (nbd ex28) rfl kr ts_30 ti_22 ?_
             refine WI.fact 3 rfl (fun hg12 => ?_)
             refine w_ldI (kd := Kd.u64) (e := 22) (v := g17) (xs := x25) (m := k2) 0 (inRow (R := (rowK Kd.u64 22)) (inP 1 rfl) hg12 ex25) ex28 kr ti_22 rfl rfl ?_
             rintro _
             refine w_p Tb_ok 1 kr ?_
             refine wi_end kr ?_
             refine qh_then ?_
             refine wh_seq ?_
             refine wh_region ?_
             refine w_p Tb_ok 3 kr ?_
             refine w_ldB 0 1 rfl kr ti_27 rfl rfl ?_
             refine w_p Tb_ok 1 kr ?_
             obtain ⟨x29, ex29, h49⟩ := bnd h48
             refine w_ix (k := .i64) (tree_hdI (inP 1 rfl)) (nbd ex29) rfl kr ts_27 ti_30 ?_
             refine w_ldN rs_row (inP 1 rfl) ex29 kr ti_30 (fun g18 => ?_)
             refine w_len (hdI 1 rfl) kr ts_30 ?_
             refine w_p Tb_ok 1 kr ?_
             refine wi_end kr ?_
             refine qh_then ?_
             obtain ⟨u4, eu4, h50⟩ := bnd h49
             have hN5 := ckN_some eu4
             obtain ⟨l17, el6, h51⟩ := bnd h50
             refine h_join (X := Unit) (fun g => [(0, .int .u64 p_p), (7, (.pointer (some ⟨b1, 0, none⟩))), (10, .int .i64 ((k2 : Nat) : Int)), (11, .int .i64 ((l5.length : Nat) : Int)), (47, .int .i64 p_columns), (48, .int .i64 ((k2 : Nat) : Int)), (186, (th g13)), (187, .int .i64 ((l11.length : Nat) : Int)), (188, .int .i64 ((k4 : Nat) : Int))]) (fun g => [blkP (.pointer (some ⟨b1, 0, none⟩)) 198 [.int .u64 p_p, (th g13), g5, .int .u64 r7], treeV (rowK Kd.u64 22) 30 (th g13) (tg g13) l17, ownV Kd.i64 3 g5 l5] ++ F) (fun _ => True) ?_ ?_
             ·
              refine wh_block ?_
              refine h_rs (fun (k5 : Nat) (st : (List (List Nat))) (g : Unit) => [(0, .int .u64 p_p), (7, (.pointer (some ⟨b1, 0, none⟩))), (10, .int .i64 ((k2 : Nat) : Int)), (11, .int .i64 ((l5.length : Nat) : Int)), (19, g17), (20, .int .u64 x28), (47, .int .i64 p_columns), (48, .int .i64 ((k2 : Nat) : Int)), (186, (th g13)), (187, .int .i64 ((l11.length : Nat) : Int)), (188, .int .i64 ((k4 : Nat) : Int)), (213, g18), (214, .int .i64 ((x29.length : Nat) : Int)), (215, .int .i64 ((k5 : Nat) : Int))]) (fun (k5 : Nat) (st : (List (List Nat))) (g : Unit) => [blkP (.pointer (some ⟨b1, 0, none⟩)) 198 [.int .u64 p_p, (th g13), g5, .int .u64 r7], treeV (rowK Kd.u64 22) 30 (th g13) (tg g13) st, ownV Kd.i64 3 g5 l5, fact ((tg g13)[k4]? = some g17), hdP g17 x25.length, fact ((tg g13)[l5.length]? = some g18), hdP g18 x29.length] ++ F) () el6 (Nat.zero_le _) aK (tH [(2, false), (2, false), (2, false), (2, true), (3, true), (0, true), (1, true)] 4) ?_ ?_
              ·
               rintro ⟨⟩ j
               refine wh_seq ?_
               refine wh_region ?_
               refine w_p Tb_ok 1 kr ?_
               refine wi_end kr ?_
               refine qh_then ?_
               refine wh_seq ?_
               refine h_cf (b := (decide ((((x29.length) : Nat) : Int) < ((x29.length : Nat) : Int)))) rgF kr ?_
               refine wh_exit ?_
               refine qh_then_exit ?_
               refine q_rzX ?_
               refine qh_block_exit ?_
               exact q_join () trivial aK (tH [(0, false), (0, false), (0, false)] 4)
              ·
               rintro rem k5 l16 ⟨⟩ o6 hk5 h52 hn6 j
               have h52 : matrix_reduce_L5 p_p l5 k4 x25 x28 x29 k5 l16 = some o6 := h52
               unfold matrix_reduce_L5 at h52
               refine wh_seq ?_
               refine wh_region ?_
               refine w_p Tb_ok 1 kr ?_
               refine wi_end kr ?_
               refine qh_then ?_
               refine wh_seq ?_
               refine h_ct (b := (decide (((k5 : Nat) : Int) < ((x29.length : Nat) : Int)))) (rgT hk5) kr ?_
               refine wh_skip ?_
               refine qh_then ?_
               refine wh_seq ?_
               refine wh_block ?_
               refine wh_seq ?_
               refine wh_region ?_
               refine w_p Tb_ok 1 kr ?_
               obtain ⟨x31, ex31, h53⟩ := bnd h52
               refine w_ix (k := .i64) (hdI 6 rfl) (nbd ex31) rfl kr ts_30 ti_22 ?_
               refine WI.fact 5 rfl (fun hg13 => ?_)
               obtain ⟨x32, ex32, h54⟩ := bnd h53
               obtain ⟨x33, ex33, h55⟩ := bnd h54
               refine w_ldI (kd := Kd.u64) (e := 22) (v := g18) (xs := x32) (m := k5) 0 (inRow (R := (rowK Kd.u64 22)) (inP 1 rfl) hg13 ex32) ex33 kr ti_22 rfl rfl ?_
               rintro _
               refine w_p Tb_ok 2 kr ?_
               refine wi_end kr ?_
               refine qh_then ?_
               refine WH.ent (hd_add (tree_hdI (inP 1 rfl))) ?_
               obtain ⟨x34, ex34, h56⟩ := bnd h55
               obtain ⟨x35, ex35, h57⟩ := bnd h56
               obtain ⟨x36, ex36, h58⟩ := bnd h57
               obtain ⟨r13, er13, h59⟩ := bnd h58
               obtain ⟨r14, er14, h60⟩ := bnd h59
               obtain ⟨l18, el18, h61⟩ := bnd h60
               obtain ⟨l19, el19, h62⟩ := bnd h61
               refine h_flow [0, 0, 0, 0, 0, 24, 56, 0, 0, 0, 896, 2044, 4095, 8191] ⟨8, [0, 0, 0, 0, 0, 0, 0, 0, 0, 0, 0, 0, 0, 1], [(13, [(0, 2)])], [(6, [(0, 2)])], [(5, [(0, 5)]), (6, [(0, 4)]), (12, [(0, 5)]), (13, [(0, 4)])]⟩ (fun γ => [g17, .int .i64 ((k5 : Nat) : Int), .int .u64 p_p, g17, .int .i64 ((k5 : Nat) : Int), .pointer (some (elV g17 (k5 * Kd.u64.size))), .int .u64 x36, .int .u64 p_p, .int .u64 x28, .int .u64 x33, .int .u64 r13, .int .u64 r14, .pointer (some (elV g17 (k5 * Kd.u64.size))), undef]) (fun i γ => match i with | 13 => [treeV (rowK Kd.u64 22) 30 (th g13) (tg g13) l19] | _ => []) (fun γ => [hdP (th g13) l16.length, blkP (.pointer (some ⟨b1, 0, none⟩)) 198 [.int .u64 p_p, (th g13), g5, .int .u64 r7], ownV Kd.i64 3 g5 l5, fact ((tg g13)[k4]? = some g17), hdP g17 x25.length, fact ((tg g13)[l5.length]? = some g18), hdP g18 x29.length, treeV (rowK Kd.u64 22) 30 (th g13) (tg g13) l19] ++ F) [0, 1, 2, 3, 4, 7, 8, 9] tryd_mix Tb_ok kr kr (fun _ => by kernel_rfl) (fun _ => by kernel_rfl) (fun _ => by kernel_rfl) (fun _ => by kernel_rfl) (fun _ => by kernel_rfl) (fun _ => by kernel_rfl) (fun _ => by kernel_rfl) ?_ ?_
               ·
                refine ⟨?_, ?_, ?_, ?_, ?_, ?_, trivial⟩
                ·
                 intro γ F
                 refine WI.reH (H' := [hdP g17 x25.length] ++ F) kr ?_
                 refine w_ix (k := .i64) (hdI 0 rfl) (nbd ex34) rfl kr ts_30 ti_22 ?_
                 exact wE (gl []) [] 1
                ·
                 intro γ F
                 refine WI.reH (H' := [treeV (rowK Kd.u64 22) 30 (th g13) (tg g13) l16, fact ((tg g13)[k4]? = some g17)] ++ F) kr ?_
                 refine WI.fact 1 rfl (fun hg14 => ?_)
                 refine w_ldI (kd := Kd.u64) (e := 22) (v := g17) (xs := x35) (m := k5) 0 (inRow (R := (rowK Kd.u64 22)) (inP 0 rfl) hg14 ex35) ex36 kr ti_22 rfl rfl ?_
                 rintro _
                 exact wE (gl []) [(0, false)] 1
                ·
                 intro γ F
                 refine WI.reH (H' := [] ++ F) kr ?_
                 refine w_fn [] (c_field_Mul er13) rfl fok_87 kr ?_
                 rintro _ _ ⟨hv, rfl⟩; have hv := hv.symm; subst hv
                 exact wE (gl []) [] 0
                ·
                 intro γ F
                 refine WI.reH (H' := [] ++ F) kr ?_
                 refine w_fn [] (c_field_Sub er14) rfl fok_86 kr ?_
                 rintro _ _ ⟨hv, rfl⟩; have hv := hv.symm; subst hv
                 exact wE (gl []) [] 0
                ·
                 intro γ F
                 refine WI.reH (H' := [hdP g17 x25.length] ++ F) kr ?_
                 refine w_ix (k := .i64) (hdI 0 rfl) (nbd ex34) rfl kr ts_30 ti_22 ?_
                 exact wE (gl []) [] 1
                ·
                 intro γ F
                 refine WI.reH (H' := [treeV (rowK Kd.u64 22) 30 (th g13) (tg g13) l16, fact ((tg g13)[k4]? = some g17)] ++ F) kr ?_
                 refine WI.fact 1 rfl (fun hg15 => ?_)
                 refine w_stT (kd := Kd.u64) (w := .int .u64 r14) (m := k4) (k := k5) (y0 := r14) 0 () rfl hg15 ex35 (nbd ex36) (sinj el18) (sinj el19) kr ti_22 (cv0 kr) (it0 rfl) ?_
                 exact wE (gl []) [(0, false)] 1
               ·
                intro γ5
                refine qh_block_normal ?_
                refine qh_then ?_
                refine wh_region ?_
                refine w_bi (zinc hk5 hN5) kr ?_
                refine w_p Tb_ok 1 kr ?_
                refine wi_end kr ?_
                have h62 := Option.some.inj h62; subst h62
                exact q_rs () hn6 aK (tH [(1, false), (6, false), (1, false), (1, true), (2, true), (3, true), (4, true)] 5)
             ·
              rintro ⟨⟩ - j
              refine qh_block_normal ?_
              refine qh_then ?_
              refine wh_region ?_
              refine w_bi (zinc hk4 hN4) kr ?_
              refine w_p Tb_ok 1 kr ?_
              refine wi_end kr ?_
              have h51 := Option.some.inj h51; subst h51
              exact q_rs () hn5 aK (tH [(0, false), (0, false), (0, false)] 0)
         ·
          rintro ⟨⟩ - j
          refine qh_then ?_
          refine wh_region ?_
          refine w_p Tb_ok 4 kr ?_
          refine w_ldB 0 2 rfl kr ti_25 rfl rfl ?_
          refine w_p Tb_ok 1 kr ?_
          refine w_lt (kd := Kd.i64) (t := 25) (len := 1) (ps0 := [(0, .int .i64 ((k2 : Nat) : Int))]) (ps := [(0, .int .i64 ((k2 : Nat) : Int))]) ([((k2 : Nat) : Int)] : List Int) _ (rowC (x := ((k2 : Nat) : Int)) (g := ()) (it0 rfl) row0) (scI sc0) kr ts_25 ti_3 kr rfl rfl (fun v2 => ?_)
          obtain ⟨l20, el20, h63⟩ := bnd h41
          refine w_app 3 rfl (own_src 0 rfl) el20 kr ts_25 ti_3 rfl (fun v3 => ?_)
          refine w_p Tb_ok 2 kr ?_
          refine w_stB (v := v3) (off := 2) (cs := [v3]) 2 rfl (cvS (own_hd 0 rfl)) kr ti_25 rfl rfl (oC (sl_one (own_hd 0 rfl)) oN) ?_
          refine WI.hd (y := blkP (.pointer (some ⟨b1, 0, none⟩)) 198 [.int .u64 p_p, (th g13), v3, .int .u64 r7]) kr ?_
          refine wi_end kr ?_
          refine qh_block_normal ?_
          refine qh_then ?_
          refine wh_region ?_
          refine w_bi (zinc hk2 hN2) kr ?_
          refine w_p Tb_ok 1 kr ?_
          refine wi_end kr ?_
          have h63 := Option.some.inj h63; subst h63
          exact q_rs ((tw (th g13) (tg g13)), v3) hn2 aK (tH [(0, false), (2, false), (0, false)] 1)
  ·
   rintro ⟨g6, g7⟩ - j
   refine qh_then ?_
   refine wh_seq ?_
   refine wh_region ?_
   refine w_p Tb_ok 2 kr ?_
   refine wi_end kr ?_
   refine qh_then ?_
   refine wh_ret ?_
   refine QH.ent (tr_own fz_row 1 rfl) ?_
   have h9 := Option.some.inj h9; subst h9
   exact q_end (l := [(.pointer (some ⟨b1, 0, none⟩))]) [(1, false), (0, false), (0, false)] 0 ⟨(.pointer (some ⟨b1, 0, none⟩)), (th g6), g7, rfl, rfl⟩ (.inl rfl) kr kr kr
theorem c_matrix_Solve {p_p : Nat} {p_m : List (List Nat)} {p_b : List Nat} {vp_m_1 : Value} {vp_b_1 : Value} {r : (List Nat) × Int} (h : matrix_Solve p_p p_m p_b = some r) : Ct Tryd.prog 126 [.int .u64 p_p, vp_m_1, vp_b_1] [rdV (Kd.sl Kd.u64) vp_m_1 p_m, rdV Kd.u64 vp_b_1 p_b] (fun v L => ∃ w0 : Value, v = .tuple #[w0, .int .i64 r.2] ∧ L = [ownV Kd.u64 22 w0 r.1]) := by
 refine ct_intro Tryd.func126 rfl kr (fun F => ?_)
 unfold matrix_Solve at h
 refine wh_seq ?_
 refine wh_region ?_
 refine w_p Tb_ok 2 kr ?_
 refine wi_end kr ?_
 refine qh_then ?_
 refine wh_seq ?_
 refine wh_seq ?_
 obtain ⟨x1, ej1, h1⟩ := bnd h
 refine h_join (X := Unit) (fun g => [(0, .int .u64 p_p), (1, vp_m_1), (2, vp_b_1), (27, .bool x1)]) (fun g => [rdV (Kd.sl Kd.u64) vp_m_1 p_m, rdV Kd.u64 vp_b_1 p_b] ++ F) (fun _ => True) ?_ ?_
 ·
  refine wh_region ?_
  refine w_p Tb_ok 1 kr ?_
  obtain ⟨r1, er1, h2⟩ := bnd ej1
  refine w_fn [(0, true)] (c_matrix_rect er1) rfl fok_140 kr ?_
  rintro _ _ ⟨hv, rfl⟩; have hv := hv.symm; subst hv
  refine w_p Tb_ok 2 kr ?_
  rcases bcase h2 with ⟨t1, h3⟩ | ⟨t1, h3⟩
  ·
   refine w_kb (t := 21) t1 kr ?_
   refine w_p Tb_ok 6 kr ?_
   refine wi_end kr ?_
   cases h3
   exact q_join () trivial aK (tH [(0, true), (1, true)] 2)
  ·
   refine w_kb (t := 21) t1 kr ?_
   refine w_p Tb_ok 1 kr ?_
   refine w_len (rd_hd 0 rfl) kr ts_27 ?_
   refine w_p Tb_ok 1 kr ?_
   refine w_len (rd_hd 1 rfl) kr ts_30 ?_
   refine w_p Tb_ok 2 kr ?_
   refine wi_end kr ?_
   cases h3
   exact q_join () trivial aK (tH [(0, true), (1, true)] 2)
 ·
  rintro ⟨⟩ - j
  refine qh_then ?_
  rcases bcase h1 with ⟨t2, h4⟩ | ⟨t2, h4⟩
  ·
   refine h_ct (b := x1) t2 kr ?_
   refine wh_seq ?_
   refine wh_region ?_
   refine w_p Tb_ok 2 kr ?_
   refine wi_end kr ?_
   refine qh_then ?_
   refine wh_ret ?_
   refine qh_then_ret ?_
   refine QH.ent (ownNil (kd := Kd.u64) (e := 22)) ?_
   have h4 := Option.some.inj h4; subst h4
   exact q_end (l := [(.slice none 0 0), .int .i64 ((1 : Nat) : Int)]) [(0, false)] 2 ⟨(.slice none 0 0), rfl, rfl⟩ (.inl rfl) kr kr kr
  ·
   refine h_cf (b := x1) t2 kr ?_
   refine wh_skip ?_
   refine qh_then ?_
   refine wh_seq ?_
   refine wh_region ?_
   refine w_p Tb_ok 1 kr ?_
   obtain ⟨r2, er2, h5⟩ := bnd h4
   refine w_fn [(0, true)] (c_matrix_cols er2) rfl fok_141 kr ?_
   rintro _ _ ⟨hv, rfl⟩; have hv := hv.symm; subst hv
   refine w_p Tb_ok 1 kr ?_
   refine wi_end kr ?_
   refine qh_then ?_
   refine wh_seq ?_
   refine wh_region ?_
   refine w_p Tb_ok 1 kr ?_
   refine wi_end kr ?_
   refine qh_then ?_
   refine wh_seq ?_
   refine wh_seq ?_
   refine wh_region ?_
   refine w_p Tb_ok 1 kr ?_
   refine w_len (rd_hd 0 rfl) kr ts_27 ?_
   refine w_p Tb_ok 1 kr ?_
   refine wi_end kr ?_
   refine qh_then ?_
   refine WH.ent (ownNil (kd := (Kd.sl Kd.u64)) (e := 30)) ?_
   refine h_lenle (rd_lenle 1 rfl) (fun hN1 => ?_)
   obtain ⟨l2, el1, h6⟩ := bnd h5
   refine h_join (X := Value) (fun g => [(0, .int .u64 p_p), (8, .int .i64 r2), (9, g)]) (fun g => [ownV (Kd.sl Kd.u64) 30 g l2] ++ F) (fun _ => True) ?_ ?_
   ·
    refine wh_block ?_
    refine h_rs (fun (k1 : Nat) (st : (List (List Nat))) (g : Value) => [(0, .int .u64 p_p), (2, vp_b_1), (8, .int .i64 r2), (9, g), (30, vp_m_1), (31, .int .i64 ((p_m.length : Nat) : Int)), (32, .int .i64 ((k1 : Nat) : Int))]) (fun (k1 : Nat) (st : (List (List Nat))) (g : Value) => [rdV Kd.u64 vp_b_1 p_b, ownV (Kd.sl Kd.u64) 30 g st, rdV (Kd.sl Kd.u64) vp_m_1 p_m] ++ F) (.slice none 0 0) el1 (Nat.zero_le _) aK (tH [(2, true), (0, false), (0, true)] 2) ?_ ?_
    ·
     rintro g3 j
     refine wh_seq ?_
     refine wh_region ?_
     refine w_p Tb_ok 1 kr ?_
     refine wi_end kr ?_
     refine qh_then ?_
     refine wh_seq ?_
     refine h_cf (b := (decide ((((p_m.length) : Nat) : Int) < ((p_m.length : Nat) : Int)))) rgF kr ?_
     refine wh_exit ?_
     refine qh_then_exit ?_
     refine q_rzX ?_
     refine qh_block_exit ?_
     exact q_join g3 trivial aK (tH [(1, false)] 2)
    ·
     rintro rem k1 l1 g1 o1 hk1 h7 hn1 j
     have h7 : matrix_Solve_L0 p_m p_b k1 l1 = some o1 := h7
     unfold matrix_Solve_L0 at h7
     refine wh_seq ?_
     refine wh_region ?_
     refine w_p Tb_ok 1 kr ?_
     refine wi_end kr ?_
     refine qh_then ?_
     refine wh_seq ?_
     refine h_ct (b := (decide (((k1 : Nat) : Int) < ((p_m.length : Nat) : Int)))) (rgT hk1) kr ?_
     refine wh_skip ?_
     refine qh_then ?_
     refine wh_seq ?_
     refine wh_block ?_
     refine wh_seq ?_
     refine wh_region ?_
     refine w_p Tb_ok 1 kr ?_
     obtain ⟨x3, ex3, h8⟩ := bnd h7
     refine w_ix (k := .i64) (rd_hd 2 rfl) (nbd ex3) rfl kr ts_27 ti_30 ?_
     refine w_ldR 2 0 rfl ex3 kr ti_30 rfl rfl ?_
     rintro v1
     refine w_p Tb_ok 2 kr ?_
     refine wi_end kr ?_
     refine qh_then ?_
     obtain ⟨r4, er4, h9⟩ := bnd h8
     obtain ⟨x4, ex4, h10⟩ := bnd h9
     obtain ⟨l3, el3, h11⟩ := bnd h10
     obtain ⟨l4, el4, h12⟩ := bnd h11
     refine h_flow [0, 0, 2, 0, 0, 24, 56, 120, 254, 510, 1023, 2047] ⟨4, [0, 0, 1, 0, 0, 0, 0, 1, 1, 1, 1, 0], [(8, [(3, 0)]), (10, [(0, 2)])], [(8, [(8, 0)]), (10, [(10, 0)])], [(2, [(0, 0)]), (5, [(0, 1)]), (6, [(0, 1)]), (9, [(9, 0)])]⟩ (fun γ => [g1, v1, (γ 2 0), vp_b_1, .int .i64 ((k1 : Nat) : Int), .pointer (some (elV vp_b_1 (k1 * Kd.u64.size))), .int .u64 x4, (γ 7 0), (γ 8 0), (γ 9 0), (γ 10 0), (γ 10 0)]) (fun i γ => match i with | 2 => [ownV Kd.u64 22 (γ 2 0) r4] | 7 => [ownV Kd.u64 22 (γ 7 0) ([x4] : List Nat)] | 8 => [rdV Kd.u64 (γ 8 0) l3] | 9 => [ownV (Kd.sl Kd.u64) 30 (γ 9 0) ([l3] : List (List Nat))] | 10 => [ownV (Kd.sl Kd.u64) 30 (γ 10 0) l4] | _ => []) (fun γ => [rdV Kd.u64 v1 x3, rdV Kd.u64 vp_b_1 p_b, rdV (Kd.sl Kd.u64) vp_m_1 p_m, ownV Kd.u64 22 (γ 7 0) ([x4] : List Nat), rdV Kd.u64 (γ 8 0) l3, ownV (Kd.sl Kd.u64) 30 (γ 9 0) ([l3] : List (List Nat)), ownV (Kd.sl Kd.u64) 30 (γ 10 0) l4] ++ F) [0, 1, 3, 4, 11] tryd_mix Tb_ok kr kr (fun _ => by kernel_rfl) (fun _ => by kernel_rfl) (fun _ => by kernel_rfl) (fun _ => by kernel_rfl) (fun _ => by kernel_rfl) (fun _ => by kernel_rfl) (fun _ => by kernel_rfl) ?_ ?_
     ·
      refine ⟨?_, ?_, ?_, ?_, ?_, ?_, ?_, trivial⟩
      ·
       intro γ F
       refine WI.reH (H' := [rdV Kd.u64 v1 x3] ++ F) kr ?_
       refine w_fn [(0, true)] (c_slices_Clone_Luint64_uint64 er4) rfl fok_138 kr ?_
       rintro _ _ ⟨w3, hv, rfl⟩; have hv := hv.symm; subst hv
       exact wE (gl [w3]) [(0, false)] 1
      ·
       intro γ F
       refine WI.reH (H' := [rdV Kd.u64 vp_b_1 p_b] ++ F) kr ?_
       refine w_ix (k := .i64) (rd_hd 0 rfl) (nbd ex4) rfl kr ts_30 ti_22 ?_
       exact wE (gl []) [] 1
      ·
       intro γ F
       refine WI.reH (H' := [rdV Kd.u64 vp_b_1 p_b] ++ F) kr ?_
       refine w_ldR 0 0 rfl ex4 kr ti_22 rfl rfl ?_
       rintro _
       exact wE (gl []) [] 1
      ·
       intro γ F
       refine WI.reH (H' := [] ++ F) kr ?_
       refine w_lt (kd := Kd.u64) (t := 30) (len := 1) (ps0 := [(0, .int .u64 x4)]) (ps := [(0, .int .u64 x4)]) ([x4] : List Nat) _ (rowC (x := x4) (g := ()) (it0 rfl) row0) (scI sc0) kr ts_30 ti_22 kr rfl rfl (fun v2 => ?_)
       exact wE (gl [v2]) [(0, false)] 0
      ·
       intro γ F
       refine WI.reH (H' := [ownV Kd.u64 22 (γ 2 0) r4, ownV Kd.u64 22 (γ 7 0) ([x4] : List Nat)] ++ F) kr ?_
       refine w_app 0 rfl (own_src 1 rfl) el3 kr ts_30 ti_22 rfl (fun v3 => ?_)
       refine WI.ent (frzAt 0 rfl) ?_
       exact wE (gl [v3]) [(0, true), (1, false)] 1
      ·
       intro γ F
       refine WI.reH (H' := [rdV Kd.u64 (γ 8 0) l3] ++ F) kr ?_
       refine w_lt (kd := (Kd.sl Kd.u64)) (t := 27) (len := 1) (ps0 := [(0, (γ 8 0))]) (ps := [(0, .agg #[(γ 8 0)])]) ([l3] : List (List Nat)) _ (rowC (x := l3) (g := (γ 8 0)) (itS 0 rfl) row0) (scS (rd_hd 0 rfl) sc0) kr ts_27 ti_30 kr rfl rfl (fun v4 => ?_)
       exact wE (gl [v4]) [(0, false)] 1
      ·
       intro γ F
       refine WI.reH (H' := [ownV (Kd.sl Kd.u64) 30 g1 l1, ownV (Kd.sl Kd.u64) 30 (γ 9 0) ([l3] : List (List Nat))] ++ F) kr ?_
       refine w_app 0 rfl (own_src 1 rfl) el4 kr ts_27 ti_30 rfl (fun v5 => ?_)
       exact wE (gl [v5]) [(0, false), (0, false)] 0
     ·
      intro γ1
      refine qh_block_normal ?_
      refine qh_then ?_
      refine wh_region ?_
      refine w_bi (zinc hk1 hN1) kr ?_
      refine w_p Tb_ok 1 kr ?_
      refine wi_end kr ?_
      have h12 := Option.some.inj h12; subst h12
      exact q_rs (γ1 10 0) hn1 aK (tH [(1, true), (6, false), (2, true)] 6)
   ·
    rintro g2 - j
    refine qh_then ?_
    refine wh_seq ?_
    refine wh_region ?_
    refine w_p Tb_ok 3 kr ?_
    refine WI.ent (frzAt 0 rfl) ?_
    obtain ⟨r5, er5, h13⟩ := bnd h6
    refine w_fn [(0, true)] (c_matrix_reduce er5) rfl fok_142 kr ?_
    rintro _ _ ⟨w4, w4__1, w4__2, hv, rfl⟩; have hv := hv.symm; subst hv
    refine w_opP 0 rfl (fun b1 hb => ?_)
    subst hb
    refine w_p Tb_ok 1 kr ?_
    refine wi_end kr ?_
    refine qh_then ?_
    refine wh_seq ?_
    refine wh_seq ?_
    refine WH.ent (frzAt 1 rfl) ?_
    obtain ⟨l5, el5, h14⟩ := bnd h13
    refine h_flow [0, 1, 3, 7, 0, 16, 48, 112, 240, 511, 1023, 0] ⟨4, [0, 0, 0, 0, 0, 0, 0, 0, 0, 1, 0, 0], [], [(3, [(0, 1)]), (7, [(0, 1)]), (8, [(0, 2)])], [(9, [(0, 0)]), (10, [(10, 0)])]⟩ (fun γ => [(.pointer (some ⟨b1, 0, none⟩)), (.pointer (some ⟨b1, 0, none⟩)), .pointer (some ⟨b1, 1, none⟩), w4__1, (.pointer (some ⟨b1, 0, none⟩)), (.pointer (some ⟨b1, 0, none⟩)), .pointer (some ⟨b1, 2, none⟩), w4__2, .int .i64 ((r5.zpivot.length : Nat) : Int), (γ 9 0), .int .i64 ((l5.length : Nat) : Int), .int .i64 ((0 : Nat) : Int)]) (fun i γ => match i with | 9 => [rdV (Kd.sl Kd.u64) (γ 9 0) l5] | _ => []) (fun γ => [rdV (Kd.sl Kd.u64) w4__1 r5.zm, blkP (.pointer (some ⟨b1, 0, none⟩)) 198 [.int .u64 r5.zp, w4__1, w4__2, .int .u64 r5.zdet], ownV Kd.i64 3 w4__2 r5.zpivot, rdV (Kd.sl Kd.u64) g2 l2, rdV (Kd.sl Kd.u64) (γ 9 0) l5] ++ F) [0, 1, 2, 4, 5, 6, 11] tryd_mix Tb_ok kr kr (fun _ => by kernel_rfl) (fun _ => by kernel_rfl) (fun _ => by kernel_rfl) (fun _ => by kernel_rfl) (fun _ => by kernel_rfl) (fun _ => by kernel_rfl) (fun _ => by kernel_rfl) ?_ ?_
    ·
     refine ⟨?_, ?_, ?_, ?_, ?_, trivial⟩
     ·
      intro γ F
      refine WI.reH (H' := [blkP (.pointer (some ⟨b1, 0, none⟩)) 198 [.int .u64 r5.zp, w4__1, w4__2, .int .u64 r5.zdet]] ++ F) kr ?_
      refine w_ldB 0 1 rfl kr ti_27 rfl rfl ?_
      exact wE (gl []) [(0, false)] 0
     ·
      intro γ F
      refine WI.reH (H' := [blkP (.pointer (some ⟨b1, 0, none⟩)) 198 [.int .u64 r5.zp, w4__1, w4__2, .int .u64 r5.zdet]] ++ F) kr ?_
      refine w_ldB 0 2 rfl kr ti_25 rfl rfl ?_
      exact wE (gl []) [(0, false)] 0
     ·
      intro γ F
      refine WI.reH (H' := [ownV Kd.i64 3 w4__2 r5.zpivot] ++ F) kr ?_
      refine w_len (own_hd 0 rfl) kr ts_25 ?_
      exact wE (gl []) [(0, false)] 0
     ·
      intro γ F
      refine WI.reH (H' := [rdV (Kd.sl Kd.u64) w4__1 r5.zm] ++ F) kr ?_
      refine w_cut 0 rfl el5 (loS (k := .i64)) hiN kr ts_27 ti_30 (fun v6 => ?_)
      exact wE (gl [v6]) [(0, true)] 2
     ·
      intro γ F
      refine WI.reH (H' := [rdV (Kd.sl Kd.u64) (γ 9 0) l5] ++ F) kr ?_
      refine w_len (rd_hd 0 rfl) kr ts_27 ?_
      exact wE (gl []) [] 1
    ·
     intro γ2
     refine qh_then ?_
     refine h_lenle (rd_lenle 4 rfl) (fun hN2 => ?_)
     obtain ⟨r6, el2, h15⟩ := bnd h14
     refine h_join (X := Unit × Unit) (fun g => [(8, .int .i64 r2), (12, (.pointer (some ⟨b1, 0, none⟩)))]) (fun g => [blkP (.pointer (some ⟨b1, 0, none⟩)) 198 [.int .u64 r5.zp, w4__1, w4__2, .int .u64 r5.zdet], rdV (Kd.sl Kd.u64) w4__1 r5.zm, ownV Kd.i64 3 w4__2 r5.zpivot] ++ F) (fun g => r6 = .go g.2) ?_ ?_
     ·
      refine wh_block ?_
      refine h_rg (fun (k2 : Nat) (st : Unit) (g : Unit) => [(8, .int .i64 r2), (12, (.pointer (some ⟨b1, 0, none⟩))), (62, (γ2 9 0)), (63, .int .i64 ((l5.length : Nat) : Int)), (64, .int .i64 ((k2 : Nat) : Int))]) (fun (k2 : Nat) (st : Unit) (g : Unit) => [blkP (.pointer (some ⟨b1, 0, none⟩)) 198 [.int .u64 r5.zp, w4__1, w4__2, .int .u64 r5.zdet], rdV (Kd.sl Kd.u64) w4__1 r5.zm, ownV Kd.i64 3 w4__2 r5.zpivot, rdV (Kd.sl Kd.u64) (γ2 9 0) l5] ++ F) () el2 (Nat.zero_le _) aK (tH [(1, false), (0, true), (1, false), (2, true)] 3) ?_ ?_
      ·
       rintro ⟨⟩ ⟨⟩ hr2 j
       refine wh_seq ?_
       refine wh_region ?_
       refine w_p Tb_ok 1 kr ?_
       refine wi_end kr ?_
       refine qh_then ?_
       refine wh_seq ?_
       refine h_cf (b := (decide ((((l5.length) : Nat) : Int) < ((l5.length : Nat) : Int)))) rgF kr ?_
       refine wh_exit ?_
       refine qh_then_exit ?_
       refine q_rzX ?_
       refine qh_block_exit ?_
       exact q_join ((), ()) hr2 aK (tH [(0, false), (0, true), (1, false)] 2)
      ·
       rintro rem k2 ⟨⟩ ⟨⟩ o2 hk2 h16 hn2 j
       have h16 : matrix_Solve_L1 r2 l5 k2 = some o2 := h16
       unfold matrix_Solve_L1 at h16
       refine wh_seq ?_
       refine wh_region ?_
       refine w_p Tb_ok 1 kr ?_
       refine wi_end kr ?_
       refine qh_then ?_
       refine wh_seq ?_
       refine h_ct (b := (decide (((k2 : Nat) : Int) < ((l5.length : Nat) : Int)))) (rgT hk2) kr ?_
       refine wh_skip ?_
       refine qh_then ?_
       refine wh_seq ?_
       refine wh_block ?_
       refine wh_seq ?_
       refine wh_region ?_
       obtain ⟨x5, ex5, h17⟩ := bnd h16
       refine w_ix (k := .i64) (rd_hd 3 rfl) (nbd ex5) rfl kr ts_27 ti_30 ?_
       refine w_ldR 3 0 rfl ex5 kr ti_30 rfl rfl ?_
       rintro v7
       refine w_p Tb_ok 1 kr ?_
       refine wi_end kr ?_
       refine qh_then ?_
       refine wh_seq ?_
       refine wh_region ?_
       refine w_p Tb_ok 2 kr ?_
       obtain ⟨x6, ex6, h18⟩ := bnd h17
       refine w_ix (k := .i64) (rd_hd 0 rfl) (ib ex6) (iz ex6) kr ts_30 ti_22 ?_
       refine w_ldR 0 0 rfl (ig ex6) kr ti_22 rfl rfl ?_
       rintro _
       refine w_p Tb_ok 1 kr ?_
       refine wi_end kr ?_
       refine qh_then ?_
       rcases bcase h18 with ⟨t3, h19⟩ | ⟨t3, h19⟩
       ·
        refine h_ct (b := (((x6 : Nat) : Int) != (0 : Int))) t3 kr ?_
        refine wh_seq ?_
        refine wh_region ?_
        refine w_p Tb_ok 2 kr ?_
        refine wi_end kr ?_
        refine qh_then ?_
        refine wh_ret ?_
        refine qh_block_ret ?_
        refine qh_then_ret ?_
        refine q_rgR ?_
        refine qh_block_ret ?_
        refine q_joinR ?_
        refine qh_then_ret ?_
        refine QH.ent (ownNil (kd := Kd.u64) (e := 22)) ?_
        have h19 := Option.some.inj h19; subst h19
        have hn := (show _ = _ from hn2); subst hn
        have h15 := Option.some.inj (show some _ = some _ from h15); subst h15
        exact q_end (l := [(.slice none 0 0), .int .i64 ((6 : Nat) : Int)]) [(0, false)] 5 ⟨(.slice none 0 0), rfl, rfl⟩ (.inl rfl) kr kr kr
       ·
        refine h_cf (b := (((x6 : Nat) : Int) != (0 : Int))) t3 kr ?_
        refine wh_skip ?_
        refine qh_block_normal ?_
        refine qh_then ?_
        refine wh_region ?_
        refine w_bi (zinc hk2 hN2) kr ?_
        refine w_p Tb_ok 1 kr ?_
        refine wi_end kr ?_
        have h19 := Option.some.inj h19; subst h19
        exact q_rgo () hn2 aK (tH [(1, false), (1, true), (2, false), (2, true)] 3)
     ·
      rintro ⟨⟨⟩, ⟨⟩⟩ hc j
      subst hc
      refine qh_then ?_
      refine wh_seq ?_
      refine wh_region ?_
      refine w_p Tb_ok 1 kr ?_
      obtain ⟨l6, el6, h20⟩ := bnd h15
      refine w_mk (kd := Kd.u64) (kl := .i64) (kc := .i64) () el6 kr ts_30 ti_22 rfl kr (it0 rfl) (fun v8 => ?_)
      refine w_p Tb_ok 1 kr ?_
      refine wi_end kr ?_
      refine qh_then ?_
      refine wh_seq ?_
      refine wh_seq ?_
      refine wh_region ?_
      refine w_p Tb_ok 3 kr ?_
      refine w_ldB 1 2 rfl kr ti_25 rfl rfl ?_
      refine w_len (own_hd 3 rfl) kr ts_25 ?_
      refine w_p Tb_ok 1 kr ?_
      refine wi_end kr ?_
      refine qh_then ?_
      refine h_lenle (own_lenle 3 rfl) (fun hN3 => ?_)
      obtain ⟨l8, el3, h21⟩ := bnd h20
      refine h_join (X := Unit) (fun g => [(15, v8)]) (fun g => [ownV Kd.u64 22 v8 l8] ++ F) (fun _ => True) ?_ ?_
      ·
       refine wh_block ?_
       refine h_rs (fun (k3 : Nat) (st : (List Nat)) (g : Unit) => [(8, .int .i64 r2), (12, (.pointer (some ⟨b1, 0, none⟩))), (15, v8), (79, w4__2), (80, .int .i64 ((r5.zpivot.length : Nat) : Int)), (81, .int .i64 ((k3 : Nat) : Int))]) (fun (k3 : Nat) (st : (List Nat)) (g : Unit) => [blkP (.pointer (some ⟨b1, 0, none⟩)) 198 [.int .u64 r5.zp, w4__1, w4__2, .int .u64 r5.zdet], rdV (Kd.sl Kd.u64) w4__1 r5.zm, ownV Kd.i64 3 w4__2 r5.zpivot, ownV Kd.u64 22 v8 st] ++ F) () el3 (Nat.zero_le _) aK (tH [(1, false), (1, true), (2, false), (0, false)] 1) ?_ ?_
       ·
        rintro ⟨⟩ j
        refine wh_seq ?_
        refine wh_region ?_
        refine w_p Tb_ok 1 kr ?_
        refine wi_end kr ?_
        refine qh_then ?_
        refine wh_seq ?_
        refine h_cf (b := (decide ((((r5.zpivot.length) : Nat) : Int) < ((r5.zpivot.length : Nat) : Int)))) rgF kr ?_
        refine wh_exit ?_
        refine qh_then_exit ?_
        refine q_rzX ?_
        refine qh_block_exit ?_
        exact q_join () trivial aK (tH [(3, false)] 3)
       ·
        rintro rem k3 l7 ⟨⟩ o3 hk3 h22 hn3 j
        have h22 : matrix_Solve_L2 r2 r5 k3 l7 = some o3 := h22
        unfold matrix_Solve_L2 at h22
        refine wh_seq ?_
        refine wh_region ?_
        refine w_p Tb_ok 1 kr ?_
        refine wi_end kr ?_
        refine qh_then ?_
        refine wh_seq ?_
        refine h_ct (b := (decide (((k3 : Nat) : Int) < ((r5.zpivot.length : Nat) : Int)))) (rgT hk3) kr ?_
        refine wh_skip ?_
        refine qh_then ?_
        refine wh_seq ?_
        refine wh_block ?_
        refine wh_seq ?_
        refine wh_region ?_
        refine w_p Tb_ok 1 kr ?_
        obtain ⟨x8, ex8, h23⟩ := bnd h22
        refine w_ix (k := .i64) (own_hd 2 rfl) (nbd ex8) rfl kr ts_25 ti_3 ?_
        refine w_ldO 2 0 rfl ex8 kr ti_3 rfl rfl ?_
        rintro _
        refine w_p Tb_ok 2 kr ?_
        refine wi_end kr ?_
        refine qh_then ?_
        refine wh_region ?_
        refine w_p Tb_ok 5 kr ?_
        refine w_ldB 0 1 rfl kr ti_27 rfl rfl ?_
        refine w_p Tb_ok 1 kr ?_
        obtain ⟨x9, ex9, h24⟩ := bnd h23
        refine w_ix (k := .i64) (rd_hd 1 rfl) (nbd ex9) rfl kr ts_27 ti_30 ?_
        refine w_ldR 1 0 rfl ex9 kr ti_30 rfl rfl ?_
        rintro v9
        refine w_p Tb_ok 1 kr ?_
        obtain ⟨x10, ex10, h25⟩ := bnd h24
        refine w_ix (k := .i64) (rd_hd 0 rfl) (ib ex10) (iz ex10) kr ts_30 ti_22 ?_
        refine w_ldR 0 0 rfl (ig ex10) kr ti_22 rfl rfl ?_
        rintro _
        obtain ⟨x11, ex11, h26⟩ := bnd h25
        refine w_ix (k := .i64) (own_hd 4 rfl) (ib ex11) (iz ex11) kr ts_30 ti_22 ?_
        obtain ⟨l9, el9, h27⟩ := bnd h26
        refine w_stO (kd := Kd.u64) (w := .int .u64 x10) (m := x8.toNat) (x0 := x10) 4 () rfl (ib ex11) (sinj el9) kr ti_22 (cv0 kr) (it0 rfl) ?_
        refine wi_end kr ?_
        refine qh_block_normal ?_
        refine qh_then ?_
        refine wh_region ?_
        refine w_bi (zinc hk3 hN3) kr ?_
        refine w_p Tb_ok 1 kr ?_
        refine wi_end kr ?_
        have h27 := Option.some.inj h27; subst h27
        exact q_rs () hn3 aK (tH [(2, false), (2, true), (3, false), (0, false)] 2)
      ·
       rintro ⟨⟩ - j
       refine qh_then ?_
       refine wh_seq ?_
       refine wh_region ?_
       refine w_p Tb_ok 3 kr ?_
       refine wi_end kr ?_
       refine qh_then ?_
       refine wh_ret ?_
       have h21 := Option.some.inj h21; subst h21
       exact q_end (l := [v8, .int .i64 ((0 : Nat) : Int)]) [(0, false)] 0 ⟨v8, rfl, rfl⟩ (.inl rfl) kr kr kr
theorem c_reedsolomon_try {p_p : Nat} {p_pts : List T_api_Point} {p_deg : Int} {p_wrong : Int} {vp_pts_1 : Value} {r : (List Nat) × (List Nat) × Bool} (h : reedsolomon_try p_p p_pts p_deg p_wrong = some r) : Ct Tryd.prog 98 [.int .u64 p_p, vp_pts_1, .int .i64 p_deg, .int .i64 p_wrong] [rdV K_api_Point vp_pts_1 p_pts] (fun v L => ∃ w0 w1 : Value, v = .tuple #[w0, w1, .bool r.2.2] ∧ L = [rdV Kd.u64 w0 r.1, ownV Kd.u64 22 w1 r.2.1]) := by
 refine ct_intro Tryd.func98 rfl kr (fun F => ?_)
 unfold reedsolomon_try at h
 refine wh_seq ?_
 refine wh_region ?_
 refine w_p Tb_ok 3 kr ?_
 refine wi_end kr ?_
 refine qh_then ?_
 refine wh_seq ?_
 refine wh_region ?_
 refine w_p Tb_ok 1 kr ?_
 refine wi_end kr ?_
 refine qh_then ?_
 refine wh_seq ?_
 refine wh_region ?_
 refine w_p Tb_ok 1 kr ?_
 refine wi_end kr ?_
 refine qh_then ?_
 refine wh_seq ?_
 refine wh_seq ?_
 refine wh_region ?_
 refine w_p Tb_ok 1 kr ?_
 refine w_len (rd_hd 0 rfl) kr ts_111 ?_
 refine w_p Tb_ok 1 kr ?_
 refine wi_end kr ?_
 refine qh_then ?_
 refine WH.ent (ownNil (kd := (Kd.sl Kd.u64)) (e := 30)) ?_
 refine WH.ent (ownNil (kd := Kd.u64) (e := 22)) ?_
 refine h_lenle (rd_lenle 2 rfl) (fun hN1 => ?_)
 obtain ⟨⟨l3, l4⟩, el1, h1⟩ := bnd h
 refine h_join (X := Value × Value) (fun g => [(0, .int .u64 p_p), (2, .int .i64 p_deg), (3, .int .i64 p_wrong), (11, g.1), (12, g.2)]) (fun g => [ownV (Kd.sl Kd.u64) 30 g.1 l3, ownV Kd.u64 22 g.2 l4] ++ F) (fun _ => True) ?_ ?_
 ·
  refine wh_block ?_
  refine h_rs (fun (k1 : Nat) (st : (List (List Nat)) × (List Nat)) (g : Value × Value) => [(0, .int .u64 p_p), (2, .int .i64 p_deg), (3, .int .i64 p_wrong), (11, g.1), (12, g.2), (20, vp_pts_1), (21, .int .i64 ((p_pts.length : Nat) : Int)), (22, .int .i64 ((k1 : Nat) : Int))]) (fun (k1 : Nat) (st : (List (List Nat)) × (List Nat)) (g : Value × Value) => [ownV (Kd.sl Kd.u64) 30 g.1 st.1, ownV Kd.u64 22 g.2 st.2, rdV K_api_Point vp_pts_1 p_pts] ++ F) ((.slice none 0 0), (.slice none 0 0)) el1 (Nat.zero_le _) aK (tH [(1, false), (0, false), (0, true)] 1) ?_ ?_
  ·
   rintro ⟨g5, g6⟩ j
   refine wh_seq ?_
   refine wh_region ?_
   refine w_p Tb_ok 1 kr ?_
   refine wi_end kr ?_
   refine qh_then ?_
   refine wh_seq ?_
   refine h_cf (b := (decide ((((p_pts.length) : Nat) : Int) < ((p_pts.length : Nat) : Int)))) rgF kr ?_
   refine wh_exit ?_
   refine qh_then_exit ?_
   refine q_rzX ?_
   refine qh_block_exit ?_
   exact q_join (g5, g6) trivial aK (tH [(0, false), (0, false)] 1)
  ·
   rintro rem k1 ⟨l1, l2⟩ ⟨g1, g2⟩ o1 hk1 h2 hn1 j
   have h2 : reedsolomon_try_L0 p_p p_pts p_deg p_wrong k1 l1 l2 = some o1 := h2
   unfold reedsolomon_try_L0 at h2
   refine wh_seq ?_
   refine wh_region ?_
   refine w_p Tb_ok 1 kr ?_
   refine wi_end kr ?_
   refine qh_then ?_
   refine wh_seq ?_
   refine h_ct (b := (decide (((k1 : Nat) : Int) < ((p_pts.length : Nat) : Int)))) (rgT hk1) kr ?_
   refine wh_skip ?_
   refine qh_then ?_
   refine wh_seq ?_
   refine wh_block ?_
   refine wh_seq ?_
   refine wh_region ?_
   obtain ⟨x2, ex2, h3⟩ := bnd h2
   refine w_ix (k := .i64) (rd_hd 2 rfl) (nbd ex2) rfl kr ts_111 ti_113 ?_
   refine w_ldR 2 0 rfl ex2 kr ti_113 rfl rfl ?_
   rintro ⟨_, _⟩
   refine w_al kr ti_113 (fun q1 => ?_)
   refine WI.hd (y := blkP q1 113 [.int .u64 ((0 : Nat) : Int), .int .u64 ((0 : Nat) : Int)]) kr ?_
   refine w_opP 0 rfl (fun b1 hb => ?_)
   subst hb
   refine w_stB (v := .agg #[.int .u64 x2.X, .int .u64 x2.Y]) (off := 0) (cs := [.int .u64 x2.X, .int .u64 x2.Y]) 0 rfl (cv0 kr) kr ti_113 rfl rfl (oC (fun _ _ => rfl) (oC (fun _ _ => rfl) oN)) ?_
   refine WI.hd (y := blkP (.pointer (some ⟨b1, 0, none⟩)) 113 [.int .u64 x2.X, .int .u64 x2.Y]) kr ?_
   refine wi_end kr ?_
   refine qh_then ?_
   refine wh_seq ?_
   refine wh_region ?_
   refine w_p Tb_ok 1 kr ?_
   refine wi_end kr ?_
   refine qh_then ?_
   refine wh_seq ?_
   refine wh_region ?_
   refine w_p Tb_ok 1 kr ?_
   refine wi_end kr ?_
   refine qh_then ?_
   refine wh_seq ?_
   refine wh_seq ?_
   refine wh_region ?_
   refine w_p Tb_ok 2 kr ?_
   obtain ⟨x3, ex3, h4⟩ := bnd h3
   refine w_bi (zaddI ex3) kr ?_
   obtain ⟨x4, ex4, h5⟩ := bnd h4
   refine w_bi (zaddI ex4) kr ?_
   refine w_p Tb_ok 1 kr ?_
   refine wi_end kr ?_
   refine qh_then ?_
   refine WH.ent (ownNil (kd := Kd.u64) (e := 22)) ?_
   obtain ⟨u1, eu1, h6⟩ := bnd h5
   have hN2 := ckN_some eu1
   obtain ⟨⟨l6, x7⟩, el2, h7⟩ := bnd h6
   refine h_join (X := Value) (fun g => [(0, .int .u64 p_p), (2, .int .i64 p_deg), (3, .int .i64 p_wrong), (11, g1), (12, g2), (14, (.pointer (some ⟨b1, 0, none⟩))), (15, g), (20, vp_pts_1), (21, .int .i64 ((p_pts.length : Nat) : Int)), (22, .int .i64 ((k1 : Nat) : Int))]) (fun g => [ownV (Kd.sl Kd.u64) 30 g1 l1, ownV Kd.u64 22 g2 l2, blkP (.pointer (some ⟨b1, 0, none⟩)) 113 [.int .u64 x2.X, .int .u64 x2.Y], ownV Kd.u64 22 g l6, rdV K_api_Point vp_pts_1 p_pts] ++ F) (fun _ => True) ?_ ?_
   ·
    refine wh_block ?_
    refine h_rs (fun (k2 : Nat) (st : (List Nat) × Nat) (g : Value) => [(0, .int .u64 p_p), (2, .int .i64 p_deg), (3, .int .i64 p_wrong), (11, g1), (12, g2), (14, (.pointer (some ⟨b1, 0, none⟩))), (15, g), (16, .int .u64 st.2), (20, vp_pts_1), (21, .int .i64 ((p_pts.length : Nat) : Int)), (22, .int .i64 ((k1 : Nat) : Int)), (29, .int .i64 x4), (30, .int .i64 ((k2 : Nat) : Int))]) (fun (k2 : Nat) (st : (List Nat) × Nat) (g : Value) => [ownV (Kd.sl Kd.u64) 30 g1 l1, ownV Kd.u64 22 g2 l2, blkP (.pointer (some ⟨b1, 0, none⟩)) 113 [.int .u64 x2.X, .int .u64 x2.Y], ownV Kd.u64 22 g st.1, rdV K_api_Point vp_pts_1 p_pts] ++ F) (.slice none 0 0) el2 (Nat.le_max_left ..) aK (tH [(2, false), (2, false), (1, false), (0, false), (0, true)] 1) ?_ ?_
    ·
     rintro g9 j
     refine wh_seq ?_
     refine wh_region ?_
     refine w_p Tb_ok 1 kr ?_
     refine wi_end kr ?_
     refine qh_then ?_
     refine wh_seq ?_
     refine h_cf (b := (decide ((((max 0 (x4).toNat) : Nat) : Int) < x4))) rgLF kr ?_
     refine wh_exit ?_
     refine qh_then_exit ?_
     refine q_rzX ?_
     refine qh_block_exit ?_
     exact q_join g9 trivial aK (tH [(0, false), (0, false), (0, false), (0, false), (0, true)] 1)
    ·
     rintro rem k2 ⟨l5, x5⟩ g7 o2 hk2 h8 hn2 j
     have h8 : reedsolomon_try_L1 p_p x2 k2 l5 x5 = some o2 := h8
     unfold reedsolomon_try_L1 at h8
     refine wh_seq ?_
     refine wh_region ?_
     refine w_p Tb_ok 1 kr ?_
     refine wi_end kr ?_
     refine qh_then ?_
     refine wh_seq ?_
     refine h_ct (b := (decide (((k2 : Nat) : Int) < x4))) (rgLT hk2) kr ?_
     refine wh_skip ?_
     refine qh_then ?_
     refine wh_seq ?_
     refine wh_block ?_
     refine wh_seq ?_
     refine wh_region ?_
     refine w_p Tb_ok 2 kr ?_
     refine w_lt (kd := Kd.u64) (t := 30) (len := 1) (ps0 := [(0, .int .u64 x5)]) (ps := [(0, .int .u64 x5)]) ([x5] : List Nat) _ (rowC (x := x5) (g := ()) (it0 rfl) row0) (scI sc0) kr ts_30 ti_22 kr rfl rfl (fun v1 => ?_)
     obtain ⟨l7, el7, h9⟩ := bnd h8
     refine w_app 4 rfl (own_src 0 rfl) el7 kr ts_30 ti_22 rfl (fun v2 => ?_)
     refine w_p Tb_ok 1 kr ?_
     refine wi_end kr ?_
     refine qh_then ?_
     refine wh_region ?_
     refine w_p Tb_ok 3 kr ?_
     refine w_ldB 4 0 rfl kr ti_22 rfl rfl ?_
     obtain ⟨r3, er3, h10⟩ := bnd h9
     refine w_fn [] (c_field_Mul er3) rfl fok_87 kr ?_
     rintro _ _ ⟨hv, rfl⟩; have hv := hv.symm; subst hv
     refine w_p Tb_ok 1 kr ?_
     refine wi_end kr ?_
     refine qh_block_normal ?_
     refine qh_then ?_
     refine wh_region ?_
     refine w_bi (zinc hk2 hN2) kr ?_
     refine w_p Tb_ok 1 kr ?_
     refine wi_end kr ?_
     have h10 := Option.some.inj h10; subst h10
     exact q_rs v2 hn2 aK (tH [(2, false), (2, false), (2, false), (0, false), (1, true)] 2)
   ·
    rintro g8 - j
    refine qh_then ?_
    refine wh_seq ?_
    refine wh_region ?_
    refine w_p Tb_ok 1 kr ?_
    refine w_ldB 2 1 rfl kr ti_22 rfl rfl ?_
    refine w_p Tb_ok 1 kr ?_
    refine wi_end kr ?_
    refine qh_then ?_
    refine wh_seq ?_
    refine wh_seq ?_
    refine wh_region ?_
    refine w_p Tb_ok 2 kr ?_
    refine wi_end kr ?_
    refine qh_then ?_
    obtain ⟨u2, eu2, h11⟩ := bnd h7
    have hN3 := ckN_some eu2
    obtain ⟨⟨l9, x10⟩, el3, h12⟩ := bnd h11
    refine h_join (X := Value) (fun g => [(0, .int .u64 p_p), (2, .int .i64 p_deg), (3, .int .i64 p_wrong), (11, g1), (12, g2), (15, g), (16, .int .u64 x10), (20, vp_pts_1), (21, .int .i64 ((p_pts.length : Nat) : Int)), (22, .int .i64 ((k1 : Nat) : Int))]) (fun g => [ownV (Kd.sl Kd.u64) 30 g1 l1, ownV Kd.u64 22 g2 l2, ownV Kd.u64 22 g l9, rdV K_api_Point vp_pts_1 p_pts] ++ F) (fun _ => True) ?_ ?_
    ·
     refine wh_block ?_
     refine h_rs (fun (k3 : Nat) (st : (List Nat) × Nat) (g : Value) => [(0, .int .u64 p_p), (2, .int .i64 p_deg), (3, .int .i64 p_wrong), (11, g1), (12, g2), (14, (.pointer (some ⟨b1, 0, none⟩))), (15, g), (16, .int .u64 st.2), (20, vp_pts_1), (21, .int .i64 ((p_pts.length : Nat) : Int)), (22, .int .i64 ((k1 : Nat) : Int)), (44, .int .i64 p_wrong), (45, .int .i64 ((k3 : Nat) : Int))]) (fun (k3 : Nat) (st : (List Nat) × Nat) (g : Value) => [ownV (Kd.sl Kd.u64) 30 g1 l1, ownV Kd.u64 22 g2 l2, blkP (.pointer (some ⟨b1, 0, none⟩)) 113 [.int .u64 x2.X, .int .u64 x2.Y], ownV Kd.u64 22 g st.1, rdV K_api_Point vp_pts_1 p_pts] ++ F) g8 el3 (Nat.le_max_left ..) aK (tH [(0, false), (0, false), (0, false), (0, false), (0, true)] 1) ?_ ?_
     ·
      rintro g12 j
      refine wh_seq ?_
      refine wh_region ?_
      refine w_p Tb_ok 1 kr ?_
      refine wi_end kr ?_
      refine qh_then ?_
      refine wh_seq ?_
      refine h_cf (b := (decide ((((max 0 (p_wrong).toNat) : Nat) : Int) < p_wrong))) rgLF kr ?_
      refine wh_exit ?_
      refine qh_then_exit ?_
      refine q_rzX ?_
      refine qh_block_exit ?_
      exact q_join g12 trivial aK (tH [(0, false), (0, false), (1, false), (1, true)] 2)
     ·
      rintro rem k3 ⟨l8, x8⟩ g10 o3 hk3 h13 hn3 j
      have h13 : reedsolomon_try_L2 p_p x2 k3 l8 x8 = some o3 := h13
      unfold reedsolomon_try_L2 at h13
      refine wh_seq ?_
      refine wh_region ?_
      refine w_p Tb_ok 1 kr ?_
      refine wi_end kr ?_
      refine qh_then ?_
      refine wh_seq ?_
      refine h_ct (b := (decide (((k3 : Nat) : Int) < p_wrong))) (rgLT hk3) kr ?_
      refine wh_skip ?_
      refine qh_then ?_
      refine wh_seq ?_
      refine wh_block ?_
      refine wh_seq ?_
      refine wh_region ?_
      refine w_p Tb_ok 3 kr ?_
      obtain ⟨r5, er5, h14⟩ := bnd h13
      refine w_fn [] (c_field_Neg er5) rfl fok_116 kr ?_
      rintro _ _ ⟨hv, rfl⟩; have hv := hv.symm; subst hv
      refine w_lt (kd := Kd.u64) (t := 30) (len := 1) (ps0 := [(0, .int .u64 r5)]) (ps := [(0, .int .u64 r5)]) ([r5] : List Nat) _ (rowC (x := r5) (g := ()) (it0 rfl) row0) (scI sc0) kr ts_30 ti_22 kr rfl rfl (fun v3 => ?_)
      obtain ⟨l10, el10, h15⟩ := bnd h14
      refine w_app 4 rfl (own_src 0 rfl) el10 kr ts_30 ti_22 rfl (fun v4 => ?_)
      refine w_p Tb_ok 1 kr ?_
      refine wi_end kr ?_
      refine qh_then ?_
      refine wh_region ?_
      refine w_p Tb_ok 3 kr ?_
      refine w_ldB 4 0 rfl kr ti_22 rfl rfl ?_
      obtain ⟨r6, er6, h16⟩ := bnd h15
      refine w_fn [] (c_field_Mul er6) rfl fok_87 kr ?_
      rintro _ _ ⟨hv, rfl⟩; have hv := hv.symm; subst hv
      refine w_p Tb_ok 1 kr ?_
      refine wi_end kr ?_
      refine qh_block_normal ?_
      refine qh_then ?_
      refine wh_region ?_
      refine w_bi (zinc hk3 hN3) kr ?_
      refine w_p Tb_ok 1 kr ?_
      refine wi_end kr ?_
      have h16 := Option.some.inj h16; subst h16
      exact q_rs v4 hn3 aK (tH [(2, false), (2, false), (2, false), (0, false), (1, true)] 2)
    ·
     rintro g11 - j
     refine qh_then ?_
     refine wh_seq ?_
     refine wh_region ?_
     refine w_p Tb_ok 2 kr ?_
     refine WI.ent (frzAt 2 rfl) ?_
     refine w_lt (kd := (Kd.sl Kd.u64)) (t := 27) (len := 1) (ps0 := [(0, g11)]) (ps := [(0, .agg #[g11])]) ([l9] : List (List Nat)) _ (rowC (x := l9) (g := g11) (itS 0 rfl) row0) (scS (rd_hd 0 rfl) sc0) kr ts_27 ti_30 kr rfl rfl (fun v5 => ?_)
     obtain ⟨l11, el11, h17⟩ := bnd h12
     refine w_app 2 rfl (own_src 0 rfl) el11 kr ts_27 ti_30 rfl (fun v6 => ?_)
     refine w_p Tb_ok 1 kr ?_
     refine wi_end kr ?_
     refine qh_then ?_
     refine wh_region ?_
     refine w_p Tb_ok 2 kr ?_
     refine w_lt (kd := Kd.u64) (t := 30) (len := 1) (ps0 := [(0, .int .u64 x10)]) (ps := [(0, .int .u64 x10)]) ([x10] : List Nat) _ (rowC (x := x10) (g := ()) (it0 rfl) row0) (scI sc0) kr ts_30 ti_22 kr rfl rfl (fun v7 => ?_)
     obtain ⟨l12, el12, h18⟩ := bnd h17
     refine w_app 4 rfl (own_src 0 rfl) el12 kr ts_30 ti_22 rfl (fun v8 => ?_)
     refine w_p Tb_ok 1 kr ?_
     refine wi_end kr ?_
     refine qh_block_normal ?_
     refine qh_then ?_
     refine wh_region ?_
     refine w_bi (zinc hk1 hN1) kr ?_
     refine w_p Tb_ok 1 kr ?_
     refine wi_end kr ?_
     have h18 := Option.some.inj h18; subst h18
     exact q_rs (v6, v8) hn1 aK (tH [(2, false), (0, false), (3, true)] 4)
 ·
  rintro ⟨g3, g4⟩ - j
  refine qh_then ?_
  refine wh_seq ?_
  refine wh_region ?_
  refine w_p Tb_ok 3 kr ?_
  refine WI.ent (frzAt 0 rfl) ?_
  refine WI.ent (frzAt 1 rfl) ?_
  obtain ⟨r7, er7, h19⟩ := bnd h1
  refine w_fn [(1, true), (0, true)] (c_matrix_Solve er7) rfl fok_126 kr ?_
  rintro _ _ ⟨w4, hv, rfl⟩; have hv := hv.symm; subst hv
  refine w_p Tb_ok 5 kr ?_
  refine wi_end kr ?_
  refine qh_then ?_
  refine wh_seq ?_
  refine wh_seq ?_
  refine wh_region ?_
  refine w_p Tb_ok 2 kr ?_
  refine wi_end kr ?_
  refine qh_then ?_
  rcases bcase h19 with ⟨t1, h20⟩ | ⟨t1, h20⟩
  ·
   refine h_ct (b := (r7.2 != (0 : Int))) t1 kr ?_
   refine wh_seq ?_
   refine wh_region ?_
   refine w_p Tb_ok 3 kr ?_
   refine wi_end kr ?_
   refine qh_then ?_
   refine wh_ret ?_
   refine qh_then_ret ?_
   refine QH.ent (rdNil (kd := Kd.u64)) ?_
   refine QH.ent (ownNil (kd := Kd.u64) (e := 22)) ?_
   have h20 := Option.some.inj h20; subst h20
   exact q_end (l := [(.slice none 0 0), (.slice none 0 0), .bool false]) [(1, true), (0, false)] 4 ⟨(.slice none 0 0), (.slice none 0 0), rfl, rfl⟩ (.inl rfl) kr kr kr
  ·
   refine h_cf (b := (r7.2 != (0 : Int))) t1 kr ?_
   refine wh_skip ?_
   refine qh_then ?_
   refine wh_seq ?_
   refine wh_region ?_
   refine w_p Tb_ok 2 kr ?_
   obtain ⟨x11, ex11, h21⟩ := bnd h20
   refine w_bi (zaddI ex11) kr ?_
   obtain ⟨x12, ex12, h22⟩ := bnd h21
   refine w_bi (zaddI ex12) kr ?_
   refine w_p Tb_ok 1 kr ?_
   refine wi_end kr ?_
   refine qh_then ?_
   refine wh_seq ?_
   refine WH.ent (frzAt 0 rfl) ?_
   obtain ⟨l13, el13, h23⟩ := bnd h22
   obtain ⟨l14, el14, h24⟩ := bnd h23
   obtain ⟨l15, el15, h25⟩ := bnd h24
   obtain ⟨l16, el16, h26⟩ := bnd h25
   refine h_flow [0, 0, 3, 0, 0, 0, 48, 120, 0, 504, 1023, 2047, 4095] ⟨3, [0, 0, 1, 1, 0, 0, 1, 1, 1, 1, 0, 0, 0], [(7, [(4, 0)]), (9, [(8, 0)])], [(9, [(9, 0)])], [(2, [(0, 0)]), (6, [(0, 0)]), (7, [(7, 0)])]⟩ (fun γ => [w4, .int .i64 x12, (γ 2 0), (γ 3 0), w4, .int .i64 x12, (γ 6 0), (γ 7 0), (γ 8 0), (γ 9 0), (γ 2 0), (γ 9 0), .bool true]) (fun i γ => match i with | 2 => [rdV Kd.u64 (γ 2 0) l13] | 3 => [ownV Kd.u64 22 (γ 3 0) ([] : List Nat)] | 6 => [rdV Kd.u64 (γ 6 0) l14] | 7 => [ownV Kd.u64 22 (γ 7 0) l15] | 8 => [ownV Kd.u64 22 (γ 8 0) ([1] : List Nat)] | 9 => [ownV Kd.u64 22 (γ 9 0) l16] | _ => []) (fun γ => [rdV Kd.u64 w4 r7.1, rdV Kd.u64 g4 l4, rdV (Kd.sl Kd.u64) g3 l3, rdV Kd.u64 (γ 2 0) l13, rdV Kd.u64 (γ 6 0) l14, ownV Kd.u64 22 (γ 8 0) ([1] : List Nat), ownV Kd.u64 22 (γ 9 0) l16] ++ F) [0, 1, 4, 5, 10, 11, 12] tryd_mix Tb_ok kr kr (fun _ => by kernel_rfl) (fun _ => by kernel_rfl) (fun _ => by kernel_rfl) (fun _ => by kernel_rfl) (fun _ => by kernel_rfl) (fun _ => by kernel_rfl) (fun _ => by kernel_rfl) ?_ ?_
   ·
    refine ⟨?_, ?_, ?_, ?_, ?_, ?_, trivial⟩
    ·
     intro γ F
     refine WI.reH (H' := [rdV Kd.u64 w4 r7.1] ++ F) kr ?_
     refine w_cut 0 rfl el13 loN (hiS (k := .i64)) kr ts_30 ti_22 (fun v9 => ?_)
     exact wE (gl [v9]) [(0, true)] 2
    ·
     intro γ F
     refine WI.reH (H' := [] ++ F) kr ?_
     refine w_lt (kd := Kd.u64) (t := 30) (len := 0) (ps0 := []) (ps := []) ([] : List Nat) _ row0 sc0 kr ts_30 ti_22 kr rfl rfl (fun v10 => ?_)
     exact wE (gl [v10]) [(0, false)] 0
    ·
     intro γ F
     refine WI.reH (H' := [rdV Kd.u64 w4 r7.1] ++ F) kr ?_
     refine w_cut 0 rfl el14 (loS (k := .i64)) hiN kr ts_30 ti_22 (fun v11 => ?_)
     exact wE (gl [v11]) [(0, true)] 2
    ·
     intro γ F
     refine WI.reH (H' := [ownV Kd.u64 22 (γ 3 0) ([] : List Nat), rdV Kd.u64 (γ 6 0) l14] ++ F) kr ?_
     refine w_app 0 rfl (rd_src 1 rfl) el15 kr ts_30 ti_22 rfl (fun v12 => ?_)
     exact wE (gl [v12]) [(0, false)] 1
    ·
     intro γ F
     refine WI.reH (H' := [] ++ F) kr ?_
     refine w_lt (kd := Kd.u64) (t := 30) (len := 1) (ps0 := [(0, .int .u64 ((1 : Nat) : Int))]) (ps := [(0, .int .u64 ((1 : Nat) : Int))]) ([1] : List Nat) _ (rowC (x := 1) (g := ()) (it0 rfl) row0) (scI sc0) kr ts_30 ti_22 kr rfl rfl (fun v13 => ?_)
     exact wE (gl [v13]) [(0, false)] 0
    ·
     intro γ F
     refine WI.reH (H' := [ownV Kd.u64 22 (γ 7 0) l15, ownV Kd.u64 22 (γ 8 0) ([1] : List Nat)] ++ F) kr ?_
     refine w_app 0 rfl (own_src 1 rfl) el16 kr ts_30 ti_22 rfl (fun v14 => ?_)
     exact wE (gl [v14]) [(0, false), (0, false)] 0
   ·
    intro γ1
    refine qh_then ?_
    refine wh_ret ?_
    have h26 := Option.some.inj h26; subst h26
    exact q_end (l := [(γ1 2 0), (γ1 9 0), .bool true]) [(3, true), (6, false)] 6 ⟨(γ1 2 0), (γ1 9 0), rfl, rfl⟩ (.inl rfl) kr kr kr
theorem c_poly_Degree {p_f : List Nat} {vp_f_1 : Value} {r : Int} (h : poly_Degree p_f = some r) : Ct Tryd.prog 100 [vp_f_1] [rdV Kd.u64 vp_f_1 p_f] (fun v L => v = .int .i64 r ∧ L = []) := by
 refine ct_intro Tryd.func100 rfl kr (fun F => ?_)
 unfold poly_Degree at h
 refine wh_seq ?_
 refine wh_region ?_
 refine w_p Tb_ok 1 kr ?_
 refine wi_end kr ?_
 refine qh_then ?_
 refine wh_seq ?_
 refine wh_seq ?_
 refine wh_region ?_
 refine w_p Tb_ok 1 kr ?_
 refine w_len (rd_hd 0 rfl) kr ts_30 ?_
 obtain ⟨x1, ex1, h1⟩ := bnd h
 refine w_bi (zsubI ex1) kr ?_
 refine w_p Tb_ok 1 kr ?_
 refine wi_end kr ?_
 refine qh_then ?_
 obtain ⟨r1, el1, h2⟩ := bnd h1
 refine h_join (X := Unit × Unit) (fun g => []) (fun g => [] ++ F) (fun g => r1 = .inr g.2) ?_ ?_
 ·
  refine wh_block ?_
  refine h_lp (fun (st : Int) (g : Unit) => [(0, vp_f_1), (3, .int .i64 st)]) (fun (st : Int) (g : Unit) => [rdV Kd.u64 vp_f_1 p_f] ++ F) () el1 aK (tH [(0, true)] 1) ?_
  rintro kk x2 ⟨⟩ o1 h3 hn1 j
  have h3 : poly_Degree_L0 p_f x2 = some o1 := h3
  unfold poly_Degree_L0 at h3
  refine wh_seq ?_
  refine wh_seq ?_
  refine wh_region ?_
  refine w_p Tb_ok 2 kr ?_
  refine wi_end kr ?_
  refine qh_then ?_
  rcases bcase h3 with ⟨t1, h4⟩ | ⟨t1, h4⟩
  ·
   refine h_ct (b := (decide (x2 ≥ (0 : Int)))) t1 kr ?_
   refine wh_skip ?_
   refine qh_then ?_
   refine wh_seq ?_
   refine wh_block ?_
   refine wh_seq ?_
   refine wh_region ?_
   refine w_p Tb_ok 2 kr ?_
   obtain ⟨x3, ex3, h5⟩ := bnd h4
   refine w_ix (k := .i64) (rd_hd 0 rfl) (ib ex3) (iz ex3) kr ts_30 ti_22 ?_
   refine w_ldR 0 0 rfl (ig ex3) kr ti_22 rfl rfl ?_
   rintro _
   refine w_p Tb_ok 1 kr ?_
   refine wi_end kr ?_
   refine qh_then ?_
   rcases bcase h5 with ⟨t2, h6⟩ | ⟨t2, h6⟩
   ·
    refine h_ct (b := (((x3 : Nat) : Int) != (0 : Int))) t2 kr ?_
    refine wh_seq ?_
    refine wh_region ?_
    refine w_p Tb_ok 2 kr ?_
    refine wi_end kr ?_
    refine qh_then ?_
    refine wh_ret ?_
    refine qh_block_ret ?_
    refine qh_then_ret ?_
    refine q_lpR ?_
    refine qh_block_ret ?_
    refine q_joinR ?_
    refine qh_then_ret ?_
    have h6 := Option.some.inj h6; subst h6
    have hn := (show _ = _ from hn1); subst hn
    have h2 := Option.some.inj (show some _ = some _ from h2); subst h2
    exact q_end (l := [.int .i64 x2]) [] 1 ⟨rfl, rfl⟩ (.inl rfl) kr kr kr
   ·
    refine h_cf (b := (((x3 : Nat) : Int) != (0 : Int))) t2 kr ?_
    refine wh_skip ?_
    refine qh_block_normal ?_
    refine qh_then ?_
    refine wh_region ?_
    refine w_p Tb_ok 1 kr ?_
    obtain ⟨x4, ex4, h7⟩ := bnd h6
    refine w_bi (zsubI ex4) kr ?_
    refine w_p Tb_ok 1 kr ?_
    refine wi_end kr ?_
    have h7 := Option.some.inj h7; subst h7
    exact q_go () hn1 aK (tH [(0, true)] 1)
  ·
   refine h_cf (b := (decide (x2 ≥ (0 : Int)))) t1 kr ?_
   refine wh_exit ?_
   refine qh_then_exit ?_
   refine q_lpX ?_
   refine qh_block_exit ?_
   have h4 := Option.some.inj h4; subst h4
   exact q_join ((), ()) (Eq.symm hn1) aK (tH [] 1)
 ·
  rintro ⟨⟨⟩, ⟨⟩⟩ hc j
  subst hc
  refine qh_then ?_
  refine wh_seq ?_
  refine wh_region ?_
  refine w_p Tb_ok 1 kr ?_
  refine wi_end kr ?_
  refine qh_then ?_
  refine wh_ret ?_
  have h2 := Option.some.inj h2; subst h2
  exact q_end (l := [.int .i64 (-1)]) [] 0 ⟨rfl, rfl⟩ (.inl rfl) kr kr kr
theorem c_poly_Trim {p_f : List Nat} {vp_f_1 : Value} {r : (List Nat)} (h : poly_Trim p_f = some r) : Ct Tryd.prog 127 [vp_f_1] [rdV Kd.u64 vp_f_1 p_f] (fun v L => ∃ w0 : Value, v = w0 ∧ L = [ownV Kd.u64 22 w0 r]) := by
 refine ct_intro Tryd.func127 rfl kr (fun F => ?_)
 unfold poly_Trim at h
 refine wh_seq ?_
 refine wh_region ?_
 refine w_p Tb_ok 1 kr ?_
 refine wi_end kr ?_
 refine qh_then ?_
 refine wh_seq ?_
 refine wh_region ?_
 refine w_p Tb_ok 1 kr ?_
 obtain ⟨r1, er1, h1⟩ := bnd h
 refine w_fn [(0, true)] (c_poly_Degree er1) rfl fok_100 kr ?_
 rintro _ _ ⟨hv, rfl⟩; have hv := hv.symm; subst hv
 obtain ⟨x1, ex1, h2⟩ := bnd h1
 refine w_bi (zaddI ex1) kr ?_
 refine w_p Tb_ok 1 kr ?_
 refine wi_end kr ?_
 refine qh_then ?_
 refine wh_seq ?_
 refine wh_region ?_
 refine w_p Tb_ok 2 kr ?_
 obtain ⟨l1, el1, h3⟩ := bnd h2
 refine w_cut 0 rfl el1 loN (hiS (k := .i64)) kr ts_30 ti_22 (fun v1 => ?_)
 obtain ⟨l2, el2, h4⟩ := bnd h3
 refine w_app0 (kd := Kd.u64) (rd_src 0 rfl) el2 kr ts_30 ti_22 rfl (fun v2 => ?_)
 refine w_p Tb_ok 1 kr ?_
 refine wi_end kr ?_
 refine qh_then ?_
 refine wh_ret ?_
 have h4 := Option.some.inj h4; subst h4
 exact q_end (l := [v2]) [(0, false)] 2 ⟨v2, rfl, rfl⟩ (.inl rfl) kr kr kr
theorem c_poly_DivMod {p_p : Nat} {p_a : List Nat} {p_b : List Nat} {vp_a_1 : Value} {vp_b_1 : Value} {r : (List Nat) × (List Nat) × Int} (h : poly_DivMod p_p p_a p_b = some r) : Ct Tryd.prog 99 [.int .u64 p_p, vp_a_1, vp_b_1] [rdV Kd.u64 vp_a_1 p_a, rdV Kd.u64 vp_b_1 p_b] (fun v L => ∃ w0 w1 : Value, v = .tuple #[w0, w1, .int .i64 r.2.2] ∧ L = [ownV Kd.u64 22 w0 r.1, ownV Kd.u64 22 w1 r.2.1]) := by
 refine ct_intro Tryd.func99 rfl kr (fun F => ?_)
 unfold poly_DivMod at h
 refine wh_seq ?_
 refine wh_region ?_
 refine w_p Tb_ok 3 kr ?_
 refine wi_end kr ?_
 refine qh_then ?_
 refine wh_seq ?_
 refine wh_region ?_
 refine w_p Tb_ok 1 kr ?_
 obtain ⟨r1, er1, h1⟩ := bnd h
 refine w_fn [(1, true)] (c_poly_Trim er1) rfl fok_127 kr ?_
 rintro _ _ ⟨w1, hv, rfl⟩; have hv := hv.symm; subst hv
 refine w_p Tb_ok 1 kr ?_
 refine wi_end kr ?_
 refine qh_then ?_
 refine wh_seq ?_
 refine wh_seq ?_
 refine wh_region ?_
 refine w_p Tb_ok 1 kr ?_
 refine w_len (own_hd 0 rfl) kr ts_30 ?_
 refine w_p Tb_ok 1 kr ?_
 refine wi_end kr ?_
 refine qh_then ?_
 rcases bcase h1 with ⟨t1, h2⟩ | ⟨t1, h2⟩
 ·
  refine h_ct (b := (((r1.length : Nat) : Int) == (0 : Int))) t1 kr ?_
  refine wh_seq ?_
  refine wh_region ?_
  refine w_p Tb_ok 3 kr ?_
  refine wi_end kr ?_
  refine qh_then ?_
  refine wh_ret ?_
  refine qh_then_ret ?_
  refine QH.ent (ownNil (kd := Kd.u64) (e := 22)) ?_
  refine QH.ent (ownNil (kd := Kd.u64) (e := 22)) ?_
  have h2 := Option.some.inj h2; subst h2
  exact q_end (l := [(.slice none 0 0), (.slice none 0 0), .int .i64 ((8 : Nat) : Int)]) [(1, false), (0, false)] 3 ⟨(.slice none 0 0), (.slice none 0 0), rfl, rfl⟩ (.inl rfl) kr kr kr
 ·
  refine h_cf (b := (((r1.length : Nat) : Int) == (0 : Int))) t1 kr ?_
  refine wh_skip ?_
  refine qh_then ?_
  refine wh_seq ?_
  refine wh_region ?_
  refine w_p Tb_ok 3 kr ?_
  refine w_len (own_hd 0 rfl) kr ts_30 ?_
  obtain ⟨x1, ex1, h3⟩ := bnd h2
  refine w_bi (zsubI ex1) kr ?_
  obtain ⟨x2, ex2, h4⟩ := bnd h3
  refine w_ix (k := .i64) (own_hd 0 rfl) (ib ex2) (iz ex2) kr ts_30 ti_22 ?_
  refine w_ldO 0 0 rfl (ig ex2) kr ti_22 rfl rfl ?_
  rintro _
  obtain ⟨r2, er2, h5⟩ := bnd h4
  refine w_fn [] (c_field_Inverse er2) rfl fok_128 kr ?_
  rintro _ _ ⟨hv, rfl⟩; have hv := hv.symm; subst hv
  refine w_p Tb_ok 5 kr ?_
  refine wi_end kr ?_
  refine qh_then ?_
  refine wh_seq ?_
  refine wh_region ?_
  refine w_p Tb_ok 1 kr ?_
  obtain ⟨r3, er3, h6⟩ := bnd h5
  refine w_fn [(1, true)] (c_poly_Trim er3) rfl fok_127 kr ?_
  rintro _ _ ⟨w4, hv, rfl⟩; have hv := hv.symm; subst hv
  refine w_p Tb_ok 1 kr ?_
  refine wi_end kr ?_
  refine qh_then ?_
  refine wh_seq ?_
  refine wh_region ?_
  refine w_p Tb_ok 1 kr ?_
  refine w_len (own_hd 0 rfl) kr ts_30 ?_
  refine w_p Tb_ok 1 kr ?_
  refine w_len (own_hd 1 rfl) kr ts_30 ?_
  obtain ⟨x3, ex3, h7⟩ := bnd h6
  refine w_bi (zsubI ex3) kr ?_
  obtain ⟨x4, ex4, h8⟩ := bnd h7
  refine w_bi (zaddI ex4) kr ?_
  obtain ⟨x5, ex5, h9⟩ := bnd h8
  refine w_maxI ex5 kr ?_
  obtain ⟨l1, el1, h10⟩ := bnd h9
  refine w_mk (kd := Kd.u64) (kl := .i64) (kc := .i64) () el1 kr ts_30 ti_22 rfl kr (it0 rfl) (fun v1 => ?_)
  refine w_p Tb_ok 1 kr ?_
  refine wi_end kr ?_
  refine qh_then ?_
  refine wh_seq ?_
  obtain ⟨⟨l6, l7⟩, el1, h11⟩ := bnd h10
  refine h_join (X := Value) (fun g => [(11, g), (12, v1)]) (fun g => [ownV Kd.u64 22 g l6, ownV Kd.u64 22 v1 l7] ++ F) (fun _ => True) ?_ ?_
  ·
   refine wh_block ?_
   refine h_lp (fun (st : (List Nat) × (List Nat)) (g : Value) => [(0, .int .u64 p_p), (2, w1), (9, .int .u64 r2.1), (11, g), (12, v1)]) (fun (st : (List Nat) × (List Nat)) (g : Value) => [ownV Kd.u64 22 w1 r1, ownV Kd.u64 22 g st.1, ownV Kd.u64 22 v1 st.2] ++ F) w4 el1 aK (tH [(2, false), (1, false), (0, false)] 2) ?_
   rintro kk ⟨l2, l3⟩ g1 o1 h12 hn1 j
   have h12 : poly_DivMod_L0 p_p r1 r2 l2 l3 = some o1 := h12
   unfold poly_DivMod_L0 at h12
   refine wh_seq ?_
   refine wh_seq ?_
   refine wh_region ?_
   refine w_p Tb_ok 1 kr ?_
   refine w_len (own_hd 1 rfl) kr ts_30 ?_
   refine w_p Tb_ok 1 kr ?_
   refine w_len (own_hd 0 rfl) kr ts_30 ?_
   refine w_p Tb_ok 1 kr ?_
   refine wi_end kr ?_
   refine qh_then ?_
   rcases bcase h12 with ⟨t2, h13⟩ | ⟨t2, h13⟩
   ·
    refine h_ct (b := (decide (((l2.length : Nat) : Int) ≥ ((r1.length : Nat) : Int)))) t2 kr ?_
    refine wh_skip ?_
    refine qh_then ?_
    refine wh_block ?_
    refine wh_seq ?_
    refine wh_region ?_
    refine w_p Tb_ok 1 kr ?_
    refine w_len (own_hd 1 rfl) kr ts_30 ?_
    refine w_p Tb_ok 1 kr ?_
    refine w_len (own_hd 0 rfl) kr ts_30 ?_
    obtain ⟨x6, ex6, h14⟩ := bnd h13
    refine w_bi (zsubI ex6) kr ?_
    refine w_p Tb_ok 1 kr ?_
    refine wi_end kr ?_
    refine qh_then ?_
    refine wh_seq ?_
    refine wh_region ?_
    refine w_p Tb_ok 3 kr ?_
    refine w_len (own_hd 1 rfl) kr ts_30 ?_
    obtain ⟨x7, ex7, h15⟩ := bnd h14
    refine w_bi (zsubI ex7) kr ?_
    obtain ⟨x8, ex8, h16⟩ := bnd h15
    refine w_ix (k := .i64) (own_hd 1 rfl) (ib ex8) (iz ex8) kr ts_30 ti_22 ?_
    refine w_ldO 1 0 rfl (ig ex8) kr ti_22 rfl rfl ?_
    rintro _
    refine w_p Tb_ok 1 kr ?_
    obtain ⟨r5, er5, h17⟩ := bnd h16
    refine w_fn [] (c_field_Mul er5) rfl fok_87 kr ?_
    rintro _ _ ⟨hv, rfl⟩; have hv := hv.symm; subst hv
    refine w_p Tb_ok 1 kr ?_
    refine wi_end kr ?_
    refine qh_then ?_
    refine wh_seq ?_
    refine wh_region ?_
    refine w_p Tb_ok 3 kr ?_
    obtain ⟨x9, ex9, h18⟩ := bnd h17
    refine w_ix (k := .i64) (own_hd 2 rfl) (ib ex9) (iz ex9) kr ts_30 ti_22 ?_
    obtain ⟨l8, el8, h19⟩ := bnd h18
    refine w_stO (kd := Kd.u64) (w := .int .u64 r5) (m := x6.toNat) (x0 := r5) 2 () rfl (ib ex9) (sinj el8) kr ti_22 (cv0 kr) (it0 rfl) ?_
    refine wi_end kr ?_
    refine qh_then ?_
    refine wh_seq ?_
    refine wh_seq ?_
    refine wh_region ?_
    refine w_p Tb_ok 1 kr ?_
    refine w_len (own_hd 1 rfl) kr ts_30 ?_
    refine w_p Tb_ok 1 kr ?_
    refine wi_end kr ?_
    refine qh_then ?_
    refine h_lenle (own_lenle 1 rfl) (fun hN1 => ?_)
    obtain ⟨l10, el2, h20⟩ := bnd h19
    refine h_join (X := Unit) (fun g => [(0, .int .u64 p_p), (2, w1), (9, .int .u64 r2.1), (11, g1), (12, v1)]) (fun g => [ownV Kd.u64 22 w1 r1, ownV Kd.u64 22 g1 l10, ownV Kd.u64 22 v1 l8] ++ F) (fun _ => True) ?_ ?_
    ·
     refine wh_block ?_
     refine h_rs (fun (k1 : Nat) (st : (List Nat)) (g : Unit) => [(0, .int .u64 p_p), (2, w1), (9, .int .u64 r2.1), (11, g1), (12, v1), (13, .int .i64 x6), (14, .int .u64 r5), (66, w1), (67, .int .i64 ((r1.length : Nat) : Int)), (68, .int .i64 ((k1 : Nat) : Int))]) (fun (k1 : Nat) (st : (List Nat)) (g : Unit) => [ownV Kd.u64 22 w1 r1, ownV Kd.u64 22 g1 st, ownV Kd.u64 22 v1 l8] ++ F) () el2 (Nat.zero_le _) aK (tH [(1, false), (1, false), (0, false)] 0) ?_ ?_
     ·
      rintro ⟨⟩ j
      refine wh_seq ?_
      refine wh_region ?_
      refine w_p Tb_ok 1 kr ?_
      refine wi_end kr ?_
      refine qh_then ?_
      refine wh_seq ?_
      refine h_cf (b := (decide ((((r1.length) : Nat) : Int) < ((r1.length : Nat) : Int)))) rgF kr ?_
      refine wh_exit ?_
      refine qh_then_exit ?_
      refine q_rzX ?_
      refine qh_block_exit ?_
      exact q_join () trivial aK (tH [(0, false), (0, false), (0, false)] 0)
     ·
      rintro rem k1 l9 ⟨⟩ o2 hk1 h21 hn2 j
      have h21 : poly_DivMod_L1 p_p r1 x6 r5 k1 l9 = some o2 := h21
      unfold poly_DivMod_L1 at h21
      refine wh_seq ?_
      refine wh_region ?_
      refine w_p Tb_ok 1 kr ?_
      refine wi_end kr ?_
      refine qh_then ?_
      refine wh_seq ?_
      refine h_ct (b := (decide (((k1 : Nat) : Int) < ((r1.length : Nat) : Int)))) (rgT hk1) kr ?_
      refine wh_skip ?_
      refine qh_then ?_
      refine wh_seq ?_
      refine wh_block ?_
      refine wh_seq ?_
      refine wh_region ?_
      refine w_p Tb_ok 1 kr ?_
      obtain ⟨x11, ex11, h22⟩ := bnd h21
      refine w_ix (k := .i64) (own_hd 0 rfl) (nbd ex11) rfl kr ts_30 ti_22 ?_
      refine w_ldO 0 0 rfl ex11 kr ti_22 rfl rfl ?_
      rintro _
      refine w_p Tb_ok 2 kr ?_
      refine wi_end kr ?_
      refine qh_then ?_
      obtain ⟨x12, ex12, h23⟩ := bnd h22
      obtain ⟨x13, ex13, h24⟩ := bnd h23
      obtain ⟨r7, er7, h25⟩ := bnd h24
      obtain ⟨r8, er8, h26⟩ := bnd h25
      obtain ⟨l11, el11, h27⟩ := bnd h26
      refine h_flow [0, 0, 0, 6, 0, 0, 0, 0, 192, 480, 992, 0, 0, 0, 14336, 32752, 65535, 131071] ⟨3, [0, 0, 0, 0, 0, 0, 0, 0, 0, 0, 0, 0, 0, 0, 0, 0, 0, 1], [(17, [(0, 1)])], [(9, [(0, 1)]), (10, [(0, 1)]), (16, [(0, 1)])], []⟩ (fun γ => [g1, .int .i64 x6, .int .i64 ((k1 : Nat) : Int), .int .i64 x12, .int .u64 p_p, g1, .int .i64 x6, .int .i64 ((k1 : Nat) : Int), .int .i64 x12, .pointer (some (elV g1 (x12.toNat * Kd.u64.size))), .int .u64 x13, .int .u64 p_p, .int .u64 r5, .int .u64 x11, .int .u64 r7, .int .u64 r8, .pointer (some (elV g1 (x12.toNat * Kd.u64.size))), undef]) (fun i γ => match i with | 17 => [ownV Kd.u64 22 g1 l11] | _ => []) (fun γ => [ownV Kd.u64 22 w1 r1, ownV Kd.u64 22 v1 l8, ownV Kd.u64 22 g1 l11] ++ F) [0, 1, 2, 4, 5, 6, 7, 11, 12, 13] tryd_mix Tb_ok kr kr (fun _ => by kernel_rfl) (fun _ => by kernel_rfl) (fun _ => by kernel_rfl) (fun _ => by kernel_rfl) (fun _ => by kernel_rfl) (fun _ => by kernel_rfl) (fun _ => by kernel_rfl) ?_ ?_
      ·
       refine ⟨?_, ?_, ?_, ?_, ?_, ?_, ?_, ?_, trivial⟩
       ·
        intro γ F
        refine WI.reH (H' := [] ++ F) kr ?_
        refine w_bi (zaddI ex12) kr ?_
        exact wE (gl []) [] 0
       ·
        intro γ F
        refine WI.reH (H' := [] ++ F) kr ?_
        refine w_bi (zaddI ex12) kr ?_
        exact wE (gl []) [] 0
       ·
        intro γ F
        refine WI.reH (H' := [ownV Kd.u64 22 g1 l9] ++ F) kr ?_
        refine w_ix (k := .i64) (own_hd 0 rfl) (ib ex13) (iz ex13) kr ts_30 ti_22 ?_
        exact wE (gl []) [(0, false)] 0
       ·
        intro γ F
        refine WI.reH (H' := [ownV Kd.u64 22 g1 l9] ++ F) kr ?_
        refine w_ldO 0 0 rfl (ig ex13) kr ti_22 rfl rfl ?_
        rintro _
        exact wE (gl []) [(0, false)] 0
       ·
        intro γ F
        refine WI.reH (H' := [] ++ F) kr ?_
        refine w_fn [] (c_field_Mul er7) rfl fok_87 kr ?_
        rintro _ _ ⟨hv, rfl⟩; have hv := hv.symm; subst hv
        exact wE (gl []) [] 0
       ·
        intro γ F
        refine WI.reH (H' := [] ++ F) kr ?_
        refine w_fn [] (c_field_Sub er8) rfl fok_86 kr ?_
        rintro _ _ ⟨hv, rfl⟩; have hv := hv.symm; subst hv
        exact wE (gl []) [] 0
       ·
        intro γ F
        refine WI.reH (H' := [ownV Kd.u64 22 g1 l9] ++ F) kr ?_
        refine w_ix (k := .i64) (own_hd 0 rfl) (ib ex13) (iz ex13) kr ts_30 ti_22 ?_
        exact wE (gl []) [(0, false)] 0
       ·
        intro γ F
        refine WI.reH (H' := [ownV Kd.u64 22 g1 l9] ++ F) kr ?_
        refine w_stO (kd := Kd.u64) (w := .int .u64 r8) (m := x12.toNat) (x0 := r8) 0 () rfl (ib ex13) (sinj el11) kr ti_22 (cv0 kr) (it0 rfl) ?_
        exact wE (gl []) [(0, false)] 0
      ·
       intro γ1
       refine qh_block_normal ?_
       refine qh_then ?_
       refine wh_region ?_
       refine w_bi (zinc hk1 hN1) kr ?_
       refine w_p Tb_ok 1 kr ?_
       refine wi_end kr ?_
       have h27 := Option.some.inj h27; subst h27
       exact q_rs () hn2 aK (tH [(0, false), (1, false), (0, false)] 0)
    ·
     rintro ⟨⟩ - j
     refine qh_then ?_
     refine wh_region ?_
     refine w_p Tb_ok 1 kr ?_
     refine WI.ent (frzAt 1 rfl) ?_
     obtain ⟨r9, er9, h28⟩ := bnd h20
     refine w_fn [(0, true)] (c_poly_Trim er9) rfl fok_127 kr ?_
     rintro _ _ ⟨w8, hv, rfl⟩; have hv := hv.symm; subst hv
     refine w_p Tb_ok 1 kr ?_
     refine wi_end kr ?_
     refine qh_block_normal ?_
     have h28 := Option.some.inj h28; subst h28
     exact q_go w8 hn1 aK (tH [(2, false), (0, false), (1, false)] 1)
   ·
    refine h_cf (b := (decide (((l2.length : Nat) : Int) ≥ ((r1.length : Nat) : Int)))) t2 kr ?_
    refine wh_exit ?_
    refine qh_then_exit ?_
    refine q_lpX ?_
    refine qh_block_exit ?_
    have h13 := Option.some.inj h13; subst h13
    cases (show _ = _ from hn1)
    exact q_join g1 trivial aK (tH [(1, false), (1, false)] 1)
  ·
   rintro g3 - j
   refine qh_then ?_
   refine wh_seq ?_
   refine wh_region ?_
   refine w_p Tb_ok 1 kr ?_
   refine WI.ent (frzAt 1 rfl) ?_
   obtain ⟨r10, er10, h29⟩ := bnd h11
   refine w_fn [(0, true)] (c_poly_Trim er10) rfl fok_127 kr ?_
   rintro _ _ ⟨w9, hv, rfl⟩; have hv := hv.symm; subst hv
   refine w_p Tb_ok 4 kr ?_
   refine wi_end kr ?_
   refine qh_then ?_
   refine wh_ret ?_
   have h29 := Option.some.inj h29; subst h29
   exact q_end (l := [w9, g3, .int .i64 ((0 : Nat) : Int)]) [(0, false), (1, false)] 1 ⟨w9, g3, rfl, rfl⟩ (.inl rfl) kr kr kr
theorem c_poly_Eval {p_p : Nat} {p_f : List Nat} {p_x : Nat} {vp_f_1 : Value} {r : Nat} (h : poly_Eval p_p p_f p_x = some r) : Ct Tryd.prog 65 [.int .u64 p_p, vp_f_1, .int .u64 p_x] [rdV Kd.u64 vp_f_1 p_f] (fun v L => v = .int .u64 r ∧ L = []) := by
 refine ct_intro Tryd.func65 rfl kr (fun F => ?_)
 unfold poly_Eval at h
 refine wh_seq ?_
 refine wh_region ?_
 refine w_p Tb_ok 1 kr ?_
 refine wi_end kr ?_
 refine qh_then ?_
 refine wh_seq ?_
 refine wh_region ?_
 refine w_p Tb_ok 1 kr ?_
 refine wi_end kr ?_
 refine qh_then ?_
 refine wh_seq ?_
 refine wh_seq ?_
 refine wh_region ?_
 refine w_p Tb_ok 1 kr ?_
 refine w_len (rd_hd 0 rfl) kr ts_30 ?_
 obtain ⟨x1, ex1, h1⟩ := bnd h
 refine w_bi (zsubI ex1) kr ?_
 refine w_p Tb_ok 1 kr ?_
 refine wi_end kr ?_
 refine qh_then ?_
 obtain ⟨x5, el1, h2⟩ := bnd h1
 refine h_join (X := Unit) (fun g => [(7, .int .u64 x5)]) (fun g => [] ++ F) (fun _ => True) ?_ ?_
 ·
  refine wh_block ?_
  refine h_lp (fun (st : Nat × Int) (g : Unit) => [(0, .int .u64 p_p), (1, vp_f_1), (2, .int .u64 p_x), (7, .int .u64 st.1), (8, .int .i64 st.2)]) (fun (st : Nat × Int) (g : Unit) => [rdV Kd.u64 vp_f_1 p_f] ++ F) () el1 aK (tH [(0, true)] 1) ?_
  rintro kk ⟨x2, x3⟩ ⟨⟩ o1 h3 hn1 j
  have h3 : poly_Eval_L0 p_p p_f p_x x2 x3 = some o1 := h3
  unfold poly_Eval_L0 at h3
  refine wh_seq ?_
  refine wh_seq ?_
  refine wh_region ?_
  refine w_p Tb_ok 2 kr ?_
  refine wi_end kr ?_
  refine qh_then ?_
  rcases bcase h3 with ⟨t1, h4⟩ | ⟨t1, h4⟩
  ·
   refine h_ct (b := (decide (x3 ≥ (0 : Int)))) t1 kr ?_
   refine wh_skip ?_
   refine qh_then ?_
   refine wh_seq ?_
   refine wh_block ?_
   obtain ⟨r2, er2, h5⟩ := bnd h4
   obtain ⟨x6, ex6, h6⟩ := bnd h5
   obtain ⟨r3, er3, h7⟩ := bnd h6
   refine h_flow [0, 0, 0, 0, 14, 0, 0, 96, 224, 511, 1023] ⟨1, [0, 0, 0, 0, 0, 0, 0, 0, 0, 0, 0], [], [], [(7, [(0, 0)]), (8, [(0, 0)])]⟩ (fun γ => [.int .u64 p_p, .int .u64 p_p, .int .u64 x2, .int .u64 p_x, .int .u64 r2, vp_f_1, .int .i64 x3, .pointer (some (elV vp_f_1 (x3.toNat * Kd.u64.size))), .int .u64 x6, .int .u64 r3, .int .u64 r3]) (fun _ _ => []) (fun γ => [rdV Kd.u64 vp_f_1 p_f] ++ F) [0, 1, 2, 3, 5, 6, 10] tryd_mix Tb_ok kr kr (fun _ => by kernel_rfl) (fun _ => by kernel_rfl) (fun _ => by kernel_rfl) (fun _ => by kernel_rfl) (fun _ => by kernel_rfl) (fun _ => by kernel_rfl) (fun _ => by kernel_rfl) ?_ ?_
   ·
    refine ⟨?_, ?_, ?_, ?_, trivial⟩
    ·
     intro γ F
     refine WI.reH (H' := [] ++ F) kr ?_
     refine w_fn [] (c_field_Mul er2) rfl fok_87 kr ?_
     rintro _ _ ⟨hv, rfl⟩; have hv := hv.symm; subst hv
     exact wE (gl []) [] 0
    ·
     intro γ F
     refine WI.reH (H' := [rdV Kd.u64 vp_f_1 p_f] ++ F) kr ?_
     refine w_ix (k := .i64) (rd_hd 0 rfl) (ib ex6) (iz ex6) kr ts_30 ti_22 ?_
     exact wE (gl []) [] 1
    ·
     intro γ F
     refine WI.reH (H' := [rdV Kd.u64 vp_f_1 p_f] ++ F) kr ?_
     refine w_ldR 0 0 rfl (ig ex6) kr ti_22 rfl rfl ?_
     rintro _
     exact wE (gl []) [] 1
    ·
     intro γ F
     refine WI.reH (H' := [] ++ F) kr ?_
     refine w_fn [] (c_field_Add er3) rfl fok_89 kr ?_
     rintro _ _ ⟨hv, rfl⟩; have hv := hv.symm; subst hv
     exact wE (gl []) [] 0
   ·
    intro γ1
    refine qh_block_normal ?_
    refine qh_then ?_
    refine wh_region ?_
    refine w_p Tb_ok 1 kr ?_
    obtain ⟨x7, ex7, h8⟩ := bnd h7
    refine w_bi (zsubI ex7) kr ?_
    refine w_p Tb_ok 1 kr ?_
    refine wi_end kr ?_
    have h8 := Option.some.inj h8; subst h8
    exact q_go () hn1 aK (tH [(0, true)] 1)
  ·
   refine h_cf (b := (decide (x3 ≥ (0 : Int)))) t1 kr ?_
   refine wh_exit ?_
   refine qh_then_exit ?_
   refine q_lpX ?_
   refine qh_block_exit ?_
   have h4 := Option.some.inj h4; subst h4
   cases (show _ = _ from hn1)
   exact q_join () trivial aK (tH [] 1)
 ·
  rintro ⟨⟩ - j
  refine qh_then ?_
  refine wh_seq ?_
  refine wh_region ?_
  refine w_p Tb_ok 2 kr ?_
  refine wi_end kr ?_
  refine qh_then ?_
  refine wh_ret ?_
  have h2 := Option.some.inj h2; subst h2
  exact q_end (l := [.int .u64 x5]) [] 0 ⟨rfl, rfl⟩ (.inl rfl) kr kr kr
theorem c_reedsolomon_ErrorPositions {p_p : Nat} {p_f : List Nat} {p_pts : List T_api_Point} {vp_f_1 : Value} {vp_pts_1 : Value} {r : (List Int)} (h : reedsolomon_ErrorPositions p_p p_f p_pts = some r) : Ct Tryd.prog 101 [.int .u64 p_p, vp_f_1, vp_pts_1] [rdV Kd.u64 vp_f_1 p_f, rdV K_api_Point vp_pts_1 p_pts] (fun v L => ∃ w0 : Value, v = w0 ∧ L = [ownV Kd.i64 3 w0 r]) := by
 refine ct_intro Tryd.func101 rfl kr (fun F => ?_)
 unfold reedsolomon_ErrorPositions at h
 refine wh_seq ?_
 refine wh_region ?_
 refine w_p Tb_ok 1 kr ?_
 refine wi_end kr ?_
 refine qh_then ?_
 refine wh_seq ?_
 refine wh_region ?_
 refine w_p Tb_ok 1 kr ?_
 refine wi_end kr ?_
 refine qh_then ?_
 refine wh_seq ?_
 refine wh_seq ?_
 refine wh_region ?_
 refine w_p Tb_ok 1 kr ?_
 refine w_len (rd_hd 1 rfl) kr ts_111 ?_
 refine w_p Tb_ok 1 kr ?_
 refine wi_end kr ?_
 refine qh_then ?_
 refine WH.ent (ownNil (kd := Kd.i64) (e := 3)) ?_
 refine h_lenle (rd_lenle 2 rfl) (fun hN1 => ?_)
 obtain ⟨l2, el1, h1⟩ := bnd h
 refine h_join (X := Value) (fun g => [(7, g)]) (fun g => [ownV Kd.i64 3 g l2] ++ F) (fun _ => True) ?_ ?_
 ·
  refine wh_block ?_
  refine h_rs (fun (k1 : Nat) (st : (List Int)) (g : Value) => [(0, .int .u64 p_p), (1, vp_f_1), (7, g), (10, vp_pts_1), (11, .int .i64 ((p_pts.length : Nat) : Int)), (12, .int .i64 ((k1 : Nat) : Int))]) (fun (k1 : Nat) (st : (List Int)) (g : Value) => [rdV Kd.u64 vp_f_1 p_f, ownV Kd.i64 3 g st, rdV K_api_Point vp_pts_1 p_pts] ++ F) (.slice none 0 0) el1 (Nat.zero_le _) aK (tH [(1, true), (0, false), (1, true)] 2) ?_ ?_
  ·
   rintro g3 j
   refine wh_seq ?_
   refine wh_region ?_
   refine w_p Tb_ok 1 kr ?_
   refine wi_end kr ?_
   refine qh_then ?_
   refine wh_seq ?_
   refine h_cf (b := (decide ((((p_pts.length) : Nat) : Int) < ((p_pts.length : Nat) : Int)))) rgF kr ?_
   refine wh_exit ?_
   refine qh_then_exit ?_
   refine q_rzX ?_
   refine qh_block_exit ?_
   exact q_join g3 trivial aK (tH [(1, false)] 2)
  ·
   rintro rem k1 l1 g1 o1 hk1 h2 hn1 j
   have h2 : reedsolomon_ErrorPositions_L0 p_p p_f p_pts k1 l1 = some o1 := h2
   unfold reedsolomon_ErrorPositions_L0 at h2
   refine wh_seq ?_
   refine wh_region ?_
   refine w_p Tb_ok 1 kr ?_
   refine wi_end kr ?_
   refine qh_then ?_
   refine wh_seq ?_
   refine h_ct (b := (decide (((k1 : Nat) : Int) < ((p_pts.length : Nat) : Int)))) (rgT hk1) kr ?_
   refine wh_skip ?_
   refine qh_then ?_
   refine wh_seq ?_
   refine wh_block ?_
   refine wh_seq ?_
   refine wh_region ?_
   refine w_p Tb_ok 1 kr ?_
   obtain ⟨x2, ex2, h3⟩ := bnd h2
   refine w_ix (k := .i64) (rd_hd 2 rfl) (nbd ex2) rfl kr ts_111 ti_113 ?_
   refine w_ldR 2 0 rfl ex2 kr ti_113 rfl rfl ?_
   rintro ⟨_, _⟩
   refine w_al kr ti_113 (fun q1 => ?_)
   refine WI.hd (y := blkP q1 113 [.int .u64 ((0 : Nat) : Int), .int .u64 ((0 : Nat) : Int)]) kr ?_
   refine w_opP 0 rfl (fun b1 hb => ?_)
   subst hb
   refine w_p Tb_ok 1 kr ?_
   refine w_stB (v := .agg #[.int .u64 x2.X, .int .u64 x2.Y]) (off := 0) (cs := [.int .u64 x2.X, .int .u64 x2.Y]) 0 rfl (cv0 kr) kr ti_113 rfl rfl (oC (fun _ _ => rfl) (oC (fun _ _ => rfl) oN)) ?_
   refine WI.hd (y := blkP (.pointer (some ⟨b1, 0, none⟩)) 113 [.int .u64 x2.X, .int .u64 x2.Y]) kr ?_
   refine wi_end kr ?_
   refine qh_then ?_
   refine wh_seq ?_
   obtain ⟨r2, er2, h4⟩ := bnd h3
   refine h_flow [0, 0, 0, 4, 15, 0, 32, 127] ⟨4, [0, 0, 0, 0, 0, 0, 0, 0], [], [(3, [(0, 0)]), (6, [(0, 0)])], [(4, [(0, 1)])]⟩ (fun γ => [.int .u64 p_p, vp_f_1, .pointer (some ⟨b1, 0, none⟩), .int .u64 x2.X, .int .u64 r2, .pointer (some ⟨b1, 1, none⟩), .int .u64 x2.Y, .bool (((r2 : Nat) : Int) != ((x2.Y : Nat) : Int))]) (fun _ _ => []) (fun γ => [blkP (.pointer (some ⟨b1, 0, none⟩)) 113 [.int .u64 x2.X, .int .u64 x2.Y], rdV Kd.u64 vp_f_1 p_f, ownV Kd.i64 3 g1 l1, rdV K_api_Point vp_pts_1 p_pts] ++ F) [0, 1, 2, 5, 7] tryd_mix Tb_ok kr kr (fun _ => by kernel_rfl) (fun _ => by kernel_rfl) (fun _ => by kernel_rfl) (fun _ => by kernel_rfl) (fun _ => by kernel_rfl) (fun _ => by kernel_rfl) (fun _ => by kernel_rfl) ?_ ?_
   ·
    refine ⟨?_, ?_, ?_, trivial⟩
    ·
     intro γ F
     refine WI.reH (H' := [blkP (.pointer (some ⟨b1, 0, none⟩)) 113 [.int .u64 x2.X, .int .u64 x2.Y]] ++ F) kr ?_
     refine w_ldB 0 0 rfl kr ti_22 rfl rfl ?_
     exact wE (gl []) [(0, false)] 0
    ·
     intro γ F
     refine WI.reH (H' := [rdV Kd.u64 vp_f_1 p_f] ++ F) kr ?_
     refine w_fn [(0, true)] (c_poly_Eval er2) rfl fok_65 kr ?_
     rintro _ _ ⟨hv, rfl⟩; have hv := hv.symm; subst hv
     exact wE (gl []) [] 1
    ·
     intro γ F
     refine WI.reH (H' := [blkP (.pointer (some ⟨b1, 0, none⟩)) 113 [.int .u64 x2.X, .int .u64 x2.Y]] ++ F) kr ?_
     refine w_ldB 0 1 rfl kr ti_22 rfl rfl ?_
     exact wE (gl []) [(0, false)] 0
   ·
    intro γ1
    refine qh_then ?_
    rcases bcase h4 with ⟨t1, h5⟩ | ⟨t1, h5⟩
    ·
     refine h_ct (b := (((r2 : Nat) : Int) != ((x2.Y : Nat) : Int))) t1 kr ?_
     refine wh_region ?_
     refine w_p Tb_ok 2 kr ?_
     refine w_lt (kd := Kd.i64) (t := 25) (len := 1) (ps0 := [(0, .int .i64 ((k1 : Nat) : Int))]) (ps := [(0, .int .i64 ((k1 : Nat) : Int))]) ([((k1 : Nat) : Int)] : List Int) _ (rowC (x := ((k1 : Nat) : Int)) (g := ()) (it0 rfl) row0) (scI sc0) kr ts_25 ti_3 kr rfl rfl (fun v1 => ?_)
     obtain ⟨l3, el3, h6⟩ := bnd h5
     refine w_app 3 rfl (own_src 0 rfl) el3 kr ts_25 ti_3 rfl (fun v2 => ?_)
     refine w_p Tb_ok 1 kr ?_
     refine wi_end kr ?_
     refine qh_block_normal ?_
     refine qh_then ?_
     refine wh_region ?_
     refine w_bi (zinc hk1 hN1) kr ?_
     refine w_p Tb_ok 1 kr ?_
     refine wi_end kr ?_
     have h6 := Option.some.inj h6; subst h6
     exact q_rs v2 hn1 aK (tH [(3, true), (0, false), (3, true)] 4)
    ·
     refine h_cf (b := (((r2 : Nat) : Int) != ((x2.Y : Nat) : Int))) t1 kr ?_
     refine wh_skip ?_
     refine qh_block_normal ?_
     refine qh_then ?_
     refine wh_region ?_
     refine w_bi (zinc hk1 hN1) kr ?_
     refine w_p Tb_ok 1 kr ?_
     refine wi_end kr ?_
     have h5 := Option.some.inj h5; subst h5
     exact q_rs g1 hn1 aK (tH [(1, true), (2, false), (2, true)] 3)
 ·
  rintro g2 - j
  refine qh_then ?_
  refine wh_seq ?_
  refine wh_region ?_
  refine w_p Tb_ok 2 kr ?_
  refine wi_end kr ?_
  refine qh_then ?_
  refine wh_ret ?_
  have h1 := Option.some.inj h1; subst h1
  exact q_end (l := [g2]) [(0, false)] 0 ⟨g2, rfl, rfl⟩ (.inl rfl) kr kr kr
theorem c_reedsolomon_Decode {p_p : Nat} {p_pts : List T_api_Point} {p_deg : Int} {p_wrong : Int} {vp_pts_1 : Value} {r : (List Nat) × (List Int) × Int} (h : reedsolomon_Decode p_p p_pts p_deg p_wrong = some r) : Ct Tryd.prog 68 [.int .u64 p_p, vp_pts_1, .int .i64 p_deg, .int .i64 p_wrong] [rdV K_api_Point vp_pts_1 p_pts] (fun v L => ∃ w0 w1 : Value, v = .tuple #[w0, w1, .int .i64 r.2.2] ∧ L = [rdV Kd.u64 w0 r.1, ownV Kd.i64 3 w1 r.2.1]) := by
 refine ct_intro Tryd.func68 rfl kr (fun F => ?_)
 unfold reedsolomon_Decode at h
 refine wh_seq ?_
 refine wh_region ?_
 refine w_p Tb_ok 3 kr ?_
 refine wi_end kr ?_
 refine qh_then ?_
 refine wh_seq ?_
 refine wh_seq ?_
 refine wh_region ?_
 refine w_p Tb_ok 3 kr ?_
 obtain ⟨r1, er1, h1⟩ := bnd h
 refine w_fn [(0, true)] (c_reedsolomon_may er1) rfl fok_97 kr ?_
 rintro _ _ ⟨hv, rfl⟩; have hv := hv.symm; subst hv
 refine w_p Tb_ok 1 kr ?_
 refine wi_end kr ?_
 refine qh_then ?_
 rcases bcase h1 with ⟨t1, h2⟩ | ⟨t1, h2⟩
 ·
  refine h_ct (b := (!r1)) t1 kr ?_
  refine wh_seq ?_
  refine wh_region ?_
  refine w_p Tb_ok 3 kr ?_
  refine wi_end kr ?_
  refine qh_then ?_
  refine wh_ret ?_
  refine qh_then_ret ?_
  refine QH.ent (rdNil (kd := Kd.u64)) ?_
  refine QH.ent (ownNil (kd := Kd.i64) (e := 3)) ?_
  have h2 := Option.some.inj h2; subst h2
  exact q_end (l := [(.slice none 0 0), (.slice none 0 0), .int .i64 ((1 : Nat) : Int)]) [(1, true), (0, false)] 2 ⟨(.slice none 0 0), (.slice none 0 0), rfl, rfl⟩ (.inl rfl) kr kr kr
 ·
  refine h_cf (b := (!r1)) t1 kr ?_
  refine wh_skip ?_
  refine qh_then ?_
  refine wh_seq ?_
  refine wh_region ?_
  refine w_p Tb_ok 4 kr ?_
  obtain ⟨r2, er2, h3⟩ := bnd h2
  refine w_fn [(0, true)] (c_reedsolomon_try er2) rfl fok_98 kr ?_
  rintro _ _ ⟨w2, w3, hv, rfl⟩; have hv := hv.symm; subst hv
  refine w_p Tb_ok 7 kr ?_
  refine wi_end kr ?_
  refine qh_then ?_
  refine wh_seq ?_
  refine wh_seq ?_
  refine wh_region ?_
  refine w_p Tb_ok 2 kr ?_
  refine wi_end kr ?_
  refine qh_then ?_
  rcases bcase h3 with ⟨t2, h4⟩ | ⟨t2, h4⟩
  ·
   refine h_ct (b := (!r2.2.2)) t2 kr ?_
   refine wh_seq ?_
   refine wh_region ?_
   refine w_p Tb_ok 3 kr ?_
   refine wi_end kr ?_
   refine qh_then ?_
   refine wh_ret ?_
   refine qh_then_ret ?_
   refine QH.ent (rdNil (kd := Kd.u64)) ?_
   refine QH.ent (ownNil (kd := Kd.i64) (e := 3)) ?_
   have h4 := Option.some.inj h4; subst h4
   exact q_end (l := [(.slice none 0 0), (.slice none 0 0), .int .i64 ((9 : Nat) : Int)]) [(1, true), (0, false)] 4 ⟨(.slice none 0 0), (.slice none 0 0), rfl, rfl⟩ (.inl rfl) kr kr kr
  ·
   refine h_cf (b := (!r2.2.2)) t2 kr ?_
   refine wh_skip ?_
   refine qh_then ?_
   refine wh_seq ?_
   refine wh_region ?_
   refine w_p Tb_ok 3 kr ?_
   refine WI.ent (frzAt 1 rfl) ?_
   obtain ⟨r3, er3, h5⟩ := bnd h4
   refine w_fn [(1, true), (0, true)] (c_poly_DivMod er3) rfl fok_99 kr ?_
   rintro _ _ ⟨w5, w6, hv, rfl⟩; have hv := hv.symm; subst hv
   refine w_p Tb_ok 7 kr ?_
   refine wi_end kr ?_
   refine qh_then ?_
   refine wh_seq ?_
   refine wh_seq ?_
   obtain ⟨x1, ej1, h6⟩ := bnd h5
   refine h_join (X := Unit) (fun g => [(0, .int .u64 p_p), (1, vp_pts_1), (3, .int .i64 p_wrong), (14, w5), (50, .bool x1)]) (fun g => [rdV K_api_Point vp_pts_1 p_pts, rdV Kd.u64 w5 r3.1] ++ F) (fun _ => True) ?_ ?_
   ·
    refine wh_region ?_
    refine w_p Tb_ok 1 kr ?_
    refine w_len (own_hd 1 rfl) kr ts_30 ?_
    refine w_p Tb_ok 2 kr ?_
    rcases bcase ej1 with ⟨t3, h7⟩ | ⟨t3, h7⟩
    ·
     refine w_kb (t := 45) t3 kr ?_
     refine w_p Tb_ok 5 kr ?_
     refine wi_end kr ?_
     refine QH.ent (frzAt 0 rfl) ?_
     cases h7
     exact q_join () trivial aK (tH [(4, true), (0, true)] 5)
    ·
     refine w_kb (t := 45) t3 kr ?_
     refine w_p Tb_ok 1 kr ?_
     refine WI.ent (frzAt 0 rfl) ?_
     obtain ⟨r4, er4, h8⟩ := bnd h7
     refine w_fn [(0, true)] (c_poly_Degree er4) rfl fok_100 kr ?_
     rintro _ _ ⟨hv, rfl⟩; have hv := hv.symm; subst hv
     refine w_p Tb_ok 3 kr ?_
     refine wi_end kr ?_
     cases h8
     exact q_join () trivial aK (tH [(4, true), (0, true)] 5)
   ·
    rintro ⟨⟩ - j
    refine qh_then ?_
    rcases bcase h6 with ⟨t4, h9⟩ | ⟨t4, h9⟩
    ·
     refine h_ct (b := x1) t4 kr ?_
     refine wh_seq ?_
     refine wh_region ?_
     refine w_p Tb_ok 3 kr ?_
     refine wi_end kr ?_
     refine qh_then ?_
     refine wh_ret ?_
     refine qh_then_ret ?_
     refine QH.ent (rdNil (kd := Kd.u64)) ?_
     refine QH.ent (ownNil (kd := Kd.i64) (e := 3)) ?_
     have h9 := Option.some.inj h9; subst h9
     exact q_end (l := [(.slice none 0 0), (.slice none 0 0), .int .i64 ((9 : Nat) : Int)]) [(1, true), (0, false)] 3 ⟨(.slice none 0 0), (.slice none 0 0), rfl, rfl⟩ (.inl rfl) kr kr kr
    ·
     refine h_cf (b := x1) t4 kr ?_
     refine wh_skip ?_
     refine qh_then ?_
     refine wh_seq ?_
     refine wh_region ?_
     refine w_p Tb_ok 3 kr ?_
     obtain ⟨r5, er5, h10⟩ := bnd h9
     refine w_fn [(1, true), (0, true)] (c_reedsolomon_ErrorPositions er5) rfl fok_101 kr ?_
     rintro _ _ ⟨w9, hv, rfl⟩; have hv := hv.symm; subst hv
     refine w_p Tb_ok 1 kr ?_
     refine wi_end kr ?_
     refine qh_then ?_
     refine wh_seq ?_
     refine wh_seq ?_
     refine wh_region ?_
     refine w_p Tb_ok 1 kr ?_
     refine w_len (own_hd 0 rfl) kr ts_25 ?_
     refine w_p Tb_ok 2 kr ?_
     refine wi_end kr ?_
     refine qh_then ?_
     rcases bcase h10 with ⟨t5, h11⟩ | ⟨t5, h11⟩
     ·
      refine h_ct (b := (decide (((r5.length : Nat) : Int) > p_wrong))) t5 kr ?_
      refine wh_seq ?_
      refine wh_region ?_
      refine w_p Tb_ok 3 kr ?_
      refine wi_end kr ?_
      refine qh_then ?_
      refine wh_ret ?_
      refine qh_then_ret ?_
      refine QH.ent (rdNil (kd := Kd.u64)) ?_
      refine QH.ent (ownNil (kd := Kd.i64) (e := 3)) ?_
      have h11 := Option.some.inj h11; subst h11
      exact q_end (l := [(.slice none 0 0), (.slice none 0 0), .int .i64 ((9 : Nat) : Int)]) [(1, true), (0, false)] 4 ⟨(.slice none 0 0), (.slice none 0 0), rfl, rfl⟩ (.inl rfl) kr kr kr
     ·
      refine h_cf (b := (decide (((r5.length : Nat) : Int) > p_wrong))) t5 kr ?_
      refine wh_skip ?_
      refine qh_then ?_
      refine wh_seq ?_
      refine wh_region ?_
      refine w_p Tb_ok 5 kr ?_
      refine wi_end kr ?_
      refine qh_then ?_
      refine wh_ret ?_
      have h11 := Option.some.inj h11; subst h11
      exact q_end (l := [w5, w9, .int .i64 ((0 : Nat) : Int)]) [(2, true), (0, false)] 2 ⟨w5, w9, rfl, rfl⟩ (.inl rfl) kr kr kr
theorem c_poly_Coefficient {p_f : List Nat} {p_i : Int} {vp_f_1 : Value} {r : Nat} (h : poly_Coefficient p_f p_i = some r) : Ct Tryd.prog 74 [vp_f_1, .int .i64 p_i] [rdV Kd.u64 vp_f_1 p_f] (fun v L => v = .int .u64 r ∧ L = []) := by
 refine ct_intro Tryd.func74 rfl kr (fun F => ?_)
 unfold poly_Coefficient at h
 refine wh_seq ?_
 refine wh_region ?_
 refine w_p Tb_ok 1 kr ?_
 refine wi_end kr ?_
 refine qh_then ?_
 refine wh_seq ?_
 refine wh_seq ?_
 refine wh_region ?_
 refine w_p Tb_ok 3 kr ?_
 rcases bcase h with ⟨t1, h1⟩ | ⟨t1, h1⟩
 ·
  refine w_kb (t := 7) t1 kr ?_
  refine w_p Tb_ok 5 kr ?_
  refine wi_end kr ?_
  refine qh_then ?_
  refine h_ct (b := true) rfl kr ?_
  refine wh_seq ?_
  refine wh_region ?_
  refine w_p Tb_ok 1 kr ?_
  refine wi_end kr ?_
  refine qh_then ?_
  refine wh_ret ?_
  refine qh_then_ret ?_
  have h1 := Option.some.inj h1; subst h1
  exact q_end (l := [.int .u64 ((0 : Nat) : Int)]) [] 1 ⟨rfl, rfl⟩ (.inl rfl) kr kr kr
 ·
  refine w_kb (t := 7) t1 kr ?_
  refine w_p Tb_ok 2 kr ?_
  refine w_len (rd_hd 0 rfl) kr ts_30 ?_
  refine w_p Tb_ok 2 kr ?_
  refine wi_end kr ?_
  refine qh_then ?_
  rcases bcase h1 with ⟨t2, h2⟩ | ⟨t2, h2⟩
  ·
   refine h_ct (b := (decide (p_i ≥ ((p_f.length : Nat) : Int)))) t2 kr ?_
   refine wh_seq ?_
   refine wh_region ?_
   refine w_p Tb_ok 1 kr ?_
   refine wi_end kr ?_
   refine qh_then ?_
   refine wh_ret ?_
   refine qh_then_ret ?_
   have h2 := Option.some.inj h2; subst h2
   exact q_end (l := [.int .u64 ((0 : Nat) : Int)]) [] 1 ⟨rfl, rfl⟩ (.inl rfl) kr kr kr
  ·
   refine h_cf (b := (decide (p_i ≥ ((p_f.length : Nat) : Int)))) t2 kr ?_
   refine wh_skip ?_
   refine qh_then ?_
   refine wh_seq ?_
   refine wh_region ?_
   refine w_p Tb_ok 2 kr ?_
   obtain ⟨x1, ex1, h3⟩ := bnd h2
   refine w_ix (k := .i64) (rd_hd 0 rfl) (ib ex1) (iz ex1) kr ts_30 ti_22 ?_
   refine w_ldR 0 0 rfl (ig ex1) kr ti_22 rfl rfl ?_
   rintro _
   refine w_p Tb_ok 1 kr ?_
   refine wi_end kr ?_
   refine qh_then ?_
   refine wh_ret ?_
   have h3 := Option.some.inj h3; subst h3
   exact q_end (l := [.int .u64 x1]) [] 1 ⟨rfl, rfl⟩ (.inl rfl) kr kr kr
theorem c_reconstruct_Values {p_n : T_network_Net} {p_shares : List (List Nat)} {bp_n : Nat} {vp_n_1 : Value} {vp_n_2 : Value} {vp_n_3 : Value} {vp_n_4 : Value} {vp_n_5 : Value} {vp_shares_1 : Value} {r : (List (List Nat)) × (List (List Int)) × Int × (List (List T_api_Event))} (h : reconstruct_Values p_n p_shares = some r) : Ct Tryd.prog 38 [(.pointer (some ⟨bp_n, 0, none⟩)), vp_shares_1] [blkP (.pointer (some ⟨bp_n, 0, none⟩)) 119 [.int .u64 p_n.zw.S.P, .int .i64 p_n.zw.S.N, .int .i64 p_n.zw.S.T, vp_n_1, vp_n_2, vp_n_3, .int .i64 p_n.zround, (th vp_n_4), vp_n_5], rdV Kd.i64 vp_n_1 p_n.zw.Corrupt, rdV K_api_Deviation vp_n_2 p_n.zw.Deviations, rdV (Kd.sl Kd.u64) vp_n_3 p_n.zw.Tapes, treeV (rowK K_api_Event 67) 46 (th vp_n_4) (tg vp_n_4) p_n.zviews, rdV Kd.any vp_n_5 p_n.ztapes, rdV (Kd.sl Kd.u64) vp_shares_1 p_shares] (fun v L => ∃ w0 w1 w3 : Value, v = .tuple #[w0, w1] ∧ L = [ownV (Kd.sl Kd.u64) 30 w0 r.1, ownV (Kd.sl Kd.i64) 25 w1 r.2.1, blkP (.pointer (some ⟨bp_n, 0, none⟩)) 119 [.int .u64 p_n.zw.S.P, .int .i64 p_n.zw.S.N, .int .i64 p_n.zw.S.T, vp_n_1, vp_n_2, vp_n_3, .int .i64 r.2.2.1, (th w3), vp_n_5], treeV (rowK K_api_Event 67) 46 (th w3) (tg w3) r.2.2.2]) := by
 refine ct_intro Tryd.func38 rfl kr (fun F => ?_)
 unfold reconstruct_Values at h
 refine wh_seq ?_
 refine wh_region ?_
 refine w_p Tb_ok 2 kr ?_
 refine wi_end kr ?_
 refine qh_then ?_
 refine wh_seq ?_
 refine wh_region ?_
 refine w_p Tb_ok 1 kr ?_
 obtain ⟨r1, er1, h1⟩ := bnd h
 refine w_fn [(0, false), (0, true), (1, true), (2, true), (3, false), (3, true)] (c_network_Net_Scenario er1) rfl fok_64 kr ?_
 rintro _ _ ⟨w1_1, w1_2, w1_3, hv, rfl⟩; have hv := hv.symm; subst hv
 refine w_run (v := .agg #[.int .u64 r1.S.P, .int .i64 r1.S.N, .int .i64 r1.S.T]) (fun w => by kernel_rfl) ?_
 refine w_al kr ti_24 (fun q1 => ?_)
 refine WI.hd (y := blkP q1 24 [.int .u64 ((0 : Nat) : Int), .int .i64 ((0 : Nat) : Int), .int .i64 ((0 : Nat) : Int)]) kr ?_
 refine w_opP 0 rfl (fun b1 hb => ?_)
 subst hb
 refine w_stB (v := .agg #[.int .u64 r1.S.P, .int .i64 r1.S.N, .int .i64 r1.S.T]) (off := 0) (cs := [.int .u64 r1.S.P, .int .i64 r1.S.N, .int .i64 r1.S.T]) 0 rfl (cv0 kr) kr ti_24 rfl rfl (oC (fun _ _ => rfl) (oC (fun _ _ => rfl) (oC (fun _ _ => rfl) oN))) ?_
 refine WI.hd (y := blkP (.pointer (some ⟨b1, 0, none⟩)) 24 [.int .u64 r1.S.P, .int .i64 r1.S.N, .int .i64 r1.S.T]) kr ?_
 refine wi_end kr ?_
 refine qh_then ?_
 refine wh_seq ?_
 refine WH.ent (hd_add (tree_hdI (inP 5 rfl))) ?_
 obtain ⟨l1, el1, h2⟩ := bnd h1
 obtain ⟨l2, el2, h3⟩ := bnd h2
 refine h_flow [0, 1, 3, 0, 8, 24, 7, 127] ⟨12, [0, 0, 1, 0, 0, 1, 0, 0], [], [(1, [(0, 1)]), (4, [(0, 1)])], []⟩ (fun γ => [.pointer (some ⟨b1, 1, none⟩), .int .i64 r1.S.N, (γ 2 0), .pointer (some ⟨b1, 1, none⟩), .int .i64 r1.S.N, (γ 5 0), (γ 2 0), (γ 5 0)]) (fun i γ => match i with | 2 => [treeV (rowK Kd.u64 22) 30 (γ 2 0) (List.replicate r1.S.N.toNat (.slice none 0 0)) l1] | 5 => [treeV (rowK Kd.i64 3) 25 (γ 5 0) (List.replicate r1.S.N.toNat (.slice none 0 0)) l2] | _ => []) (fun γ => [hdP (th vp_n_4) p_n.zviews.length, blkP (.pointer (some ⟨b1, 0, none⟩)) 24 [.int .u64 r1.S.P, .int .i64 r1.S.N, .int .i64 r1.S.T], rdV Kd.i64 w1_1 r1.Corrupt, rdV K_api_Deviation w1_2 r1.Deviations, rdV (Kd.sl Kd.u64) w1_3 r1.Tapes, blkP (.pointer (some ⟨bp_n, 0, none⟩)) 119 [.int .u64 p_n.zw.S.P, .int .i64 p_n.zw.S.N, .int .i64 p_n.zw.S.T, vp_n_1, vp_n_2, vp_n_3, .int .i64 p_n.zround, (th vp_n_4), vp_n_5], treeV (rowK K_api_Event 67) 46 (th vp_n_4) (tg vp_n_4) p_n.zviews, rdV Kd.i64 vp_n_1 p_n.zw.Corrupt, rdV K_api_Deviation vp_n_2 p_n.zw.Deviations, rdV (Kd.sl Kd.u64) vp_n_3 p_n.zw.Tapes, rdV Kd.any vp_n_5 p_n.ztapes, rdV (Kd.sl Kd.u64) vp_shares_1 p_shares, treeV (rowK Kd.u64 22) 30 (γ 2 0) (List.replicate r1.S.N.toNat (.slice none 0 0)) l1, treeV (rowK Kd.i64 3) 25 (γ 5 0) (List.replicate r1.S.N.toNat (.slice none 0 0)) l2] ++ F) [0, 3, 6, 7] tryd_mix Tb_ok kr kr (fun _ => by kernel_rfl) (fun _ => by kernel_rfl) (fun _ => by kernel_rfl) (fun _ => by kernel_rfl) (fun _ => by kernel_rfl) (fun _ => by kernel_rfl) (fun _ => by kernel_rfl) ?_ ?_
 ·
  refine ⟨?_, ?_, ?_, ?_, trivial⟩
  ·
   intro γ F
   refine WI.reH (H' := [blkP (.pointer (some ⟨b1, 0, none⟩)) 24 [.int .u64 r1.S.P, .int .i64 r1.S.N, .int .i64 r1.S.T]] ++ F) kr ?_
   refine w_ldB 0 1 rfl kr ti_3 rfl rfl ?_
   exact wE (gl []) [(0, false)] 0
  ·
   intro γ F
   refine WI.reH (H' := [] ++ F) kr ?_
   refine w_mkT (rowK Kd.u64 22) new_row (kl := .i64) (kc := .i64) el1 kr ts_27 ti_30 rfl (fun v1 => ?_)
   exact wE (gl [v1]) [(0, false)] 0
  ·
   intro γ F
   refine WI.reH (H' := [blkP (.pointer (some ⟨b1, 0, none⟩)) 24 [.int .u64 r1.S.P, .int .i64 r1.S.N, .int .i64 r1.S.T]] ++ F) kr ?_
   refine w_ldB 0 1 rfl kr ti_3 rfl rfl ?_
   exact wE (gl []) [(0, false)] 0
  ·
   intro γ F
   refine WI.reH (H' := [] ++ F) kr ?_
   refine w_mkT (rowK Kd.i64 3) new_row (kl := .i64) (kc := .i64) el2 kr ts_58 ti_25 rfl (fun v2 => ?_)
   exact wE (gl [v2]) [(0, false)] 0
 ·
  intro γ1
  refine qh_then ?_
  refine wh_seq ?_
  refine wh_region ?_
  refine w_p Tb_ok 1 kr ?_
  obtain ⟨x1, ex1, h4⟩ := bnd h3
  refine w_ix (k := .i64) (rd_hd 11 rfl) (nbd ex1) rfl kr ts_27 ti_30 ?_
  refine w_ldR 11 0 rfl ex1 kr ti_30 rfl rfl ?_
  rintro v3
  refine w_len (rd_hd 0 rfl) kr ts_30 ?_
  refine w_p Tb_ok 1 kr ?_
  refine wi_end kr ?_
  refine qh_then ?_
  refine wh_seq ?_
  refine wh_seq ?_
  refine wh_region ?_
  refine w_p Tb_ok 2 kr ?_
  refine wi_end kr ?_
  refine qh_then ?_
  rcases bcase h4 with ⟨t1, h5⟩ | ⟨t1, h5⟩
  ·
   refine h_ct (b := (((x1.length : Nat) : Int) == (0 : Int))) t1 kr ?_
   refine wh_seq ?_
   refine wh_region ?_
   refine w_p Tb_ok 4 kr ?_
   refine wi_end kr ?_
   refine qh_then ?_
   refine wh_ret ?_
   refine qh_then_ret ?_
   refine QH.ent (tr_own fz_row 13 rfl) ?_
   refine QH.ent (tr_own fz_row 14 rfl) ?_
   have h5 := Option.some.inj h5; subst h5
   exact q_end (l := [(γ1 2 0), (γ1 5 0)]) [(1, false), (0, false), (6, false), (6, false)] 11 ⟨(γ1 2 0), (γ1 5 0), (tw (th vp_n_4) (tg vp_n_4)), rfl, rfl⟩ (.inl rfl) kr kr kr
  ·
   refine h_cf (b := (((x1.length : Nat) : Int) == (0 : Int))) t1 kr ?_
   refine wh_skip ?_
   refine qh_then ?_
   refine wh_seq ?_
   refine wh_seq ?_
   refine wh_region ?_
   refine w_p Tb_ok 3 kr ?_
   obtain ⟨r2, er2, h6⟩ := bnd h5
   refine w_fn [(6, false), (7, true), (8, true), (9, true), (6, false), (9, true), (10, true)] (c_reconstruct_said er2) rfl fok_72 kr ?_
   rintro _ _ ⟨w2, w4, hv, rfl⟩; have hv := hv.symm; subst hv
   refine w_len (own_hd 0 rfl) kr ts_75 ?_
   refine w_p Tb_ok 1 kr ?_
   refine wi_end kr ?_
   refine qh_then ?_
   refine h_lenle (own_lenle 0 rfl) (fun hN1 => ?_)
   obtain ⟨⟨l5, l6⟩, el1, h7⟩ := bnd h6
   refine h_join (X := Value × Value) (fun g => [(7, (th g.1)), (8, (th g.2))]) (fun g => [treeV (rowK Kd.u64 22) 30 (th g.1) (tg g.1) l5, treeV (rowK Kd.i64 3) 25 (th g.2) (tg g.2) l6, blkP (.pointer (some ⟨bp_n, 0, none⟩)) 119 [.int .u64 p_n.zw.S.P, .int .i64 p_n.zw.S.N, .int .i64 p_n.zw.S.T, vp_n_1, vp_n_2, vp_n_3, .int .i64 r2.2.1, (th w4), vp_n_5], rdV Kd.i64 vp_n_1 p_n.zw.Corrupt, rdV K_api_Deviation vp_n_2 p_n.zw.Deviations, rdV (Kd.sl Kd.u64) vp_n_3 p_n.zw.Tapes, treeV (rowK K_api_Event 67) 46 (th w4) (tg w4) r2.2.2, rdV Kd.any vp_n_5 p_n.ztapes] ++ F) (fun _ => True) ?_ ?_
   ·
    refine wh_block ?_
    refine h_rs (fun (k1 : Nat) (st : (List (List Nat)) × (List (List Int))) (g : Value × Value) => [(6, (.pointer (some ⟨b1, 0, none⟩))), (7, (th g.1)), (8, (th g.2)), (43, w2), (44, .int .i64 ((r2.1.length : Nat) : Int)), (45, .int .i64 ((k1 : Nat) : Int))]) (fun (k1 : Nat) (st : (List (List Nat)) × (List (List Int))) (g : Value × Value) => [blkP (.pointer (some ⟨b1, 0, none⟩)) 24 [.int .u64 r1.S.P, .int .i64 r1.S.N, .int .i64 r1.S.T], treeV (rowK Kd.u64 22) 30 (th g.1) (tg g.1) st.1, treeV (rowK Kd.i64 3) 25 (th g.2) (tg g.2) st.2, ownV (Kd.sl (Kd.sl Kd.u64)) 27 w2 r2.1, blkP (.pointer (some ⟨bp_n, 0, none⟩)) 119 [.int .u64 p_n.zw.S.P, .int .i64 p_n.zw.S.N, .int .i64 p_n.zw.S.T, vp_n_1, vp_n_2, vp_n_3, .int .i64 r2.2.1, (th w4), vp_n_5], rdV Kd.i64 vp_n_1 p_n.zw.Corrupt, rdV K_api_Deviation vp_n_2 p_n.zw.Deviations, rdV (Kd.sl Kd.u64) vp_n_3 p_n.zw.Tapes, treeV (rowK K_api_Event 67) 46 (th w4) (tg w4) r2.2.2, rdV Kd.any vp_n_5 p_n.ztapes] ++ F) ((tw (γ1 2 0) (List.replicate r1.S.N.toNat (.slice none 0 0))), (tw (γ1 5 0) (List.replicate r1.S.N.toNat (.slice none 0 0)))) el1 (Nat.zero_le _) aK (tH [(5, false), (13, false), (13, false), (0, false), (0, false), (6, true), (7, true), (8, true), (0, false), (8, true)] 10) ?_ ?_
    ·
     rintro ⟨g5, g6⟩ j
     refine wh_seq ?_
     refine wh_region ?_
     refine w_p Tb_ok 1 kr ?_
     refine wi_end kr ?_
     refine qh_then ?_
     refine wh_seq ?_
     refine h_cf (b := (decide ((((r2.1.length) : Nat) : Int) < ((r2.1.length : Nat) : Int)))) rgF kr ?_
     refine wh_exit ?_
     refine qh_then_exit ?_
     refine q_rzX ?_
     refine qh_block_exit ?_
     exact q_join ((tw (th g5) (tg g5)), (tw (th g6) (tg g6))) trivial aK (tH [(1, false), (1, false), (2, false), (2, true), (3, true), (4, true), (5, false), (5, true)] 6)
    ·
     rintro rem k1 ⟨l3, l4⟩ ⟨g1, g2⟩ o1 hk1 h8 hn1 j
     have h8 : reconstruct_Values_L0 r1 r2 k1 l3 l4 = some o1 := h8
     unfold reconstruct_Values_L0 at h8
     refine wh_seq ?_
     refine wh_region ?_
     refine w_p Tb_ok 1 kr ?_
     refine wi_end kr ?_
     refine qh_then ?_
     refine wh_seq ?_
     refine h_ct (b := (decide (((k1 : Nat) : Int) < ((r2.1.length : Nat) : Int)))) (rgT hk1) kr ?_
     refine wh_skip ?_
     refine qh_then ?_
     refine wh_seq ?_
     refine wh_block ?_
     refine wh_seq ?_
     refine wh_region ?_
     refine w_p Tb_ok 1 kr ?_
     obtain ⟨x3, ex3, h9⟩ := bnd h8
     refine w_ix (k := .i64) (own_hd 3 rfl) (nbd ex3) rfl kr ts_75 ti_27 ?_
     refine w_ldO 3 0 rfl ex3 kr ti_27 rfl rfl ?_
     rintro v4
     refine w_p Tb_ok 2 kr ?_
     refine wi_end kr ?_
     refine qh_then ?_
     refine wh_seq ?_
     refine wh_region ?_
     refine w_mkM (t := 127) .i64 (fun _ : Unit => Value.agg #[]) kr (fun v5 => ?_)
     refine w_p Tb_ok 1 kr ?_
     refine wi_end kr ?_
     refine qh_then ?_
     refine wh_seq ?_
     refine wh_seq ?_
     refine wh_region ?_
     refine w_p Tb_ok 1 kr ?_
     refine w_len (rd_hd 1 rfl) kr ts_27 ?_
     refine w_p Tb_ok 1 kr ?_
     refine wi_end kr ?_
     refine qh_then ?_
     refine h_lenle (rd_lenle 1 rfl) (fun hN2 => ?_)
     obtain ⟨⟨l9, l10⟩, el2, h10⟩ := bnd h9
     refine h_join (X := Value) (fun g => [(6, (.pointer (some ⟨b1, 0, none⟩))), (7, (th g)), (8, (th g2)), (10, .int .i64 ((k1 : Nat) : Int)), (12, v5), (43, w2), (44, .int .i64 ((r2.1.length : Nat) : Int)), (45, .int .i64 ((k1 : Nat) : Int))]) (fun g => [blkP (.pointer (some ⟨b1, 0, none⟩)) 24 [.int .u64 r1.S.P, .int .i64 r1.S.N, .int .i64 r1.S.T], treeV (rowK Kd.u64 22) 30 (th g) (tg g) l9, treeV (rowK Kd.i64 3) 25 (th g2) (tg g2) l4, mapV .i64 (fun _ : Unit => Value.agg #[]) v5 l10, ownV (Kd.sl (Kd.sl Kd.u64)) 27 w2 r2.1, blkP (.pointer (some ⟨bp_n, 0, none⟩)) 119 [.int .u64 p_n.zw.S.P, .int .i64 p_n.zw.S.N, .int .i64 p_n.zw.S.T, vp_n_1, vp_n_2, vp_n_3, .int .i64 r2.2.1, (th w4), vp_n_5], rdV Kd.i64 vp_n_1 p_n.zw.Corrupt, rdV K_api_Deviation vp_n_2 p_n.zw.Deviations, rdV (Kd.sl Kd.u64) vp_n_3 p_n.zw.Tapes, treeV (rowK K_api_Event 67) 46 (th w4) (tg w4) r2.2.2, rdV Kd.any vp_n_5 p_n.ztapes] ++ F) (fun _ => True) ?_ ?_
     ·
      refine wh_block ?_
      refine h_rs (fun (k2 : Nat) (st : (List (List Nat)) × (List (Int × Unit))) (g : Value) => [(6, (.pointer (some ⟨b1, 0, none⟩))), (7, (th g)), (8, (th g2)), (10, .int .i64 ((k1 : Nat) : Int)), (12, v5), (43, w2), (44, .int .i64 ((r2.1.length : Nat) : Int)), (45, .int .i64 ((k1 : Nat) : Int)), (51, v4), (52, .int .i64 ((x3.length : Nat) : Int)), (53, .int .i64 ((k2 : Nat) : Int))]) (fun (k2 : Nat) (st : (List (List Nat)) × (List (Int × Unit))) (g : Value) => [blkP (.pointer (some ⟨b1, 0, none⟩)) 24 [.int .u64 r1.S.P, .int .i64 r1.S.N, .int .i64 r1.S.T], treeV (rowK Kd.u64 22) 30 (th g) (tg g) st.1, treeV (rowK Kd.i64 3) 25 (th g2) (tg g2) l4, mapV .i64 (fun _ : Unit => Value.agg #[]) v5 st.2, ownV (Kd.sl (Kd.sl Kd.u64)) 27 w2 r2.1, rdV (Kd.sl Kd.u64) v4 x3, blkP (.pointer (some ⟨bp_n, 0, none⟩)) 119 [.int .u64 p_n.zw.S.P, .int .i64 p_n.zw.S.N, .int .i64 p_n.zw.S.T, vp_n_1, vp_n_2, vp_n_3, .int .i64 r2.2.1, (th w4), vp_n_5], rdV Kd.i64 vp_n_1 p_n.zw.Corrupt, rdV K_api_Deviation vp_n_2 p_n.zw.Deviations, rdV (Kd.sl Kd.u64) vp_n_3 p_n.zw.Tapes, treeV (rowK K_api_Event 67) 46 (th w4) (tg w4) r2.2.2, rdV Kd.any vp_n_5 p_n.ztapes] ++ F) (tw (th g1) (tg g1)) el2 (Nat.zero_le _) aK (tH [(2, false), (2, false), (2, false), (0, false), (1, false), (0, true), (1, false), (1, true), (2, true), (3, true), (4, false), (4, true)] 5) ?_ ?_
      ·
       rintro g9 j
       refine wh_seq ?_
       refine wh_region ?_
       refine w_p Tb_ok 1 kr ?_
       refine wi_end kr ?_
       refine qh_then ?_
       refine wh_seq ?_
       refine h_cf (b := (decide ((((x3.length) : Nat) : Int) < ((x3.length : Nat) : Int)))) rgF kr ?_
       refine wh_exit ?_
       refine qh_then_exit ?_
       refine q_rzX ?_
       refine qh_block_exit ?_
       exact q_join (tw (th g9) (tg g9)) trivial aK (tH [(0, false), (0, false), (0, false), (0, false), (0, false), (1, false), (1, true), (2, true), (3, true), (4, false), (4, true)] 5)
      ·
       rintro rem k2 ⟨l7, l8⟩ g7 o2 hk2 h11 hn2 j
       have h11 : reconstruct_Values_L1 r1 k1 x3 k2 l7 l8 = some o2 := h11
       unfold reconstruct_Values_L1 at h11
       refine wh_seq ?_
       refine wh_region ?_
       refine w_p Tb_ok 1 kr ?_
       refine wi_end kr ?_
       refine qh_then ?_
       refine wh_seq ?_
       refine h_ct (b := (decide (((k2 : Nat) : Int) < ((x3.length : Nat) : Int)))) (rgT hk2) kr ?_
       refine wh_skip ?_
       refine qh_then ?_
       refine wh_seq ?_
       refine wh_block ?_
       refine wh_seq ?_
       refine wh_region ?_
       obtain ⟨x5, ex5, h12⟩ := bnd h11
       refine w_ix (k := .i64) (rd_hd 5 rfl) (nbd ex5) rfl kr ts_27 ti_30 ?_
       refine w_ldR 5 0 rfl ex5 kr ti_30 rfl rfl ?_
       rintro v6
       refine w_p Tb_ok 1 kr ?_
       refine wi_end kr ?_
       refine qh_then ?_
       refine wh_seq ?_
       refine WH.ent (hd_add (tree_hdI (inP 2 rfl))) ?_
       refine WH.ent (hd_add (tree_hdI (inP 4 rfl))) ?_
       refine WH.ent (hd_add (tree_hdI (inP 13 rfl))) ?_
       obtain ⟨r5, er5, h13⟩ := bnd h12
       obtain ⟨r6, er6, h14⟩ := bnd h13
       refine h_flow [0, 1, 0, 4, 0, 16, 0, 64, 255, 511, 1023, 1023, 1023, 2047, 12287, 32767] ⟨16, [0, 0, 0, 1, 0, 0, 0, 0, 2, 0, 0, 0, 0, 0, 0, 0], [], [(1, [(0, 4)]), (5, [(0, 4)]), (7, [(0, 4)])], [(3, [(0, 3)]), (8, [(4, 0)])]⟩ (fun γ => [.pointer (some ⟨b1, 0, none⟩), .int .u64 r1.S.P, v6, (γ 3 0), .pointer (some ⟨b1, 2, none⟩), .int .i64 r1.S.T, .pointer (some ⟨b1, 2, none⟩), .int .i64 r1.S.T, .tuple #[(γ 8 0), (γ 8 1), .int .i64 r6.2.2], .tuple #[(γ 8 0), (γ 8 1), .int .i64 r6.2.2], (γ 8 0), (γ 8 1), .int .i64 r6.2.2, (γ 8 0), (γ 8 1), .int .i64 r6.2.2]) (fun i γ => match i with | 3 => [rdV K_api_Point (γ 3 0) r5] | 8 => [rdV Kd.u64 (γ 8 0) r6.1, ownV Kd.i64 3 (γ 8 1) r6.2.1] | _ => []) (fun γ => [hdP (th w4) r2.2.2.length, hdP (th g2) l4.length, hdP (th g7) l7.length, rdV Kd.u64 v6 x5, blkP (.pointer (some ⟨b1, 0, none⟩)) 24 [.int .u64 r1.S.P, .int .i64 r1.S.N, .int .i64 r1.S.T], treeV (rowK Kd.u64 22) 30 (th g7) (tg g7) l7, treeV (rowK Kd.i64 3) 25 (th g2) (tg g2) l4, mapV .i64 (fun _ : Unit => Value.agg #[]) v5 l8, ownV (Kd.sl (Kd.sl Kd.u64)) 27 w2 r2.1, rdV (Kd.sl Kd.u64) v4 x3, blkP (.pointer (some ⟨bp_n, 0, none⟩)) 119 [.int .u64 p_n.zw.S.P, .int .i64 p_n.zw.S.N, .int .i64 p_n.zw.S.T, vp_n_1, vp_n_2, vp_n_3, .int .i64 r2.2.1, (th w4), vp_n_5], rdV Kd.i64 vp_n_1 p_n.zw.Corrupt, rdV K_api_Deviation vp_n_2 p_n.zw.Deviations, rdV (Kd.sl Kd.u64) vp_n_3 p_n.zw.Tapes, treeV (rowK K_api_Event 67) 46 (th w4) (tg w4) r2.2.2, rdV Kd.any vp_n_5 p_n.ztapes, rdV K_api_Point (γ 3 0) r5, rdV Kd.u64 (γ 8 0) r6.1, ownV Kd.i64 3 (γ 8 1) r6.2.1] ++ F) [0, 2, 4, 6, 9, 10, 11, 12, 13, 14, 15] tryd_mix Tb_ok kr kr (fun _ => by kernel_rfl) (fun _ => by kernel_rfl) (fun _ => by kernel_rfl) (fun _ => by kernel_rfl) (fun _ => by kernel_rfl) (fun _ => by kernel_rfl) (fun _ => by kernel_rfl) ?_ ?_
       ·
        refine ⟨?_, ?_, ?_, ?_, ?_, trivial⟩
        ·
         intro γ F
         refine WI.reH (H' := [blkP (.pointer (some ⟨b1, 0, none⟩)) 24 [.int .u64 r1.S.P, .int .i64 r1.S.N, .int .i64 r1.S.T]] ++ F) kr ?_
         refine w_ldB 0 0 rfl kr ti_22 rfl rfl ?_
         exact wE (gl []) [(0, false)] 0
        ·
         intro γ F
         refine WI.reH (H' := [rdV Kd.u64 v6 x5] ++ F) kr ?_
         refine w_fn [(0, true)] (c_reconstruct_points er5) rfl fok_73 kr ?_
         rintro _ _ ⟨w5, hv, rfl⟩; have hv := hv.symm; subst hv
         refine WI.ent (frzAt 0 rfl) ?_
         exact wE (gl [w5]) [(0, true)] 2
        ·
         intro γ F
         refine WI.reH (H' := [blkP (.pointer (some ⟨b1, 0, none⟩)) 24 [.int .u64 r1.S.P, .int .i64 r1.S.N, .int .i64 r1.S.T]] ++ F) kr ?_
         refine w_ldB 0 2 rfl kr ti_3 rfl rfl ?_
         exact wE (gl []) [(0, false)] 0
        ·
         intro γ F
         refine WI.reH (H' := [blkP (.pointer (some ⟨b1, 0, none⟩)) 24 [.int .u64 r1.S.P, .int .i64 r1.S.N, .int .i64 r1.S.T]] ++ F) kr ?_
         refine w_ldB 0 2 rfl kr ti_3 rfl rfl ?_
         exact wE (gl []) [(0, false)] 0
        ·
         intro γ F
         refine WI.reH (H' := [rdV K_api_Point (γ 3 0) r5] ++ F) kr ?_
         refine w_fn [(0, true)] (c_reedsolomon_Decode er6) rfl fok_68 kr ?_
         rintro _ _ ⟨w6, w7, hv, rfl⟩; have hv := hv.symm; subst hv
         exact wE (gl [w6, w7]) [(0, true), (1, false)] 2
       ·
        intro γ2
        refine qh_then ?_
        refine wh_seq ?_
        obtain ⟨x6, ex6, h15⟩ := bnd h14
        obtain ⟨r7, er7, h16⟩ := bnd h15
        refine WH.ent (hd_add (tree_hdI (inP 5 rfl))) ?_
        refine WH.ent (hd_add (tree_hdI (inP 7 rfl))) ?_
        refine WH.ent (hd_add (tree_hdI (inP 16 rfl))) ?_
        refine WH.row rs_row (inP 8 rfl) ex6 (fun g10 hg1 => ?_)
        refine WH.fact 0 rfl (fun hg2 => ?_)
        refine WH.ent (tr_out 10 rfl hg2 ex6) ?_
        obtain ⟨l11, el11, h17⟩ := bnd h16
        obtain ⟨l12, el12, h18⟩ := bnd h17
        refine h_flow [0, 0, 0, 0, 12, 28, 0, 64, 192, 508, 1023, 2047] ⟨25, [0, 0, 0, 0, 0, 0, 0, 0, 1, 1, 0, 1], [(9, [(0, 0)]), (11, [(10, 0), (0, 1)])], [(5, [(0, 1)]), (9, [(9, 0), (0, 1)])], [(4, [(0, 6)]), (5, [(0, 2)]), (7, [(0, 23)]), (10, [(0, 6)])]⟩ (fun γ => [(th g7), .int .i64 ((k1 : Nat) : Int), (th g7), .int .i64 ((k1 : Nat) : Int), .pointer (some (elV (th g7) (k1 * 1))), g10, (γ2 8 0), .int .u64 r7, (γ 8 0), (γ 9 0), .pointer (some (elV (th g7) (k1 * 1))), undef]) (fun i γ => match i with | 8 => [ownV Kd.u64 22 (γ 8 0) ([r7] : List Nat)] | 9 => [ownV Kd.u64 22 (γ 9 0) l11] | 11 => [treeV (rowK Kd.u64 22) 30 (th g7) ((tg g7).set k1 (γ 9 0)) l12] | _ => []) (fun γ => [fact ((tg g7)[k1]? = some g10), hdP g10 x6.length, hdP (th w4) r2.2.2.length, hdP (th g2) l4.length, hdP (th g7) l7.length, hdP (th w4) r2.2.2.length, hdP (th g2) l4.length, hdP (th g7) l7.length, rdV Kd.u64 v6 x5, blkP (.pointer (some ⟨b1, 0, none⟩)) 24 [.int .u64 r1.S.P, .int .i64 r1.S.N, .int .i64 r1.S.T], treeV (rowK Kd.i64 3) 25 (th g2) (tg g2) l4, mapV .i64 (fun _ : Unit => Value.agg #[]) v5 l8, ownV (Kd.sl (Kd.sl Kd.u64)) 27 w2 r2.1, rdV (Kd.sl Kd.u64) v4 x3, blkP (.pointer (some ⟨bp_n, 0, none⟩)) 119 [.int .u64 p_n.zw.S.P, .int .i64 p_n.zw.S.N, .int .i64 p_n.zw.S.T, vp_n_1, vp_n_2, vp_n_3, .int .i64 r2.2.1, (th w4), vp_n_5], rdV Kd.i64 vp_n_1 p_n.zw.Corrupt, rdV K_api_Deviation vp_n_2 p_n.zw.Deviations, rdV (Kd.sl Kd.u64) vp_n_3 p_n.zw.Tapes, treeV (rowK K_api_Event 67) 46 (th w4) (tg w4) r2.2.2, rdV Kd.any vp_n_5 p_n.ztapes, rdV K_api_Point (γ2 3 0) r5, rdV Kd.u64 (γ2 8 0) r6.1, ownV Kd.i64 3 (γ2 8 1) r6.2.1, ownV Kd.u64 22 (γ 8 0) ([r7] : List Nat), treeV (rowK Kd.u64 22) 30 (th g7) ((tg g7).set k1 (γ 9 0)) l12] ++ F) [0, 1, 2, 3, 6] tryd_mix Tb_ok kr kr (fun _ => by kernel_rfl) (fun _ => by kernel_rfl) (fun _ => by kernel_rfl) (fun _ => by kernel_rfl) (fun _ => by kernel_rfl) (fun _ => by kernel_rfl) (fun _ => by kernel_rfl) ?_ ?_
        ·
         refine ⟨?_, ?_, ?_, ?_, ?_, ?_, ?_, trivial⟩
         ·
          intro γ F
          refine WI.reH (H' := [hdP (th g7) l7.length] ++ F) kr ?_
          refine w_ix (k := .i64) (hdI 0 rfl) (nbd ex6) rfl kr ts_27 ti_30 ?_
          exact wE (gl []) [] 1
         ·
          intro γ F
          refine WI.reH (H' := [holeV (rowK Kd.u64 22) 30 (th g7) (tg g7) l7 k1, fact ((tg g7)[k1]? = some g10)] ++ F) kr ?_
          refine WI.fact 1 rfl (fun hg3 => ?_)
          refine w_ldG (m := k1) (hOut (inP 0 rfl)) hg3 kr ti_30 ?_
          exact wE (gl []) [(0, false)] 1
         ·
          intro γ F
          refine WI.reH (H' := [rdV Kd.u64 (γ2 8 0) r6.1] ++ F) kr ?_
          refine w_fn [(0, true)] (c_poly_Coefficient er7) rfl fok_74 kr ?_
          rintro _ _ ⟨hv, rfl⟩; have hv := hv.symm; subst hv
          exact wE (gl []) [] 1
         ·
          intro γ F
          refine WI.reH (H' := [] ++ F) kr ?_
          refine w_lt (kd := Kd.u64) (t := 30) (len := 1) (ps0 := [(0, .int .u64 r7)]) (ps := [(0, .int .u64 r7)]) ([r7] : List Nat) _ (rowC (x := r7) (g := ()) (it0 rfl) row0) (scI sc0) kr ts_30 ti_22 kr rfl rfl (fun v7 => ?_)
          exact wE (gl [v7]) [(0, false)] 0
         ·
          intro γ F
          refine WI.reH (H' := [ownV Kd.u64 22 g10 x6, ownV Kd.u64 22 (γ 8 0) ([r7] : List Nat), holeV (rowK Kd.u64 22) 30 (th g7) (tg g7) l7 k1] ++ F) kr ?_
          refine w_app 0 rfl (own_src 1 rfl) el11 kr ts_30 ti_22 rfl (fun v8 => ?_)
          exact wE (gl [v8]) [(0, false), (0, false), (0, false)] 0
         ·
          intro γ F
          refine WI.reH (H' := [hdP (th g7) l7.length] ++ F) kr ?_
          refine w_ix (k := .i64) (hdI 0 rfl) (nbd ex6) rfl kr ts_27 ti_30 ?_
          exact wE (gl []) [] 1
         ·
          intro γ F
          refine WI.reH (H' := [ownV Kd.u64 22 (γ 9 0) l11, holeV (rowK Kd.u64 22) 30 (th g7) (tg g7) l7 k1] ++ F) kr ?_
          refine w_stH (R := (rowK Kd.u64 22)) (g' := (γ 9 0)) (m := k1) 0 0 rfl rfl (nbd ex6) (sinj el12) rfl (cvS (own_hd 0 rfl)) (sl_one (own_hd 0 rfl)) kr ti_30 ?_
          exact wE (gl []) [(0, false)] 0
        ·
         intro γ3
         refine qh_then ?_
         refine wh_seq ?_
         refine wh_region ?_
         refine w_p Tb_ok 1 kr ?_
         refine w_len (own_hd 22 rfl) kr ts_25 ?_
         refine w_p Tb_ok 1 kr ?_
         refine wi_end kr ?_
         refine qh_then ?_
         refine h_lenle (own_lenle 22 rfl) (fun hN3 => ?_)
         obtain ⟨l14, el3, h19⟩ := bnd h18
         refine h_join (X := Unit) (fun g => [(6, (.pointer (some ⟨b1, 0, none⟩))), (7, (th g7)), (8, (th g2)), (10, .int .i64 ((k1 : Nat) : Int)), (12, v5), (43, w2), (44, .int .i64 ((r2.1.length : Nat) : Int)), (45, .int .i64 ((k1 : Nat) : Int)), (51, v4), (52, .int .i64 ((x3.length : Nat) : Int)), (53, .int .i64 ((k2 : Nat) : Int))]) (fun g => [blkP (.pointer (some ⟨b1, 0, none⟩)) 24 [.int .u64 r1.S.P, .int .i64 r1.S.N, .int .i64 r1.S.T], treeV (rowK Kd.u64 22) 30 (th g7) ((tg g7).set k1 (γ3 9 0)) l12, treeV (rowK Kd.i64 3) 25 (th g2) (tg g2) l4, mapV .i64 (fun _ : Unit => Value.agg #[]) v5 l14, ownV (Kd.sl (Kd.sl Kd.u64)) 27 w2 r2.1, rdV (Kd.sl Kd.u64) v4 x3, blkP (.pointer (some ⟨bp_n, 0, none⟩)) 119 [.int .u64 p_n.zw.S.P, .int .i64 p_n.zw.S.N, .int .i64 p_n.zw.S.T, vp_n_1, vp_n_2, vp_n_3, .int .i64 r2.2.1, (th w4), vp_n_5], rdV Kd.i64 vp_n_1 p_n.zw.Corrupt, rdV K_api_Deviation vp_n_2 p_n.zw.Deviations, rdV (Kd.sl Kd.u64) vp_n_3 p_n.zw.Tapes, treeV (rowK K_api_Event 67) 46 (th w4) (tg w4) r2.2.2, rdV Kd.any vp_n_5 p_n.ztapes] ++ F) (fun _ => True) ?_ ?_
         ·
          refine wh_block ?_
          refine h_rs (fun (k3 : Nat) (st : (List (Int × Unit))) (g : Unit) => [(6, (.pointer (some ⟨b1, 0, none⟩))), (7, (th g7)), (8, (th g2)), (10, .int .i64 ((k1 : Nat) : Int)), (12, v5), (43, w2), (44, .int .i64 ((r2.1.length : Nat) : Int)), (45, .int .i64 ((k1 : Nat) : Int)), (51, v4), (52, .int .i64 ((x3.length : Nat) : Int)), (53, .int .i64 ((k2 : Nat) : Int)), (81, (γ2 8 1)), (82, .int .i64 ((r6.2.1.length : Nat) : Int)), (83, .int .i64 ((k3 : Nat) : Int))]) (fun (k3 : Nat) (st : (List (Int × Unit))) (g : Unit) => [blkP (.pointer (some ⟨b1, 0, none⟩)) 24 [.int .u64 r1.S.P, .int .i64 r1.S.N, .int .i64 r1.S.T], treeV (rowK Kd.u64 22) 30 (th g7) ((tg g7).set k1 (γ3 9 0)) l12, treeV (rowK Kd.i64 3) 25 (th g2) (tg g2) l4, mapV .i64 (fun _ : Unit => Value.agg #[]) v5 st, ownV (Kd.sl (Kd.sl Kd.u64)) 27 w2 r2.1, rdV (Kd.sl Kd.u64) v4 x3, ownV Kd.i64 3 (γ2 8 1) r6.2.1, blkP (.pointer (some ⟨bp_n, 0, none⟩)) 119 [.int .u64 p_n.zw.S.P, .int .i64 p_n.zw.S.N, .int .i64 p_n.zw.S.T, vp_n_1, vp_n_2, vp_n_3, .int .i64 r2.2.1, (th w4), vp_n_5], rdV Kd.i64 vp_n_1 p_n.zw.Corrupt, rdV K_api_Deviation vp_n_2 p_n.zw.Deviations, rdV (Kd.sl Kd.u64) vp_n_3 p_n.zw.Tapes, treeV (rowK K_api_Event 67) 46 (th w4) (tg w4) r2.2.2, rdV Kd.any vp_n_5 p_n.ztapes] ++ F) () el3 (Nat.zero_le _) aK (tH [(9, false), (23, false), (9, false), (9, false), (9, false), (9, true), (18, false), (10, false), (10, true), (11, true), (12, true), (13, false), (13, true)] 17) ?_ ?_
          ·
           rintro ⟨⟩ j
           refine wh_seq ?_
           refine wh_region ?_
           refine w_p Tb_ok 1 kr ?_
           refine wi_end kr ?_
           refine qh_then ?_
           refine wh_seq ?_
           refine h_cf (b := (decide ((((r6.2.1.length) : Nat) : Int) < ((r6.2.1.length : Nat) : Int)))) rgF kr ?_
           refine wh_exit ?_
           refine qh_then_exit ?_
           refine q_rzX ?_
           refine qh_block_exit ?_
           exact q_join () trivial aK (tH [(0, false), (0, false), (0, false), (0, false), (0, false), (0, true), (2, false), (2, true), (3, true), (4, true), (5, false), (5, true)] 6)
          ·
           rintro rem k3 l13 ⟨⟩ o3 hk3 h20 hn3 j
           have h20 : reconstruct_Values_L2 r6 k3 l13 = some o3 := h20
           unfold reconstruct_Values_L2 at h20
           refine wh_seq ?_
           refine wh_region ?_
           refine w_p Tb_ok 1 kr ?_
           refine wi_end kr ?_
           refine qh_then ?_
           refine wh_seq ?_
           refine h_ct (b := (decide (((k3 : Nat) : Int) < ((r6.2.1.length : Nat) : Int)))) (rgT hk3) kr ?_
           refine wh_skip ?_
           refine qh_then ?_
           refine wh_seq ?_
           refine wh_block ?_
           refine wh_seq ?_
           refine wh_region ?_
           obtain ⟨x8, ex8, h21⟩ := bnd h20
           refine w_ix (k := .i64) (own_hd 6 rfl) (nbd ex8) rfl kr ts_25 ti_3 ?_
           refine w_ldO 6 0 rfl ex8 kr ti_3 rfl rfl ?_
           rintro _
           refine w_p Tb_ok 1 kr ?_
           refine wi_end kr ?_
           refine qh_then ?_
           refine wh_region ?_
           refine w_p Tb_ok 2 kr ?_
           obtain ⟨x9, ex9, h22⟩ := bnd h21
           refine w_bi (zaddI ex9) kr ?_
           refine w_bd (v := .agg #[]) (t := 129) (ps0 := []) (ps := []) sc0 kr (fun w => by kernel_rfl) ?_
           refine w_upM (vd := (fun _ : Unit => Value.agg #[])) (k := x9) (a := ()) 3 rfl kr tm_127 ?_
           refine wi_end kr ?_
           refine qh_block_normal ?_
           refine qh_then ?_
           refine wh_region ?_
           refine w_bi (zinc hk3 hN3) kr ?_
           refine w_p Tb_ok 1 kr ?_
           refine wi_end kr ?_
           have h22 := Option.some.inj h22; subst h22
           exact q_rs () hn3 aK (tH [(1, false), (1, false), (1, false), (0, false), (0, false), (0, true), (1, false), (1, false), (1, true), (2, true), (3, true), (4, false), (4, true)] 5)
         ·
          rintro ⟨⟩ - j
          refine qh_block_normal ?_
          refine qh_then ?_
          refine wh_region ?_
          refine w_bi (zinc hk2 hN2) kr ?_
          refine w_p Tb_ok 1 kr ?_
          refine wi_end kr ?_
          have h19 := Option.some.inj h19; subst h19
          exact q_rs (tw (th g7) ((tg g7).set k1 (γ3 9 0))) hn2 aK (tH [(0, false), (0, false), (0, false), (0, false), (0, false), (0, true), (1, false), (1, true), (2, true), (3, true), (4, false), (4, true)] 5)
     ·
      rintro g8 - j
      refine qh_then ?_
      refine wh_seq ?_
      refine wh_region ?_
      refine w_p Tb_ok 1 kr ?_
      refine w_ldB 0 1 rfl kr ti_3 rfl rfl ?_
      refine w_p Tb_ok 1 kr ?_
      refine wi_end kr ?_
      refine qh_then ?_
      obtain ⟨u1, eu1, h23⟩ := bnd h10
      have hN4 := ckN_some eu1
      obtain ⟨l16, el4, h24⟩ := bnd h23
      refine h_join (X := Value) (fun g => [(6, (.pointer (some ⟨b1, 0, none⟩))), (7, (th g8)), (8, (th g)), (43, w2), (44, .int .i64 ((r2.1.length : Nat) : Int)), (45, .int .i64 ((k1 : Nat) : Int))]) (fun g => [blkP (.pointer (some ⟨b1, 0, none⟩)) 24 [.int .u64 r1.S.P, .int .i64 r1.S.N, .int .i64 r1.S.T], treeV (rowK Kd.u64 22) 30 (th g8) (tg g8) l9, treeV (rowK Kd.i64 3) 25 (th g) (tg g) l16, ownV (Kd.sl (Kd.sl Kd.u64)) 27 w2 r2.1, blkP (.pointer (some ⟨bp_n, 0, none⟩)) 119 [.int .u64 p_n.zw.S.P, .int .i64 p_n.zw.S.N, .int .i64 p_n.zw.S.T, vp_n_1, vp_n_2, vp_n_3, .int .i64 r2.2.1, (th w4), vp_n_5], rdV Kd.i64 vp_n_1 p_n.zw.Corrupt, rdV K_api_Deviation vp_n_2 p_n.zw.Deviations, rdV (Kd.sl Kd.u64) vp_n_3 p_n.zw.Tapes, treeV (rowK K_api_Event 67) 46 (th w4) (tg w4) r2.2.2, rdV Kd.any vp_n_5 p_n.ztapes] ++ F) (fun _ => True) ?_ ?_
      ·
       refine wh_block ?_
       refine h_rs (fun (k4 : Nat) (st : (List (List Int))) (g : Value) => [(6, (.pointer (some ⟨b1, 0, none⟩))), (7, (th g8)), (8, (th g)), (10, .int .i64 ((k1 : Nat) : Int)), (12, v5), (43, w2), (44, .int .i64 ((r2.1.length : Nat) : Int)), (45, .int .i64 ((k1 : Nat) : Int)), (94, .int .i64 r1.S.N), (95, .int .i64 ((k4 : Nat) : Int))]) (fun (k4 : Nat) (st : (List (List Int))) (g : Value) => [blkP (.pointer (some ⟨b1, 0, none⟩)) 24 [.int .u64 r1.S.P, .int .i64 r1.S.N, .int .i64 r1.S.T], treeV (rowK Kd.u64 22) 30 (th g8) (tg g8) l9, treeV (rowK Kd.i64 3) 25 (th g) (tg g) st, mapV .i64 (fun _ : Unit => Value.agg #[]) v5 l10, ownV (Kd.sl (Kd.sl Kd.u64)) 27 w2 r2.1, blkP (.pointer (some ⟨bp_n, 0, none⟩)) 119 [.int .u64 p_n.zw.S.P, .int .i64 p_n.zw.S.N, .int .i64 p_n.zw.S.T, vp_n_1, vp_n_2, vp_n_3, .int .i64 r2.2.1, (th w4), vp_n_5], rdV Kd.i64 vp_n_1 p_n.zw.Corrupt, rdV K_api_Deviation vp_n_2 p_n.zw.Deviations, rdV (Kd.sl Kd.u64) vp_n_3 p_n.zw.Tapes, treeV (rowK K_api_Event 67) 46 (th w4) (tg w4) r2.2.2, rdV Kd.any vp_n_5 p_n.ztapes] ++ F) (tw (th g2) (tg g2)) el4 (Nat.le_max_left ..) aK (tH [(0, false), (0, false), (0, false), (0, false), (0, false), (0, false), (0, true), (1, true), (2, true), (3, false), (3, true)] 4) ?_ ?_
       ·
        rintro g13 j
        refine wh_seq ?_
        refine wh_region ?_
        refine w_p Tb_ok 1 kr ?_
        refine wi_end kr ?_
        refine qh_then ?_
        refine wh_seq ?_
        refine h_cf (b := (decide ((((max 0 (r1.S.N).toNat) : Nat) : Int) < r1.S.N))) rgLF kr ?_
        refine wh_exit ?_
        refine qh_then_exit ?_
        refine q_rzX ?_
        refine qh_block_exit ?_
        exact q_join (tw (th g13) (tg g13)) trivial aK (tH [(0, false), (0, false), (0, false), (1, false), (1, false), (1, true), (2, true), (3, true), (4, false), (4, true)] 5)
       ·
        rintro rem k4 l15 g11 o4 hk4 h25 hn4 j
        have h25 : reconstruct_Values_L3 k1 l10 k4 l15 = some o4 := h25
        unfold reconstruct_Values_L3 at h25
        refine wh_seq ?_
        refine wh_region ?_
        refine w_p Tb_ok 1 kr ?_
        refine wi_end kr ?_
        refine qh_then ?_
        refine wh_seq ?_
        refine h_ct (b := (decide (((k4 : Nat) : Int) < r1.S.N))) (rgLT hk4) kr ?_
        refine wh_skip ?_
        refine qh_then ?_
        refine wh_seq ?_
        refine wh_block ?_
        refine wh_seq ?_
        refine wh_region ?_
        refine w_p Tb_ok 2 kr ?_
        refine wi_end kr ?_
        refine qh_then ?_
        refine wh_seq ?_
        refine wh_region ?_
        refine w_p Tb_ok 2 kr ?_
        obtain ⟨x11, ex11, h26⟩ := bnd h25
        refine w_bi (zaddI ex11) kr ?_
        refine w_lkM (k := x11) true () 3 rfl kr tm_127 ti_129 rfl ?_
        refine w_p Tb_ok 3 kr ?_
        refine w_al kr ti_129 (fun q2 => ?_)
        refine WI.hd (y := blkP q2 129 []) kr ?_
        refine w_opP 0 rfl (fun b2 hb => ?_)
        subst hb
        refine w_stB (v := .agg #[]) (off := 0) (cs := []) 0 rfl (cv0 kr) kr ti_129 rfl rfl oN ?_
        refine WI.hd (y := blkP (.pointer (some ⟨b2, 0, none⟩)) 129 []) kr ?_
        refine w_p Tb_ok 1 kr ?_
        refine wi_end kr ?_
        refine qh_then ?_
        refine wh_seq ?_
        refine wh_region ?_
        refine w_p Tb_ok 1 kr ?_
        refine wi_end kr ?_
        refine qh_then ?_
        rcases bcase h26 with ⟨t2, h27⟩ | ⟨t2, h27⟩
        ·
         refine h_ct (b := ((mgetO l10 x11).isSome)) t2 kr ?_
         refine wh_region ?_
         refine w_p Tb_ok 4 kr ?_
         obtain ⟨x12, ex12, h28⟩ := bnd h27
         refine w_ix (k := .i64) (tree_hdI (inP 3 rfl)) (nbd ex12) rfl kr ts_58 ti_25 ?_
         refine w_ldN rs_row (inP 3 rfl) ex12 kr ti_25 (fun g14 => ?_)
         refine w_p Tb_ok 1 kr ?_
         refine w_bi (zaddI ex11) kr ?_
         refine w_lt (kd := Kd.i64) (t := 25) (len := 1) (ps0 := [(0, .int .i64 x11)]) (ps := [(0, .int .i64 x11)]) ([x11] : List Int) _ (rowC (x := x11) (g := ()) (it0 rfl) row0) (scI sc0) kr ts_25 ti_3 kr rfl rfl (fun v9 => ?_)
         refine WI.fact 1 rfl (fun hg4 => ?_)
         refine WI.ent (tr_out 6 rfl hg4 ex12) ?_
         obtain ⟨l17, el17, h29⟩ := bnd h28
         refine w_app 0 rfl (own_src 2 rfl) el17 kr ts_25 ti_3 rfl (fun v10 => ?_)
         refine w_ix (k := .i64) (hole_hdI (inP 1 rfl)) (nbd ex12) rfl kr ts_58 ti_25 ?_
         obtain ⟨l18, el18, h30⟩ := bnd h29
         refine w_stH (R := (rowK Kd.i64 3)) (g' := v10) (m := k1) 0 0 rfl rfl (nbd ex12) (sinj el18) rfl (cvS (own_hd 0 rfl)) (sl_one (own_hd 0 rfl)) kr ti_25 ?_
         refine wi_end kr ?_
         refine qh_block_normal ?_
         refine qh_then ?_
         refine wh_region ?_
         refine w_bi (zinc hk4 hN4) kr ?_
         refine w_p Tb_ok 1 kr ?_
         refine wi_end kr ?_
         have h30 := Option.some.inj h30; subst h30
         exact q_rs (tw (th g11) ((tg g11).set k1 v10)) hn4 aK (tH [(5, false), (5, false), (0, false), (4, false), (4, false), (4, false), (4, true), (5, true), (6, true), (7, false), (7, true)] 8)
        ·
         refine h_cf (b := ((mgetO l10 x11).isSome)) t2 kr ?_
         refine wh_skip ?_
         refine qh_block_normal ?_
         refine qh_then ?_
         refine wh_region ?_
         refine w_bi (zinc hk4 hN4) kr ?_
         refine w_p Tb_ok 1 kr ?_
         refine wi_end kr ?_
         have h27 := Option.some.inj h27; subst h27
         exact q_rs (tw (th g11) (tg g11)) hn4 aK (tH [(1, false), (1, false), (1, false), (1, false), (1, false), (1, false), (1, true), (2, true), (3, true), (4, false), (4, true)] 5)
      ·
       rintro g12 - j
       refine qh_block_normal ?_
       refine qh_then ?_
       refine wh_region ?_
       refine w_bi (zinc hk1 hN1) kr ?_
       refine w_p Tb_ok 1 kr ?_
       refine wi_end kr ?_
       have h24 := Option.some.inj h24; subst h24
       exact q_rs ((tw (th g8) (tg g8)), (tw (th g12) (tg g12))) hn1 aK (tH [(0, false), (0, false), (0, false), (0, false), (0, false), (0, true), (1, true), (2, true), (3, false), (3, true)] 4)
   ·
    rintro ⟨g3, g4⟩ - j
    refine qh_then ?_
    refine wh_seq ?_
    refine wh_region ?_
    refine w_p Tb_ok 4 kr ?_
    refine wi_end kr ?_
    refine qh_then ?_
    refine wh_ret ?_
    refine QH.ent (tr_own fz_row 0 rfl) ?_
    refine QH.ent (tr_own fz_row 1 rfl) ?_
    have h7 := Option.some.inj h7; subst h7
    exact q_end (l := [(th g3), (th g4)]) [(1, false), (0, false), (0, false), (3, false)] 4 ⟨(th g3), (th g4), (tw (th w4) (tg w4)), rfl, rfl⟩ (.inl rfl) kr kr kr
theorem c_privityref04_Equal {p_a : List Nat} {p_b : List Nat} {vp_a_1 : Value} {vp_b_1 : Value} {r : Bool} (h : privityref04_Equal p_a p_b = some r) : Ct Tryd.prog 48 [vp_a_1, vp_b_1] [rdV Kd.u64 vp_a_1 p_a, rdV Kd.u64 vp_b_1 p_b] (fun v L => v = .bool r ∧ L = []) := by
 refine ct_intro Tryd.func48 rfl kr (fun F => ?_)
 unfold privityref04_Equal at h
 refine wh_seq ?_
 refine wh_region ?_
 refine w_p Tb_ok 1 kr ?_
 refine wi_end kr ?_
 refine qh_then ?_
 refine wh_seq ?_
 refine wh_seq ?_
 refine wh_region ?_
 refine w_p Tb_ok 1 kr ?_
 refine w_len (rd_hd 0 rfl) kr ts_30 ?_
 refine w_p Tb_ok 1 kr ?_
 refine w_len (rd_hd 1 rfl) kr ts_30 ?_
 refine w_p Tb_ok 1 kr ?_
 refine wi_end kr ?_
 refine qh_then ?_
 rcases bcase h with ⟨t1, h1⟩ | ⟨t1, h1⟩
 ·
  refine h_ct (b := (((p_a.length : Nat) : Int) != ((p_b.length : Nat) : Int))) t1 kr ?_
  refine wh_seq ?_
  refine wh_region ?_
  refine w_p Tb_ok 1 kr ?_
  refine wi_end kr ?_
  refine qh_then ?_
  refine wh_ret ?_
  refine qh_then_ret ?_
  have h1 := Option.some.inj h1; subst h1
  exact q_end (l := [.bool false]) [] 2 ⟨rfl, rfl⟩ (.inl rfl) kr kr kr
 ·
  refine h_cf (b := (((p_a.length : Nat) : Int) != ((p_b.length : Nat) : Int))) t1 kr ?_
  refine wh_skip ?_
  refine qh_then ?_
  refine wh_seq ?_
  refine wh_seq ?_
  refine wh_region ?_
  refine w_p Tb_ok 1 kr ?_
  refine wi_end kr ?_
  refine qh_then ?_
  refine h_lenle (rd_lenle 0 rfl) (fun hN1 => ?_)
  obtain ⟨r1, el1, h2⟩ := bnd h1
  refine h_join (X := Unit × Unit) (fun g => []) (fun g => [] ++ F) (fun g => r1 = .go g.2) ?_ ?_
  ·
   refine wh_block ?_
   refine h_rg (fun (k1 : Nat) (st : Unit) (g : Unit) => [(0, vp_a_1), (1, vp_b_1), (5, .int .i64 ((k1 : Nat) : Int))]) (fun (k1 : Nat) (st : Unit) (g : Unit) => [rdV Kd.u64 vp_a_1 p_a, rdV Kd.u64 vp_b_1 p_b] ++ F) () el1 (Nat.zero_le _) aK (tH [(0, true), (1, true)] 2) ?_ ?_
   ·
    rintro ⟨⟩ ⟨⟩ hr1 j
    refine wh_seq ?_
    refine wh_seq ?_
    refine wh_region ?_
    refine w_p Tb_ok 2 kr ?_
    refine w_len (rd_hd 0 rfl) kr ts_30 ?_
    refine w_p Tb_ok 1 kr ?_
    refine wi_end kr ?_
    refine qh_then ?_
    refine h_cf (b := (decide ((((p_a.length) : Nat) : Int) < ((p_a.length : Nat) : Int)))) rgF kr ?_
    refine wh_exit ?_
    refine qh_then_exit ?_
    refine q_rzX ?_
    refine qh_block_exit ?_
    exact q_join ((), ()) hr1 aK (tH [] 2)
   ·
    rintro rem k1 ⟨⟩ ⟨⟩ o1 hk1 h3 hn1 j
    have h3 : privityref04_Equal_L0 p_a p_b k1 = some o1 := h3
    unfold privityref04_Equal_L0 at h3
    refine wh_seq ?_
    refine wh_seq ?_
    refine wh_region ?_
    refine w_p Tb_ok 2 kr ?_
    refine w_len (rd_hd 0 rfl) kr ts_30 ?_
    refine w_p Tb_ok 1 kr ?_
    refine wi_end kr ?_
    refine qh_then ?_
    refine h_ct (b := (decide (((k1 : Nat) : Int) < ((p_a.length : Nat) : Int)))) (rgT hk1) kr ?_
    refine wh_skip ?_
    refine qh_then ?_
    refine wh_seq ?_
    refine wh_block ?_
    refine wh_seq ?_
    obtain ⟨x1, ex1, h4⟩ := bnd h3
    obtain ⟨x2, ex2, h5⟩ := bnd h4
    refine h_flow [0, 0, 3, 7, 0, 0, 48, 112, 255] ⟨2, [0, 0, 0, 0, 0, 0, 0, 0, 0], [], [], [(2, [(0, 0)]), (3, [(0, 0)]), (6, [(0, 1)]), (7, [(0, 1)])]⟩ (fun γ => [vp_a_1, .int .i64 ((k1 : Nat) : Int), .pointer (some (elV vp_a_1 (k1 * Kd.u64.size))), .int .u64 x1, vp_b_1, .int .i64 ((k1 : Nat) : Int), .pointer (some (elV vp_b_1 (k1 * Kd.u64.size))), .int .u64 x2, .bool (((x1 : Nat) : Int) != ((x2 : Nat) : Int))]) (fun _ _ => []) (fun γ => [rdV Kd.u64 vp_a_1 p_a, rdV Kd.u64 vp_b_1 p_b] ++ F) [0, 1, 4, 5, 8] tryd_mix Tb_ok kr kr (fun _ => by kernel_rfl) (fun _ => by kernel_rfl) (fun _ => by kernel_rfl) (fun _ => by kernel_rfl) (fun _ => by kernel_rfl) (fun _ => by kernel_rfl) (fun _ => by kernel_rfl) ?_ ?_
    ·
     refine ⟨?_, ?_, ?_, ?_, trivial⟩
     ·
      intro γ F
      refine WI.reH (H' := [rdV Kd.u64 vp_a_1 p_a] ++ F) kr ?_
      refine w_ix (k := .i64) (rd_hd 0 rfl) (nbd ex1) rfl kr ts_30 ti_22 ?_
      exact wE (gl []) [] 1
     ·
      intro γ F
      refine WI.reH (H' := [rdV Kd.u64 vp_a_1 p_a] ++ F) kr ?_
      refine w_ldR 0 0 rfl ex1 kr ti_22 rfl rfl ?_
      rintro _
      exact wE (gl []) [] 1
     ·
      intro γ F
      refine WI.reH (H' := [rdV Kd.u64 vp_b_1 p_b] ++ F) kr ?_
      refine w_ix (k := .i64) (rd_hd 0 rfl) (nbd ex2) rfl kr ts_30 ti_22 ?_
      exact wE (gl []) [] 1
     ·
      intro γ F
      refine WI.reH (H' := [rdV Kd.u64 vp_b_1 p_b] ++ F) kr ?_
      refine w_ldR 0 0 rfl ex2 kr ti_22 rfl rfl ?_
      rintro _
      exact wE (gl []) [] 1
    ·
     intro γ1
     refine qh_then ?_
     rcases bcase h5 with ⟨t2, h6⟩ | ⟨t2, h6⟩
     ·
      refine h_ct (b := (((x1 : Nat) : Int) != ((x2 : Nat) : Int))) t2 kr ?_
      refine wh_seq ?_
      refine wh_region ?_
      refine w_p Tb_ok 1 kr ?_
      refine wi_end kr ?_
      refine qh_then ?_
      refine wh_ret ?_
      refine qh_block_ret ?_
      refine qh_then_ret ?_
      refine q_rgR ?_
      refine qh_block_ret ?_
      refine q_joinR ?_
      refine qh_then_ret ?_
      have h6 := Option.some.inj h6; subst h6
      have hn := (show _ = _ from hn1); subst hn
      have h2 := Option.some.inj (show some _ = some _ from h2); subst h2
      exact q_end (l := [.bool false]) [] 2 ⟨rfl, rfl⟩ (.inl rfl) kr kr kr
     ·
      refine h_cf (b := (((x1 : Nat) : Int) != ((x2 : Nat) : Int))) t2 kr ?_
      refine wh_skip ?_
      refine qh_block_normal ?_
      refine qh_then ?_
      refine wh_region ?_
      refine w_p Tb_ok 1 kr ?_
      refine w_bi (zinc hk1 hN1) kr ?_
      refine w_p Tb_ok 1 kr ?_
      refine wi_end kr ?_
      have h6 := Option.some.inj h6; subst h6
      exact q_rgo () hn1 aK (tH [(0, true), (1, true)] 2)
  ·
   rintro ⟨⟨⟩, ⟨⟩⟩ hc j
   subst hc
   refine qh_then ?_
   refine wh_seq ?_
   refine wh_region ?_
   refine w_p Tb_ok 1 kr ?_
   refine wi_end kr ?_
   refine qh_then ?_
   refine wh_ret ?_
   have h2 := Option.some.inj h2; subst h2
   exact q_end (l := [.bool true]) [] 0 ⟨rfl, rfl⟩ (.inl rfl) kr kr kr
theorem c_privityref08_Places {p_a : List Int} {p_b : List Int} {vp_a_1 : Value} {vp_b_1 : Value} {r : Bool} (h : privityref08_Places p_a p_b = some r) : Ct Tryd.prog 103 [vp_a_1, vp_b_1] [rdV Kd.i64 vp_a_1 p_a, rdV Kd.i64 vp_b_1 p_b] (fun v L => v = .bool r ∧ L = []) := by
 refine ct_intro Tryd.func103 rfl kr (fun F => ?_)
 unfold privityref08_Places at h
 refine wh_seq ?_
 refine wh_region ?_
 refine w_p Tb_ok 1 kr ?_
 refine wi_end kr ?_
 refine qh_then ?_
 refine wh_seq ?_
 refine wh_seq ?_
 refine wh_region ?_
 refine w_p Tb_ok 1 kr ?_
 refine w_len (rd_hd 0 rfl) kr ts_25 ?_
 refine w_p Tb_ok 1 kr ?_
 refine w_len (rd_hd 1 rfl) kr ts_25 ?_
 refine w_p Tb_ok 1 kr ?_
 refine wi_end kr ?_
 refine qh_then ?_
 rcases bcase h with ⟨t1, h1⟩ | ⟨t1, h1⟩
 ·
  refine h_ct (b := (((p_a.length : Nat) : Int) != ((p_b.length : Nat) : Int))) t1 kr ?_
  refine wh_seq ?_
  refine wh_region ?_
  refine w_p Tb_ok 1 kr ?_
  refine wi_end kr ?_
  refine qh_then ?_
  refine wh_ret ?_
  refine qh_then_ret ?_
  have h1 := Option.some.inj h1; subst h1
  exact q_end (l := [.bool false]) [] 2 ⟨rfl, rfl⟩ (.inl rfl) kr kr kr
 ·
  refine h_cf (b := (((p_a.length : Nat) : Int) != ((p_b.length : Nat) : Int))) t1 kr ?_
  refine wh_skip ?_
  refine qh_then ?_
  refine wh_seq ?_
  refine wh_seq ?_
  refine wh_region ?_
  refine w_p Tb_ok 1 kr ?_
  refine wi_end kr ?_
  refine qh_then ?_
  refine h_lenle (rd_lenle 0 rfl) (fun hN1 => ?_)
  obtain ⟨r1, el1, h2⟩ := bnd h1
  refine h_join (X := Unit × Unit) (fun g => []) (fun g => [] ++ F) (fun g => r1 = .go g.2) ?_ ?_
  ·
   refine wh_block ?_
   refine h_rg (fun (k1 : Nat) (st : Unit) (g : Unit) => [(0, vp_a_1), (1, vp_b_1), (5, .int .i64 ((k1 : Nat) : Int))]) (fun (k1 : Nat) (st : Unit) (g : Unit) => [rdV Kd.i64 vp_a_1 p_a, rdV Kd.i64 vp_b_1 p_b] ++ F) () el1 (Nat.zero_le _) aK (tH [(0, true), (1, true)] 2) ?_ ?_
   ·
    rintro ⟨⟩ ⟨⟩ hr1 j
    refine wh_seq ?_
    refine wh_seq ?_
    refine wh_region ?_
    refine w_p Tb_ok 2 kr ?_
    refine w_len (rd_hd 0 rfl) kr ts_25 ?_
    refine w_p Tb_ok 1 kr ?_
    refine wi_end kr ?_
    refine qh_then ?_
    refine h_cf (b := (decide ((((p_a.length) : Nat) : Int) < ((p_a.length : Nat) : Int)))) rgF kr ?_
    refine wh_exit ?_
    refine qh_then_exit ?_
    refine q_rzX ?_
    refine qh_block_exit ?_
    exact q_join ((), ()) hr1 aK (tH [] 2)
   ·
    rintro rem k1 ⟨⟩ ⟨⟩ o1 hk1 h3 hn1 j
    have h3 : privityref08_Places_L0 p_a p_b k1 = some o1 := h3
    unfold privityref08_Places_L0 at h3
    refine wh_seq ?_
    refine wh_seq ?_
    refine wh_region ?_
    refine w_p Tb_ok 2 kr ?_
    refine w_len (rd_hd 0 rfl) kr ts_25 ?_
    refine w_p Tb_ok 1 kr ?_
    refine wi_end kr ?_
    refine qh_then ?_
    refine h_ct (b := (decide (((k1 : Nat) : Int) < ((p_a.length : Nat) : Int)))) (rgT hk1) kr ?_
    refine wh_skip ?_
    refine qh_then ?_
    refine wh_seq ?_
    refine wh_block ?_
    refine wh_seq ?_
    obtain ⟨x1, ex1, h4⟩ := bnd h3
    obtain ⟨x2, ex2, h5⟩ := bnd h4
    refine h_flow [0, 0, 3, 7, 0, 0, 48, 112, 255] ⟨2, [0, 0, 0, 0, 0, 0, 0, 0, 0], [], [], [(2, [(0, 0)]), (3, [(0, 0)]), (6, [(0, 1)]), (7, [(0, 1)])]⟩ (fun γ => [vp_a_1, .int .i64 ((k1 : Nat) : Int), .pointer (some (elV vp_a_1 (k1 * Kd.i64.size))), .int .i64 x1, vp_b_1, .int .i64 ((k1 : Nat) : Int), .pointer (some (elV vp_b_1 (k1 * Kd.i64.size))), .int .i64 x2, .bool (x1 != x2)]) (fun _ _ => []) (fun γ => [rdV Kd.i64 vp_a_1 p_a, rdV Kd.i64 vp_b_1 p_b] ++ F) [0, 1, 4, 5, 8] tryd_mix Tb_ok kr kr (fun _ => by kernel_rfl) (fun _ => by kernel_rfl) (fun _ => by kernel_rfl) (fun _ => by kernel_rfl) (fun _ => by kernel_rfl) (fun _ => by kernel_rfl) (fun _ => by kernel_rfl) ?_ ?_
    ·
     refine ⟨?_, ?_, ?_, ?_, trivial⟩
     ·
      intro γ F
      refine WI.reH (H' := [rdV Kd.i64 vp_a_1 p_a] ++ F) kr ?_
      refine w_ix (k := .i64) (rd_hd 0 rfl) (nbd ex1) rfl kr ts_25 ti_3 ?_
      exact wE (gl []) [] 1
     ·
      intro γ F
      refine WI.reH (H' := [rdV Kd.i64 vp_a_1 p_a] ++ F) kr ?_
      refine w_ldR 0 0 rfl ex1 kr ti_3 rfl rfl ?_
      rintro _
      exact wE (gl []) [] 1
     ·
      intro γ F
      refine WI.reH (H' := [rdV Kd.i64 vp_b_1 p_b] ++ F) kr ?_
      refine w_ix (k := .i64) (rd_hd 0 rfl) (nbd ex2) rfl kr ts_25 ti_3 ?_
      exact wE (gl []) [] 1
     ·
      intro γ F
      refine WI.reH (H' := [rdV Kd.i64 vp_b_1 p_b] ++ F) kr ?_
      refine w_ldR 0 0 rfl ex2 kr ti_3 rfl rfl ?_
      rintro _
      exact wE (gl []) [] 1
    ·
     intro γ1
     refine qh_then ?_
     rcases bcase h5 with ⟨t2, h6⟩ | ⟨t2, h6⟩
     ·
      refine h_ct (b := (x1 != x2)) t2 kr ?_
      refine wh_seq ?_
      refine wh_region ?_
      refine w_p Tb_ok 1 kr ?_
      refine wi_end kr ?_
      refine qh_then ?_
      refine wh_ret ?_
      refine qh_block_ret ?_
      refine qh_then_ret ?_
      refine q_rgR ?_
      refine qh_block_ret ?_
      refine q_joinR ?_
      refine qh_then_ret ?_
      have h6 := Option.some.inj h6; subst h6
      have hn := (show _ = _ from hn1); subst hn
      have h2 := Option.some.inj (show some _ = some _ from h2); subst h2
      exact q_end (l := [.bool false]) [] 2 ⟨rfl, rfl⟩ (.inl rfl) kr kr kr
     ·
      refine h_cf (b := (x1 != x2)) t2 kr ?_
      refine wh_skip ?_
      refine qh_block_normal ?_
      refine qh_then ?_
      refine wh_region ?_
      refine w_p Tb_ok 1 kr ?_
      refine w_bi (zinc hk1 hN1) kr ?_
      refine w_p Tb_ok 1 kr ?_
      refine wi_end kr ?_
      have h6 := Option.some.inj h6; subst h6
      exact q_rgo () hn1 aK (tH [(0, true), (1, true)] 2)
  ·
   rintro ⟨⟨⟩, ⟨⟩⟩ hc j
   subst hc
   refine qh_then ?_
   refine wh_seq ?_
   refine wh_region ?_
   refine w_p Tb_ok 1 kr ?_
   refine wi_end kr ?_
   refine qh_then ?_
   refine wh_ret ?_
   have h2 := Option.some.inj h2; subst h2
   exact q_end (l := [.bool true]) [] 0 ⟨rfl, rfl⟩ (.inl rfl) kr kr kr
theorem c_privityref20_Numbers {p_a : List Int} {p_b : List Int} {vp_a_1 : Value} {vp_b_1 : Value} {r : Bool} (h : privityref20_Numbers p_a p_b = some r) : Ct Tryd.prog 71 [vp_a_1, vp_b_1] [rdV Kd.i64 vp_a_1 p_a, rdV Kd.i64 vp_b_1 p_b] (fun v L => v = .bool r ∧ L = []) := by
 refine ct_intro Tryd.func71 rfl kr (fun F => ?_)
 unfold privityref20_Numbers at h
 refine wh_seq ?_
 refine wh_region ?_
 refine w_p Tb_ok 1 kr ?_
 refine wi_end kr ?_
 refine qh_then ?_
 refine wh_seq ?_
 refine wh_region ?_
 refine w_p Tb_ok 2 kr ?_
 obtain ⟨r1, er1, h1⟩ := bnd h
 refine w_fn [(0, true), (1, true)] (c_privityref08_Places er1) rfl fok_103 kr ?_
 rintro _ _ ⟨hv, rfl⟩; have hv := hv.symm; subst hv
 refine w_p Tb_ok 1 kr ?_
 refine wi_end kr ?_
 refine qh_then ?_
 refine wh_ret ?_
 have h1 := Option.some.inj h1; subst h1
 exact q_end (l := [.bool r1]) [] 2 ⟨rfl, rfl⟩ (.inl rfl) kr kr kr
theorem c_privitylaw20_awake  {r : Bool} (h : privitylaw20_awake = some r) : Ct Tryd.prog 36 [] [exF] (fun v L => v = .bool r ∧ L = []) := by
 refine ct_intro Tryd.func36 rfl kr (fun F => ?_)
 unfold privitylaw20_awake at h
 refine wh_seq ?_
 refine wh_region ?_
 refine w_p Tb_ok 1 kr ?_
 refine wi_end kr ?_
 refine qh_then ?_
 refine wh_seq ?_
 refine wh_region ?_
 refine w_bd (v := .agg #[.int .u64 ((31 : Nat) : Int), .int .i64 ((4 : Nat) : Int), .int .i64 ((1 : Nat) : Int)]) (t := 24) (ps0 := [(0, .int .u64 ((31 : Nat) : Int)), (1, .int .i64 ((4 : Nat) : Int)), (2, .int .i64 ((1 : Nat) : Int))]) (ps := [(0, .int .u64 ((31 : Nat) : Int)), (1, .int .i64 ((4 : Nat) : Int)), (2, .int .i64 ((1 : Nat) : Int))]) (scI (scI (scI sc0))) kr (fun w => by kernel_rfl) ?_
 refine w_lt (kd := Kd.i64) (t := 25) (len := 1) (ps0 := [(0, .int .i64 ((2 : Nat) : Int))]) (ps := [(0, .int .i64 ((2 : Nat) : Int))]) ([((2 : Nat) : Int)] : List Int) _ (rowC (x := ((2 : Nat) : Int)) (g := ()) (it0 rfl) row0) (scI sc0) kr ts_25 ti_3 kr rfl rfl (fun v1 => ?_)
 refine w_bd (v := .agg #[.int .i64 ((0 : Nat) : Int), .int .i64 ((2 : Nat) : Int), .int .i64 ((0 : Nat) : Int), .int .i64 ((0 : Nat) : Int), .int .i64 ((1 : Nat) : Int), .int .u64 ((0 : Nat) : Int), .int .i64 ((1 : Nat) : Int), .int .i64 ((0 : Nat) : Int)]) (t := 124) (ps0 := [(1, .int .i64 ((2 : Nat) : Int)), (4, .int .i64 ((1 : Nat) : Int)), (6, .int .i64 ((1 : Nat) : Int))]) (ps := [(1, .int .i64 ((2 : Nat) : Int)), (4, .int .i64 ((1 : Nat) : Int)), (6, .int .i64 ((1 : Nat) : Int))]) (scI (scI (scI sc0))) kr (fun w => by kernel_rfl) ?_
 refine w_lt (kd := K_api_Deviation) (t := 26) (len := 1) (ps0 := [(0, .agg #[.int .i64 ((0 : Nat) : Int), .int .i64 ((2 : Nat) : Int), .int .i64 ((0 : Nat) : Int), .int .i64 ((0 : Nat) : Int), .int .i64 ((1 : Nat) : Int), .int .u64 ((0 : Nat) : Int), .int .i64 ((1 : Nat) : Int), .int .i64 ((0 : Nat) : Int)])]) (ps := [(0, .agg #[.int .i64 ((0 : Nat) : Int), .int .i64 ((2 : Nat) : Int), .int .i64 ((0 : Nat) : Int), .int .i64 ((0 : Nat) : Int), .int .i64 ((1 : Nat) : Int), .int .u64 ((0 : Nat) : Int), .int .i64 ((1 : Nat) : Int), .int .i64 ((0 : Nat) : Int)])]) ([(⟨((0 : Nat) : Int), ((2 : Nat) : Int), ((0 : Nat) : Int), ((0 : Nat) : Int), ((1 : Nat) : Int), 0, ((1 : Nat) : Int), ((0 : Nat) : Int)⟩ : T_api_Deviation)] : List T_api_Deviation) _ (rowC (x := (⟨((0 : Nat) : Int), ((2 : Nat) : Int), ((0 : Nat) : Int), ((0 : Nat) : Int), ((1 : Nat) : Int), 0, ((1 : Nat) : Int), ((0 : Nat) : Int)⟩ : T_api_Deviation)) (g := ((), (), (), (), (), (), (), ())) (itC (itA (it0 rfl) (itA (it0 rfl) (itA (it0 rfl) (itA (it0 rfl) (itA (it0 rfl) (itA (it0 rfl) (itA (it0 rfl) (it0 rfl))))))))) row0) (scI sc0) kr ts_26 ti_124 kr rfl rfl (fun v2 => ?_)
 refine WI.ent (rdNil (kd := Kd.u64)) ?_
 obtain ⟨l1, el1, h1⟩ := bnd h
 refine w_mk (kd := (Kd.sl Kd.u64)) (kl := .i64) (kc := .i64) (.slice none 0 0) el1 kr ts_27 ti_30 rfl kr (itS 0 rfl) (fun v3 => ?_)
 refine w_bd (v := .agg #[.int .u64 ((31 : Nat) : Int), .int .i64 ((4 : Nat) : Int), .int .i64 ((1 : Nat) : Int), v1, v2, v3]) (t := 29) (ps0 := [(0, .agg #[.int .u64 ((31 : Nat) : Int), .int .i64 ((4 : Nat) : Int), .int .i64 ((1 : Nat) : Int)]), (1, v1), (2, v2), (3, v3)]) (ps := [(0, .agg #[.int .u64 ((31 : Nat) : Int), .int .i64 ((4 : Nat) : Int), .int .i64 ((1 : Nat) : Int)]), (1, .agg #[v1]), (2, .agg #[v2]), (3, .agg #[v3])]) (scI (scS (own_hd 3 rfl) (scS (own_hd 2 rfl) (scS (own_hd 0 rfl) sc0)))) kr (fun w => by kernel_rfl) ?_
 refine w_al kr ti_29 (fun q1 => ?_)
 refine WI.hd (y := blkP q1 29 [.int .u64 ((0 : Nat) : Int), .int .i64 ((0 : Nat) : Int), .int .i64 ((0 : Nat) : Int), (.slice none 0 0), (.slice none 0 0), (.slice none 0 0)]) kr ?_
 refine w_opP 0 rfl (fun b1 hb => ?_)
 subst hb
 refine w_stB (v := .agg #[.int .u64 ((31 : Nat) : Int), .int .i64 ((4 : Nat) : Int), .int .i64 ((1 : Nat) : Int), v1, v2, v3]) (off := 0) (cs := [.int .u64 ((31 : Nat) : Int), .int .i64 ((4 : Nat) : Int), .int .i64 ((1 : Nat) : Int), v1, v2, v3]) 0 rfl (cv0 kr) kr ti_29 rfl rfl (oC (fun _ _ => rfl) (oC (fun _ _ => rfl) (oC (fun _ _ => rfl) (oC (sl_one (own_hd 4 rfl)) (oC (sl_one (own_hd 3 rfl)) (oC (sl_one (own_hd 1 rfl)) oN)))))) ?_
 refine WI.hd (y := blkP (.pointer (some ⟨b1, 0, none⟩)) 29 [.int .u64 ((31 : Nat) : Int), .int .i64 ((4 : Nat) : Int), .int .i64 ((1 : Nat) : Int), v1, v2, v3]) kr ?_
 refine wi_end kr ?_
 refine qh_then ?_
 refine wh_seq ?_
 refine wh_region ?_
 refine w_ldB 0 0 rfl kr ti_29 rfl rfl ?_
 refine WI.ent (frzAt 4 rfl) ?_
 refine WI.ent (frzAt 4 rfl) ?_
 refine WI.ent (frzAt 3 rfl) ?_
 obtain ⟨r1, er1, h2⟩ := bnd h1
 rcases r1 with r2 | r3
 ·
  have h3 := sumL h2
  refine w_fn [(2, true), (1, true), (0, true), (5, true)] (c_privitylaw20_nets er1) rfl fok_37 kr ?_
  rintro _ _ ⟨hv, rfl⟩; have hv := hv.symm; subst hv
  refine w_p Tb_ok 7 kr ?_
  refine wi_end kr ?_
  refine qh_then ?_
  refine wh_seq ?_
  refine wh_seq ?_
  refine wh_region ?_
  refine w_p Tb_ok 2 kr ?_
  refine wi_end kr ?_
  refine qh_then ?_
  refine h_ct (b := true) rfl kr ?_
  refine wh_seq ?_
  refine wh_region ?_
  refine w_p Tb_ok 1 kr ?_
  refine wi_end kr ?_
  refine qh_then ?_
  refine wh_ret ?_
  refine qh_then_ret ?_
  have h3 := Option.some.inj h3; subst h3
  exact q_end (l := [.bool false]) [] 6 ⟨rfl, rfl⟩ (.inl rfl) kr kr kr
 ·
  have h4 := sumR h2
  rcases r3 with r4 | r5
  ·
   have h5 := sumL h4
   refine w_fn [(2, true), (1, true), (0, true), (5, true)] (c_privitylaw20_nets er1) rfl fok_37 kr ?_
   rintro _ _ ⟨w5, w5__0_1, w5__0_2, w5__0_3, w5__2, w5__3, hv, rfl⟩; have hv := hv.symm; subst hv
   refine w_opP 0 rfl (fun b2 hb => ?_)
   subst hb
   refine w_p Tb_ok 7 kr ?_
   refine wi_end kr ?_
   refine qh_then ?_
   refine wh_seq ?_
   refine wh_seq ?_
   refine wh_region ?_
   refine w_p Tb_ok 2 kr ?_
   refine wi_end kr ?_
   refine qh_then ?_
   refine h_ct (b := true) rfl kr ?_
   refine wh_seq ?_
   refine wh_region ?_
   refine w_p Tb_ok 1 kr ?_
   refine wi_end kr ?_
   refine qh_then ?_
   refine wh_ret ?_
   refine qh_then_ret ?_
   have h5 := Option.some.inj h5; subst h5
   exact q_end (l := [.bool false]) [] 12 ⟨rfl, rfl⟩ (.inl rfl) kr kr kr
  ·
   have h6 := sumR h4
   rcases r5 with r6 | r7
   ·
    have h7 := sumL h6
    refine w_fn [(2, true), (1, true), (0, true), (5, true)] (c_privitylaw20_nets er1) rfl fok_37 kr ?_
    rintro _ _ ⟨w7, w7__0_1, w7__0_2, w7__0_3, w7__2, w7__3, hv, rfl⟩; have hv := hv.symm; subst hv
    refine w_opP 0 rfl (fun b3 hb => ?_)
    subst hb
    refine w_p Tb_ok 7 kr ?_
    refine wi_end kr ?_
    refine qh_then ?_
    refine wh_seq ?_
    refine wh_seq ?_
    refine wh_region ?_
    refine w_p Tb_ok 2 kr ?_
    refine wi_end kr ?_
    refine qh_then ?_
    refine h_ct (b := true) rfl kr ?_
    refine wh_seq ?_
    refine wh_region ?_
    refine w_p Tb_ok 1 kr ?_
    refine wi_end kr ?_
    refine qh_then ?_
    refine wh_ret ?_
    refine qh_then_ret ?_
    have h7 := Option.some.inj h7; subst h7
    exact q_end (l := [.bool false]) [] 12 ⟨rfl, rfl⟩ (.inl rfl) kr kr kr
   ·
    have h8 := sumR h6
    refine w_fn [(2, true), (1, true), (0, true), (5, true)] (c_privitylaw20_nets er1) rfl fok_37 kr ?_
    rintro _ _ ⟨w10, w10__0_1, w10__0_2, w10__0_3, w10__2, w10__3, w11, w11__0_1, w11__0_2, w11__0_3, w11__2, w11__3, hv, rfl⟩; have hv := hv.symm; subst hv
    refine w_opP 0 rfl (fun b4 hb => ?_)
    subst hb
    refine w_opP 6 rfl (fun b5 hb => ?_)
    subst hb
    refine w_p Tb_ok 7 kr ?_
    refine wi_end kr ?_
    refine qh_then ?_
    refine wh_seq ?_
    refine wh_seq ?_
    refine wh_region ?_
    refine w_p Tb_ok 2 kr ?_
    refine wi_end kr ?_
    refine qh_then ?_
    refine h_cf (b := false) rfl kr ?_
    refine wh_skip ?_
    refine qh_then ?_
    refine wh_seq ?_
    refine wh_region ?_
    refine w_p Tb_ok 1 kr ?_
    refine w_lt (kd := Kd.u64) (t := 30) (len := 1) (ps0 := [(0, .int .u64 ((4 : Nat) : Int))]) (ps := [(0, .int .u64 ((4 : Nat) : Int))]) ([4] : List Nat) _ (rowC (x := 4) (g := ()) (it0 rfl) row0) (scI sc0) kr ts_30 ti_22 kr rfl rfl (fun v4 => ?_)
    refine w_lt (kd := Kd.u64) (t := 30) (len := 1) (ps0 := [(0, .int .u64 ((5 : Nat) : Int))]) (ps := [(0, .int .u64 ((5 : Nat) : Int))]) ([5] : List Nat) _ (rowC (x := 5) (g := ()) (it0 rfl) row0) (scI sc0) kr ts_30 ti_22 kr rfl rfl (fun v5 => ?_)
    refine w_lt (kd := Kd.u64) (t := 30) (len := 1) (ps0 := [(0, .int .u64 ((6 : Nat) : Int))]) (ps := [(0, .int .u64 ((6 : Nat) : Int))]) ([6] : List Nat) _ (rowC (x := 6) (g := ()) (it0 rfl) row0) (scI sc0) kr ts_30 ti_22 kr rfl rfl (fun v6 => ?_)
    refine w_lt (kd := Kd.u64) (t := 30) (len := 1) (ps0 := [(0, .int .u64 ((7 : Nat) : Int))]) (ps := [(0, .int .u64 ((7 : Nat) : Int))]) ([7] : List Nat) _ (rowC (x := 7) (g := ()) (it0 rfl) row0) (scI sc0) kr ts_30 ti_22 kr rfl rfl (fun v7 => ?_)
    refine WI.ent (frzAt 3 rfl) ?_
    refine WI.ent (frzAt 3 rfl) ?_
    refine WI.ent (frzAt 3 rfl) ?_
    refine WI.ent (frzAt 3 rfl) ?_
    refine w_lt (kd := (Kd.sl Kd.u64)) (t := 27) (len := 4) (ps0 := [(0, v4), (1, v5), (2, v6), (3, v7)]) (ps := [(0, .agg #[v4]), (1, .agg #[v5]), (2, .agg #[v6]), (3, .agg #[v7])]) ([([4] : List Nat), ([5] : List Nat), ([6] : List Nat), ([7] : List Nat)] : List (List Nat)) _ (rowC (x := ([4] : List Nat)) (g := v4) (itS 3 rfl) (rowC (x := ([5] : List Nat)) (g := v5) (itS 2 rfl) (rowC (x := ([6] : List Nat)) (g := v6) (itS 1 rfl) (rowC (x := ([7] : List Nat)) (g := v7) (itS 0 rfl) row0)))) (scS (rd_hd 3 rfl) (scS (rd_hd 2 rfl) (scS (rd_hd 1 rfl) (scS (rd_hd 0 rfl) sc0)))) kr ts_27 ti_30 kr rfl rfl (fun v8 => ?_)
    refine WI.ent (frzAt 10 rfl) ?_
    refine WI.ent (frzAt 1 rfl) ?_
    obtain ⟨r8, er8, h9⟩ := bnd h8
    refine w_fn [(6, false), (6, true), (7, true), (8, true), (9, false), (1, true), (0, true)] (c_reconstruct_Values er8) rfl fok_38 kr ?_
    rintro _ _ ⟨w13, w14, w16, hv, rfl⟩; have hv := hv.symm; subst hv
    refine w_p Tb_ok 5 kr ?_
    refine wi_end kr ?_
    refine qh_then ?_
    refine wh_seq ?_
    refine wh_region ?_
    refine w_p Tb_ok 1 kr ?_
    refine w_len (own_hd 0 rfl) kr ts_27 ?_
    refine w_p Tb_ok 2 kr ?_
    rcases bcase h9 with ⟨t1, h10⟩ | ⟨t1, h10⟩
    ·
     refine w_kb (t := 34) t1 kr ?_
     refine w_p Tb_ok 1 kr ?_
     refine w_len (own_hd 1 rfl) kr ts_58 ?_
     refine w_p Tb_ok 3 kr ?_
     rcases bcase h10 with ⟨t2, h11⟩ | ⟨t2, h11⟩
     ·
      refine w_kb (t := 39) t2 kr ?_
      refine w_p Tb_ok 1 kr ?_
      obtain ⟨x1, ex1, h12⟩ := bnd h11
      refine w_ix (k := .i64) (own_hd 0 rfl) (nbd ex1) rfl kr ts_27 ti_30 ?_
      refine w_ldO 0 0 rfl ex1 kr ti_30 rfl rfl ?_
      rintro v9
      refine w_lt (kd := Kd.u64) (t := 30) (len := 1) (ps0 := [(0, .int .u64 ((3 : Nat) : Int))]) (ps := [(0, .int .u64 ((3 : Nat) : Int))]) ([3] : List Nat) _ (rowC (x := 3) (g := ()) (it0 rfl) row0) (scI sc0) kr ts_30 ti_22 kr rfl rfl (fun v10 => ?_)
      refine WI.ent (frzAt 0 rfl) ?_
      obtain ⟨r9, er9, h13⟩ := bnd h12
      refine w_fn [(1, true), (0, true)] (c_privityref04_Equal er9) rfl fok_48 kr ?_
      rintro _ _ ⟨hv, rfl⟩; have hv := hv.symm; subst hv
      refine w_p Tb_ok 2 kr ?_
      rcases bcase h13 with ⟨t3, h14⟩ | ⟨t3, h14⟩
      ·
       refine w_kb (t := 46) t3 kr ?_
       refine w_p Tb_ok 1 kr ?_
       obtain ⟨x2, ex2, h15⟩ := bnd h14
       refine w_ix (k := .i64) (own_hd 3 rfl) (nbd ex2) rfl kr ts_58 ti_25 ?_
       refine w_ldO 3 0 rfl ex2 kr ti_25 rfl rfl ?_
       rintro v11
       refine w_lt (kd := Kd.i64) (t := 25) (len := 1) (ps0 := [(0, .int .i64 ((2 : Nat) : Int))]) (ps := [(0, .int .i64 ((2 : Nat) : Int))]) ([((2 : Nat) : Int)] : List Int) _ (rowC (x := ((2 : Nat) : Int)) (g := ()) (it0 rfl) row0) (scI sc0) kr ts_25 ti_3 kr rfl rfl (fun v12 => ?_)
       refine WI.ent (frzAt 0 rfl) ?_
       obtain ⟨r10, er10, h16⟩ := bnd h15
       refine w_fn [(1, true), (0, true)] (c_privityref20_Numbers er10) rfl fok_71 kr ?_
       rintro _ _ ⟨hv, rfl⟩; have hv := hv.symm; subst hv
       refine w_p Tb_ok 2 kr ?_
       rcases bcase h16 with ⟨t4, h17⟩ | ⟨t4, h17⟩
       ·
        refine w_kb (t := 53) t4 kr ?_
        refine w_p Tb_ok 1 kr ?_
        obtain ⟨x3, ex3, h18⟩ := bnd h17
        refine w_ix (k := .i64) (own_hd 4 rfl) (nbd ex3) rfl kr ts_27 ti_30 ?_
        refine w_ldO 4 0 rfl ex3 kr ti_30 rfl rfl ?_
        rintro v13
        refine w_lt (kd := Kd.u64) (t := 30) (len := 1) (ps0 := [(0, .int .u64 ((3 : Nat) : Int))]) (ps := [(0, .int .u64 ((3 : Nat) : Int))]) ([3] : List Nat) _ (rowC (x := 3) (g := ()) (it0 rfl) row0) (scI sc0) kr ts_30 ti_22 kr rfl rfl (fun v14 => ?_)
        refine WI.ent (frzAt 0 rfl) ?_
        obtain ⟨r11, er11, h19⟩ := bnd h18
        refine w_fn [(1, true), (0, true)] (c_privityref04_Equal er11) rfl fok_48 kr ?_
        rintro _ _ ⟨hv, rfl⟩; have hv := hv.symm; subst hv
        refine w_p Tb_ok 2 kr ?_
        rcases bcase h19 with ⟨t5, h20⟩ | ⟨t5, h20⟩
        ·
         refine w_kb (t := 60) t5 kr ?_
         refine w_p Tb_ok 1 kr ?_
         obtain ⟨x4, ex4, h21⟩ := bnd h20
         refine w_ix (k := .i64) (own_hd 7 rfl) (nbd ex4) rfl kr ts_58 ti_25 ?_
         refine w_ldO 7 0 rfl ex4 kr ti_25 rfl rfl ?_
         rintro v15
         refine WI.ent (rdNil (kd := Kd.i64)) ?_
         obtain ⟨r12, er12, h22⟩ := bnd h21
         refine w_fn [(1, true), (0, true)] (c_privityref20_Numbers er12) rfl fok_71 kr ?_
         rintro _ _ ⟨hv, rfl⟩; have hv := hv.symm; subst hv
         refine w_p Tb_ok 2 kr ?_
         refine wi_end kr ?_
         refine qh_then ?_
         refine wh_ret ?_
         have h22 := Option.some.inj h22; subst h22
         exact q_end (l := [.bool r12]) [] 33 ⟨rfl, rfl⟩ (.inl rfl) kr kr kr
        ·
         refine w_kb (t := 60) t5 kr ?_
         refine w_p Tb_ok 6 kr ?_
         refine wi_end kr ?_
         refine qh_then ?_
         refine wh_ret ?_
         have h20 := Option.some.inj h20; subst h20
         exact q_end (l := [.bool false]) [] 31 ⟨rfl, rfl⟩ (.inl rfl) kr kr kr
       ·
        refine w_kb (t := 53) t4 kr ?_
        refine w_p Tb_ok 13 kr ?_
        refine wi_end kr ?_
        refine qh_then ?_
        refine wh_ret ?_
        have h17 := Option.some.inj h17; subst h17
        exact q_end (l := [.bool false]) [] 29 ⟨rfl, rfl⟩ (.inl rfl) kr kr kr
      ·
       refine w_kb (t := 46) t3 kr ?_
       refine w_p Tb_ok 20 kr ?_
       refine wi_end kr ?_
       refine qh_then ?_
       refine wh_ret ?_
       have h14 := Option.some.inj h14; subst h14
       exact q_end (l := [.bool false]) [] 27 ⟨rfl, rfl⟩ (.inl rfl) kr kr kr
     ·
      refine w_kb (t := 39) t2 kr ?_
      refine w_p Tb_ok 27 kr ?_
      refine wi_end kr ?_
      refine qh_then ?_
      refine wh_ret ?_
      have h11 := Option.some.inj h11; subst h11
      exact q_end (l := [.bool false]) [] 25 ⟨rfl, rfl⟩ (.inl rfl) kr kr kr
    ·
     refine w_kb (t := 34) t1 kr ?_
     refine w_p Tb_ok 32 kr ?_
     refine wi_end kr ?_
     refine qh_then ?_
     refine wh_ret ?_
     have h10 := Option.some.inj h10; subst h10
     exact q_end (l := [.bool false]) [] 25 ⟨rfl, rfl⟩ (.inl rfl) kr kr kr
theorem c_privityref01_Mul {p_p : Nat} {p_a : Nat} {p_b : Nat} {r : Nat} (h : privityref01_Mul p_p p_a p_b = some r) : Ct Tryd.prog 31 [.int .u64 p_p, .int .u64 p_a, .int .u64 p_b] [] (fun v L => v = .int .u64 r ∧ L = []) := by
 refine ct_intro Tryd.func31 rfl kr (fun F => ?_)
 unfold privityref01_Mul at h
 refine wh_seq ?_
 refine wh_region ?_
 refine w_p Tb_ok 1 kr ?_
 refine wi_end kr ?_
 refine qh_then ?_
 refine wh_seq ?_
 refine wh_region ?_
 refine w_p Tb_ok 1 kr ?_
 refine wi_end kr ?_
 refine qh_then ?_
 refine wh_seq ?_
 obtain ⟨x5, el1, h1⟩ := bnd h
 refine h_join (X := Unit) (fun g => [(7, .int .u64 x5)]) (fun g => [] ++ F) (fun _ => True) ?_ ?_
 ·
  refine wh_block ?_
  refine h_lp (fun (st : Nat × Nat × Nat) (g : Unit) => [(0, .int .u64 p_p), (1, .int .u64 st.1), (2, .int .u64 st.2.1), (7, .int .u64 st.2.2)]) (fun (st : Nat × Nat × Nat) (g : Unit) => [] ++ F) () el1 aK (tH [] 0) ?_
  rintro kk ⟨x1, x2, x3⟩ ⟨⟩ o1 h2 hn1 j
  have h2 : privityref01_Mul_L0 p_p x1 x2 x3 = some o1 := h2
  unfold privityref01_Mul_L0 at h2
  refine wh_seq ?_
  refine wh_seq ?_
  refine wh_region ?_
  refine w_p Tb_ok 2 kr ?_
  refine wi_end kr ?_
  refine qh_then ?_
  rcases bcase h2 with ⟨t1, h3⟩ | ⟨t1, h3⟩
  ·
   refine h_ct (b := (decide (((x2 : Nat) : Int) > (0 : Int)))) t1 kr ?_
   refine wh_skip ?_
   refine qh_then ?_
   refine wh_block ?_
   refine wh_seq ?_
   refine wh_seq ?_
   refine wh_region ?_
   refine w_p Tb_ok 1 kr ?_
   obtain ⟨x6, ex6, h4⟩ := bnd h3
   refine w_bi (zremU ex6) kr ?_
   refine w_p Tb_ok 1 kr ?_
   refine wi_end kr ?_
   refine qh_then ?_
   rcases bcase h4 with ⟨t2, h5⟩ | ⟨t2, h5⟩
   ·
    refine h_ct (b := (((x6 : Nat) : Int) == (1 : Int))) t2 kr ?_
    refine wh_region ?_
    refine w_p Tb_ok 2 kr ?_
    obtain ⟨x7, ex7, h6⟩ := bnd h5
    refine w_bi (eaddU ex7) kr ?_
    refine w_p Tb_ok 1 kr ?_
    obtain ⟨x8, ex8, h7⟩ := bnd h6
    refine w_bi (zremU ex8) kr ?_
    refine w_p Tb_ok 1 kr ?_
    refine wi_end kr ?_
    refine qh_then ?_
    refine wh_seq ?_
    refine wh_region ?_
    refine w_p Tb_ok 2 kr ?_
    obtain ⟨x9, ex9, h8⟩ := bnd h7
    refine w_bi (eaddU ex9) kr ?_
    refine w_p Tb_ok 1 kr ?_
    obtain ⟨x10, ex10, h9⟩ := bnd h8
    refine w_bi (zremU ex10) kr ?_
    refine w_p Tb_ok 1 kr ?_
    refine wi_end kr ?_
    refine qh_then ?_
    refine wh_region ?_
    refine w_p Tb_ok 1 kr ?_
    obtain ⟨x11, ex11, h10⟩ := bnd h9
    refine w_bi (zdivU ex11) kr ?_
    refine w_p Tb_ok 1 kr ?_
    refine wi_end kr ?_
    refine qh_block_normal ?_
    have h10 := Option.some.inj h10; subst h10
    exact q_go () hn1 aK (tH [] 0)
   ·
    refine h_cf (b := (((x6 : Nat) : Int) == (1 : Int))) t2 kr ?_
    refine wh_skip ?_
    refine qh_then ?_
    refine wh_seq ?_
    refine wh_region ?_
    refine w_p Tb_ok 2 kr ?_
    obtain ⟨x12, ex12, h11⟩ := bnd h5
    refine w_bi (eaddU ex12) kr ?_
    refine w_p Tb_ok 1 kr ?_
    obtain ⟨x13, ex13, h12⟩ := bnd h11
    refine w_bi (zremU ex13) kr ?_
    refine w_p Tb_ok 1 kr ?_
    refine wi_end kr ?_
    refine qh_then ?_
    refine wh_region ?_
    refine w_p Tb_ok 1 kr ?_
    obtain ⟨x14, ex14, h13⟩ := bnd h12
    refine w_bi (zdivU ex14) kr ?_
    refine w_p Tb_ok 1 kr ?_
    refine wi_end kr ?_
    refine qh_block_normal ?_
    have h13 := Option.some.inj h13; subst h13
    exact q_go () hn1 aK (tH [] 0)
  ·
   refine h_cf (b := (decide (((x2 : Nat) : Int) > (0 : Int)))) t1 kr ?_
   refine wh_exit ?_
   refine qh_then_exit ?_
   refine q_lpX ?_
   refine qh_block_exit ?_
   have h3 := Option.some.inj h3; subst h3
   cases (show _ = _ from hn1)
   exact q_join () trivial aK (tH [] 0)
 ·
  rintro ⟨⟩ - j
  refine qh_then ?_
  refine wh_seq ?_
  refine wh_region ?_
  refine w_p Tb_ok 2 kr ?_
  refine wi_end kr ?_
  refine qh_then ?_
  refine wh_ret ?_
  have h1 := Option.some.inj h1; subst h1
  exact q_end (l := [.int .u64 x5]) [] 0 ⟨rfl, rfl⟩ (.inl rfl) kr kr kr
theorem c_privityref01_Add {p_p : Nat} {p_a : Nat} {p_b : Nat} {r : Nat} (h : privityref01_Add p_p p_a p_b = some r) : Ct Tryd.prog 34 [.int .u64 p_p, .int .u64 p_a, .int .u64 p_b] [] (fun v L => v = .int .u64 r ∧ L = []) := by
 refine ct_intro Tryd.func34 rfl kr (fun F => ?_)
 unfold privityref01_Add at h
 refine wh_seq ?_
 refine wh_region ?_
 refine w_p Tb_ok 1 kr ?_
 refine wi_end kr ?_
 refine qh_then ?_
 refine wh_seq ?_
 refine wh_region ?_
 refine w_p Tb_ok 2 kr ?_
 obtain ⟨x1, ex1, h1⟩ := bnd h
 refine w_bi (eaddU ex1) kr ?_
 refine w_p Tb_ok 1 kr ?_
 obtain ⟨x2, ex2, h2⟩ := bnd h1
 refine w_bi (zremU ex2) kr ?_
 refine w_p Tb_ok 1 kr ?_
 refine wi_end kr ?_
 refine qh_then ?_
 refine wh_ret ?_
 have h2 := Option.some.inj h2; subst h2
 exact q_end (l := [.int .u64 x2]) [] 0 ⟨rfl, rfl⟩ (.inl rfl) kr kr kr
theorem c_privityref04_Eval {p_p : Nat} {p_f : List Nat} {p_x : Nat} {vp_f_1 : Value} {r : Nat} (h : privityref04_Eval p_p p_f p_x = some r) : Ct Tryd.prog 44 [.int .u64 p_p, vp_f_1, .int .u64 p_x] [rdV Kd.u64 vp_f_1 p_f] (fun v L => v = .int .u64 r ∧ L = []) := by
 refine ct_intro Tryd.func44 rfl kr (fun F => ?_)
 unfold privityref04_Eval at h
 refine wh_seq ?_
 refine wh_region ?_
 refine w_p Tb_ok 1 kr ?_
 refine wi_end kr ?_
 refine qh_then ?_
 refine wh_seq ?_
 refine wh_region ?_
 refine w_p Tb_ok 2 kr ?_
 refine wi_end kr ?_
 refine qh_then ?_
 refine wh_seq ?_
 refine wh_seq ?_
 refine wh_region ?_
 refine w_p Tb_ok 1 kr ?_
 refine wi_end kr ?_
 refine qh_then ?_
 refine h_lenle (rd_lenle 0 rfl) (fun hN1 => ?_)
 obtain ⟨⟨x4, x5⟩, el1, h1⟩ := bnd h
 refine h_join (X := Unit) (fun g => [(7, .int .u64 x4)]) (fun g => [] ++ F) (fun _ => True) ?_ ?_
 ·
  refine wh_block ?_
  refine h_rs (fun (k1 : Nat) (st : Nat × Nat) (g : Unit) => [(0, .int .u64 p_p), (1, vp_f_1), (2, .int .u64 p_x), (7, .int .u64 st.1), (8, .int .u64 st.2), (9, .int .i64 ((k1 : Nat) : Int))]) (fun (k1 : Nat) (st : Nat × Nat) (g : Unit) => [rdV Kd.u64 vp_f_1 p_f] ++ F) () el1 (Nat.zero_le _) aK (tH [(0, true)] 1) ?_ ?_
  ·
   rintro ⟨⟩ j
   refine wh_seq ?_
   refine wh_seq ?_
   refine wh_region ?_
   refine w_p Tb_ok 2 kr ?_
   refine w_len (rd_hd 0 rfl) kr ts_30 ?_
   refine w_p Tb_ok 1 kr ?_
   refine wi_end kr ?_
   refine qh_then ?_
   refine h_cf (b := (decide ((((p_f.length) : Nat) : Int) < ((p_f.length : Nat) : Int)))) rgF kr ?_
   refine wh_exit ?_
   refine qh_then_exit ?_
   refine q_rzX ?_
   refine qh_block_exit ?_
   exact q_join () trivial aK (tH [] 1)
  ·
   rintro rem k1 ⟨x1, x2⟩ ⟨⟩ o1 hk1 h2 hn1 j
   have h2 : privityref04_Eval_L0 p_p p_f p_x k1 x1 x2 = some o1 := h2
   unfold privityref04_Eval_L0 at h2
   refine wh_seq ?_
   refine wh_seq ?_
   refine wh_region ?_
   refine w_p Tb_ok 2 kr ?_
   refine w_len (rd_hd 0 rfl) kr ts_30 ?_
   refine w_p Tb_ok 1 kr ?_
   refine wi_end kr ?_
   refine qh_then ?_
   refine h_ct (b := (decide (((k1 : Nat) : Int) < ((p_f.length : Nat) : Int)))) (rgT hk1) kr ?_
   refine wh_skip ?_
   refine qh_then ?_
   refine wh_seq ?_
   refine wh_block ?_
   refine wh_seq ?_
   refine wh_region ?_
   refine w_p Tb_ok 5 kr ?_
   obtain ⟨x6, ex6, h3⟩ := bnd h2
   refine w_ix (k := .i64) (rd_hd 0 rfl) (nbd ex6) rfl kr ts_30 ti_22 ?_
   refine w_ldR 0 0 rfl ex6 kr ti_22 rfl rfl ?_
   rintro _
   refine w_p Tb_ok 1 kr ?_
   obtain ⟨r2, er2, h4⟩ := bnd h3
   refine w_fn [] (c_privityref01_Mul er2) rfl fok_31 kr ?_
   rintro _ _ ⟨hv, rfl⟩; have hv := hv.symm; subst hv
   obtain ⟨r3, er3, h5⟩ := bnd h4
   refine w_fn [] (c_privityref01_Add er3) rfl fok_34 kr ?_
   rintro _ _ ⟨hv, rfl⟩; have hv := hv.symm; subst hv
   refine w_p Tb_ok 1 kr ?_
   refine wi_end kr ?_
   refine qh_then ?_
   refine wh_region ?_
   refine w_p Tb_ok 3 kr ?_
   obtain ⟨r4, er4, h6⟩ := bnd h5
   refine w_fn [] (c_privityref01_Mul er4) rfl fok_31 kr ?_
   rintro _ _ ⟨hv, rfl⟩; have hv := hv.symm; subst hv
   refine w_p Tb_ok 1 kr ?_
   refine wi_end kr ?_
   refine qh_block_normal ?_
   refine qh_then ?_
   refine wh_region ?_
   refine w_p Tb_ok 1 kr ?_
   refine w_bi (zinc hk1 hN1) kr ?_
   refine w_p Tb_ok 1 kr ?_
   refine wi_end kr ?_
   have h6 := Option.some.inj h6; subst h6
   exact q_rs () hn1 aK (tH [(0, true)] 1)
 ·
  rintro ⟨⟩ - j
  refine qh_then ?_
  refine wh_seq ?_
  refine wh_region ?_
  refine w_p Tb_ok 2 kr ?_
  refine wi_end kr ?_
  refine qh_then ?_
  refine wh_ret ?_
  have h1 := Option.some.inj h1; subst h1
  exact q_end (l := [.int .u64 x4]) [] 0 ⟨rfl, rfl⟩ (.inl rfl) kr kr kr
end Go.Proofs.YtclhpomlfadohaaDoor
