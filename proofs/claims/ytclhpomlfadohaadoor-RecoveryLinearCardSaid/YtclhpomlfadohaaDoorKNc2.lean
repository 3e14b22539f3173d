/- Contracts of Go functions, one theorem each: the call returns just what the plain function says. Printed by a program of this claim. -/
import Derived.Test.YtclhpomlfadohaaDoorKNc1
set_option linter.unusedVariables false
namespace Go.Proofs.YtclhpomlfadohaaDoor
open Go Gv Gw Pu
set_option maxHeartbeats 4000000
theorem c_network_Net_View {p_n : T_network_Net} {p_i : Int} {bp_n : Nat} {vp_n_1 : Value} {vp_n_2 : Value} {vp_n_3 : Value} {vp_n_4 : Value} {vp_n_5 : Value} {r : (List T_api_Event)} (h : network_Net_View p_n p_i = some r) : Ct Tryd.prog 28 [(.pointer (some ⟨bp_n, 0, none⟩)), .int .i64 p_i] [blkP (.pointer (some ⟨bp_n, 0, none⟩)) 119 [.int .u64 p_n.zw.S.P, .int .i64 p_n.zw.S.N, .int .i64 p_n.zw.S.T, vp_n_1, vp_n_2, vp_n_3, .int .i64 p_n.zround, (th vp_n_4), vp_n_5], rdV Kd.i64 vp_n_1 p_n.zw.Corrupt, rdV K_api_Deviation vp_n_2 p_n.zw.Deviations, rdV (Kd.sl Kd.u64) vp_n_3 p_n.zw.Tapes, treeV (rowK K_api_Event 67) 46 (th vp_n_4) (tg vp_n_4) p_n.zviews, rdV Kd.any vp_n_5 p_n.ztapes] (fun v L => ∃ w0 : Value, v = w0 ∧ L = [ownV K_api_Event 67 w0 r, blkP (.pointer (some ⟨bp_n, 0, none⟩)) 119 [.int .u64 p_n.zw.S.P, .int .i64 p_n.zw.S.N, .int .i64 p_n.zw.S.T, vp_n_1, vp_n_2, vp_n_3, .int .i64 p_n.zround, (th vp_n_4), vp_n_5], treeV (rowK K_api_Event 67) 46 (th vp_n_4) (tg vp_n_4) p_n.zviews]) := by
 refine ct_intro Tryd.func28 rfl kr (fun F => ?_)
 unfold network_Net_View at h
 refine wh_seq ?_
 refine wh_region ?_
 refine w_p Tb_ok 1 kr ?_
 refine wi_end kr ?_
 refine qh_then ?_
 refine wh_seq ?_
 refine wh_region ?_
 refine w_p Tb_ok 3 kr ?_
 refine w_ldB 0 7 rfl kr ti_116 rfl rfl ?_
 refine w_p Tb_ok 1 kr ?_
 obtain ⟨x1, ex1, h1⟩ := bnd h
 refine w_bi (zsubI ex1) kr ?_
 obtain ⟨x2, ex2, h2⟩ := bnd h1
 refine w_ix (k := .i64) (tree_hdI (inP 4 rfl)) (ib ex2) (iz ex2) kr ts_116 ti_46 ?_
 refine w_ldN rs_row (inP 4 rfl) (ig ex2) kr ti_46 (fun g1 => ?_)
 refine WI.fact 0 rfl (fun hg1 => ?_)
 obtain ⟨l1, el1, h3⟩ := bnd h2
 refine w_app0 (kd := K_api_Event) (own_srcI (kd := K_api_Event) (e := 67) (v := g1) (ys := x2) (inRow (R := (rowK K_api_Event 67)) (inP 6 rfl) hg1 (ig ex2))) el1 kr ts_46 ti_67 rfl (fun v1 => ?_)
 refine w_p Tb_ok 1 kr ?_
 refine wi_end kr ?_
 refine qh_then ?_
 refine wh_ret ?_
 have h3 := Option.some.inj h3; subst h3
 exact q_end (l := [v1]) [(0, false), (2, false), (5, false)] 6 ⟨v1, rfl, rfl⟩ (.inl rfl) kr kr kr
theorem c_privitylaw47_awake  {r : Bool} (h : privitylaw47_awake = some r) : Ct Tryd.prog 22 [] [exF] (fun v L => v = .bool r ∧ L = []) := by
 refine ct_intro Tryd.func22 rfl kr (fun F => ?_)
 unfold privitylaw47_awake at h
 refine wh_seq ?_
 refine wh_region ?_
 refine w_p Tb_ok 1 kr ?_
 refine wi_end kr ?_
 refine qh_then ?_
 refine wh_seq ?_
 refine wh_region ?_
 refine w_bd (v := .agg #[.int .u64 ((31 : Nat) : Int), .int .i64 ((4 : Nat) : Int), .int .i64 ((1 : Nat) : Int)]) (t := 24) (ps0 := [(0, .int .u64 ((31 : Nat) : Int)), (1, .int .i64 ((4 : Nat) : Int)), (2, .int .i64 ((1 : Nat) : Int))]) (ps := [(0, .int .u64 ((31 : Nat) : Int)), (1, .int .i64 ((4 : Nat) : Int)), (2, .int .i64 ((1 : Nat) : Int))]) (scI (scI (scI sc0))) kr (fun w => by kernel_rfl) ?_
 refine w_al kr ti_24 (fun q1 => ?_)
 refine WI.hd (y := blkP q1 24 [.int .u64 ((0 : Nat) : Int), .int .i64 ((0 : Nat) : Int), .int .i64 ((0 : Nat) : Int)]) kr ?_
 refine w_opP 0 rfl (fun b1 hb => ?_)
 subst hb
 refine w_stB (v := .agg #[.int .u64 ((31 : Nat) : Int), .int .i64 ((4 : Nat) : Int), .int .i64 ((1 : Nat) : Int)]) (off := 0) (cs := [.int .u64 ((31 : Nat) : Int), .int .i64 ((4 : Nat) : Int), .int .i64 ((1 : Nat) : Int)]) 0 rfl (cv0 kr) kr ti_24 rfl rfl (oC (fun _ _ => rfl) (oC (fun _ _ => rfl) (oC (fun _ _ => rfl) oN))) ?_
 refine WI.hd (y := blkP (.pointer (some ⟨b1, 0, none⟩)) 24 [.int .u64 ((31 : Nat) : Int), .int .i64 ((4 : Nat) : Int), .int .i64 ((1 : Nat) : Int)]) kr ?_
 refine wi_end kr ?_
 refine qh_then ?_
 refine wh_seq ?_
 obtain ⟨l1, el1, h1⟩ := bnd h
 obtain ⟨r1, er1, h2⟩ := bnd h1
 rcases r1 with r2 | r3
 ·
  have h3 := sumL h2
  refine h_flow [0, 0, 3, 7, 15, 31, 31, 31, 63, 383, 1023] ⟨2, [0, 2, 0, 2, 0, 0, 0, 0, 0, 0, 0], [], [(0, [(0, 0)])], [(2, [(2, 0)]), (3, [(2, 0), (0, 1)])]⟩ (fun γ => [.agg #[.int .u64 ((31 : Nat) : Int), .int .i64 ((4 : Nat) : Int), .int .i64 ((1 : Nat) : Int)], (γ 1 0), .agg #[.int .u64 ((31 : Nat) : Int), .int .i64 ((4 : Nat) : Int), .int .i64 ((1 : Nat) : Int), (.slice none 0 0), (.slice none 0 0), (γ 1 0)], .tuple #[(.pointer none), (.pointer none), .bool false], .tuple #[(.pointer none), (.pointer none), .bool false], (.pointer none), (.pointer none), .bool false, (.pointer none), (.pointer none), .bool false]) (fun i γ => match i with | 1 => [rdV (Kd.sl Kd.u64) (γ 1 0) l1, rdV Kd.u64 (.slice none 0 0) ([] : List Nat)] | 3 => [rdV K_api_Deviation (.slice none 0 0) ([] : List T_api_Deviation), rdV Kd.i64 (.slice none 0 0) ([] : List Int)] | _ => []) (fun γ => [blkP (.pointer (some ⟨b1, 0, none⟩)) 24 [.int .u64 ((31 : Nat) : Int), .int .i64 ((4 : Nat) : Int), .int .i64 ((1 : Nat) : Int)], exF, rdV (Kd.sl Kd.u64) (γ 1 0) l1, rdV Kd.u64 (.slice none 0 0) ([] : List Nat), rdV K_api_Deviation (.slice none 0 0) ([] : List T_api_Deviation), rdV Kd.i64 (.slice none 0 0) ([] : List Int)] ++ F) [4, 5, 6, 7, 8, 9, 10] tryd_mix Tb_ok kr kr (fun _ => by kernel_rfl) (fun _ => by kernel_rfl) (fun _ => by kernel_rfl) (fun _ => by kernel_rfl) (fun _ => by kernel_rfl) (fun _ => by kernel_rfl) (fun _ => by kernel_rfl) ?_ ?_
  ·
   refine ⟨?_, ?_, ?_, ?_, trivial⟩
   ·
    intro γ F
    refine WI.reH (H' := [blkP (.pointer (some ⟨b1, 0, none⟩)) 24 [.int .u64 ((31 : Nat) : Int), .int .i64 ((4 : Nat) : Int), .int .i64 ((1 : Nat) : Int)]] ++ F) kr ?_
    refine w_ldB 0 0 rfl kr ti_24 rfl rfl ?_
    exact wE (gl []) [(0, false)] 0
   ·
    intro γ F
    refine WI.reH (H' := [] ++ F) kr ?_
    refine WI.ent (rdNil (kd := Kd.u64)) ?_
    refine w_mk (kd := (Kd.sl Kd.u64)) (kl := .i64) (kc := .i64) (.slice none 0 0) el1 kr ts_27 ti_30 rfl kr (itS 0 rfl) (fun v1 => ?_)
    refine WI.ent (frzAt 0 rfl) ?_
    exact wE (gl [v1]) [(0, true), (1, true)] 2
   ·
    intro γ F
    refine WI.reH (H' := [rdV (Kd.sl Kd.u64) (γ 1 0) l1] ++ F) kr ?_
    refine w_bd (v := .agg #[.int .u64 ((31 : Nat) : Int), .int .i64 ((4 : Nat) : Int), .int .i64 ((1 : Nat) : Int), (.slice none 0 0), (.slice none 0 0), (γ 1 0)]) (t := 29) (ps0 := [(0, .agg #[.int .u64 ((31 : Nat) : Int), .int .i64 ((4 : Nat) : Int), .int .i64 ((1 : Nat) : Int)]), (3, (γ 1 0))]) (ps := [(0, .agg #[.int .u64 ((31 : Nat) : Int), .int .i64 ((4 : Nat) : Int), .int .i64 ((1 : Nat) : Int)]), (3, .agg #[(γ 1 0)])]) (scI (scS (rd_hd 0 rfl) sc0)) kr (fun w => by kernel_rfl) ?_
    exact wE (gl []) [] 1
   ·
    intro γ F
    refine WI.reH (H' := [rdV (Kd.sl Kd.u64) (γ 1 0) l1, exF] ++ F) kr ?_
    refine WI.ent (rdNil (kd := Kd.i64)) ?_
    refine WI.ent (rdNil (kd := K_api_Deviation)) ?_
    refine w_fn [(1, true), (0, true), (2, true), (3, true)] (c_privitylaw47_nets er1) rfl fok_23 kr ?_
    rintro _ _ ⟨hv, rfl⟩; have hv := hv.symm; subst hv
    exact wE (gl []) [(0, true), (1, true)] 4
  ·
   intro γ1
   refine qh_then ?_
   refine wh_seq ?_
   refine wh_seq ?_
   refine wh_region ?_
   refine w_p Tb_ok 2 kr ?_
   refine wi_end kr ?_
   refine qh_then ?_
   refine h_ct (b := true) rfl kr ?_
   refine wh_seq ?_
   refine wh_region ?_
   refine w_p Tb_ok 1 kr ?_
   refine wi_end kr ?_
   refine qh_then ?_
   refine wh_ret ?_
   refine qh_then_ret ?_
   have h3 := Option.some.inj h3; subst h3
   exact q_end (l := [.bool false]) [] 6 ⟨rfl, rfl⟩ (.inl rfl) kr kr kr
 ·
  have h4 := sumR h2
  rcases r3 with r4 | r5
  ·
   have h5 := sumL h4
   refine h_flow [0, 0, 3, 7, 15, 31, 31, 31, 63, 383, 1023] ⟨2, [0, 2, 0, 8, 0, 0, 0, 0, 0, 0, 0], [], [(0, [(0, 0)])], [(2, [(2, 0)]), (3, [(2, 0), (0, 1)])]⟩ (fun γ => [.agg #[.int .u64 ((31 : Nat) : Int), .int .i64 ((4 : Nat) : Int), .int .i64 ((1 : Nat) : Int)], (γ 1 0), .agg #[.int .u64 ((31 : Nat) : Int), .int .i64 ((4 : Nat) : Int), .int .i64 ((1 : Nat) : Int), (.slice none 0 0), (.slice none 0 0), (γ 1 0)], .tuple #[(.pointer none), (γ 3 0), .bool false], .tuple #[(.pointer none), (γ 3 0), .bool false], (.pointer none), (γ 3 0), .bool false, (.pointer none), (γ 3 0), .bool false]) (fun i γ => match i with | 1 => [rdV (Kd.sl Kd.u64) (γ 1 0) l1, rdV Kd.u64 (.slice none 0 0) ([] : List Nat)] | 3 => [blkP (γ 3 0) 147 [.int .u64 r4.zw.S.P, .int .i64 r4.zw.S.N, .int .i64 r4.zw.S.T, (γ 3 1), (γ 3 2), (γ 3 3), .int .i64 r4.zround, (th (γ 3 4)), (γ 3 5)], rdV Kd.i64 (γ 3 1) r4.zw.Corrupt, rdV K_api_Deviation (γ 3 2) r4.zw.Deviations, rdV (Kd.sl Kd.u64) (γ 3 3) r4.zw.Tapes, treeV (rowK K_api_Event 67) 46 (th (γ 3 4)) (tg (γ 3 4)) r4.zviews, ownV Kd.any 148 (γ 3 5) r4.ztapes, rdV K_api_Deviation (.slice none 0 0) ([] : List T_api_Deviation), rdV Kd.i64 (.slice none 0 0) ([] : List Int)] | _ => []) (fun γ => [blkP (.pointer (some ⟨b1, 0, none⟩)) 24 [.int .u64 ((31 : Nat) : Int), .int .i64 ((4 : Nat) : Int), .int .i64 ((1 : Nat) : Int)], exF, rdV (Kd.sl Kd.u64) (γ 1 0) l1, rdV Kd.u64 (.slice none 0 0) ([] : List Nat), blkP (γ 3 0) 147 [.int .u64 r4.zw.S.P, .int .i64 r4.zw.S.N, .int .i64 r4.zw.S.T, (γ 3 1), (γ 3 2), (γ 3 3), .int .i64 r4.zround, (th (γ 3 4)), (γ 3 5)], rdV Kd.i64 (γ 3 1) r4.zw.Corrupt, rdV K_api_Deviation (γ 3 2) r4.zw.Deviations, rdV (Kd.sl Kd.u64) (γ 3 3) r4.zw.Tapes, treeV (rowK K_api_Event 67) 46 (th (γ 3 4)) (tg (γ 3 4)) r4.zviews, ownV Kd.any 148 (γ 3 5) r4.ztapes, rdV K_api_Deviation (.slice none 0 0) ([] : List T_api_Deviation), rdV Kd.i64 (.slice none 0 0) ([] : List Int)] ++ F) [4, 5, 6, 7, 8, 9, 10] tryd_mix Tb_ok kr kr (fun _ => by kernel_rfl) (fun _ => by kernel_rfl) (fun _ => by kernel_rfl) (fun _ => by kernel_rfl) (fun _ => by kernel_rfl) (fun _ => by kernel_rfl) (fun _ => by kernel_rfl) ?_ ?_
   ·
    refine ⟨?_, ?_, ?_, ?_, trivial⟩
    ·
     intro γ F
     refine WI.reH (H' := [blkP (.pointer (some ⟨b1, 0, none⟩)) 24 [.int .u64 ((31 : Nat) : Int), .int .i64 ((4 : Nat) : Int), .int .i64 ((1 : Nat) : Int)]] ++ F) kr ?_
     refine w_ldB 0 0 rfl kr ti_24 rfl rfl ?_
     exact wE (gl []) [(0, false)] 0
    ·
     intro γ F
     refine WI.reH (H' := [] ++ F) kr ?_
     refine WI.ent (rdNil (kd := Kd.u64)) ?_
     refine w_mk (kd := (Kd.sl Kd.u64)) (kl := .i64) (kc := .i64) (.slice none 0 0) el1 kr ts_27 ti_30 rfl kr (itS 0 rfl) (fun v1 => ?_)
     refine WI.ent (frzAt 0 rfl) ?_
     exact wE (gl [v1]) [(0, true), (1, true)] 2
    ·
     intro γ F
     refine WI.reH (H' := [rdV (Kd.sl Kd.u64) (γ 1 0) l1] ++ F) kr ?_
     refine w_bd (v := .agg #[.int .u64 ((31 : Nat) : Int), .int .i64 ((4 : Nat) : Int), .int .i64 ((1 : Nat) : Int), (.slice none 0 0), (.slice none 0 0), (γ 1 0)]) (t := 29) (ps0 := [(0, .agg #[.int .u64 ((31 : Nat) : Int), .int .i64 ((4 : Nat) : Int), .int .i64 ((1 : Nat) : Int)]), (3, (γ 1 0))]) (ps := [(0, .agg #[.int .u64 ((31 : Nat) : Int), .int .i64 ((4 : Nat) : Int), .int .i64 ((1 : Nat) : Int)]), (3, .agg #[(γ 1 0)])]) (scI (scS (rd_hd 0 rfl) sc0)) kr (fun w => by kernel_rfl) ?_
     exact wE (gl []) [] 1
    ·
     intro γ F
     refine WI.reH (H' := [rdV (Kd.sl Kd.u64) (γ 1 0) l1, exF] ++ F) kr ?_
     refine WI.ent (rdNil (kd := Kd.i64)) ?_
     refine WI.ent (rdNil (kd := K_api_Deviation)) ?_
     refine w_fn [(1, true), (0, true), (2, true), (3, true)] (c_privitylaw47_nets er1) rfl fok_23 kr ?_
     rintro _ _ ⟨w5, w5__0_1, w5__0_2, w5__0_3, w5__2, w5__3, hv, rfl⟩; have hv := hv.symm; subst hv
     exact wE (gl [w5, w5__0_1, w5__0_2, w5__0_3, w5__2, w5__3]) [(0, false), (0, true), (1, true), (2, true), (3, false), (3, false), (3, true), (4, true)] 7
   ·
    intro γ2
    refine qh_then ?_
    refine wh_seq ?_
    refine wh_seq ?_
    refine wh_region ?_
    refine w_p Tb_ok 2 kr ?_
    refine wi_end kr ?_
    refine qh_then ?_
    refine h_ct (b := true) rfl kr ?_
    refine wh_seq ?_
    refine wh_region ?_
    refine w_p Tb_ok 1 kr ?_
    refine wi_end kr ?_
    refine qh_then ?_
    refine wh_ret ?_
    refine qh_then_ret ?_
    have h5 := Option.some.inj h5; subst h5
    exact q_end (l := [.bool false]) [] 12 ⟨rfl, rfl⟩ (.inl rfl) kr kr kr
  ·
   have h6 := sumR h4
   rcases r5 with r6 | r7
   ·
    have h7 := sumL h6
    refine h_flow [0, 0, 3, 7, 15, 31, 31, 31, 63, 383, 1023] ⟨2, [0, 2, 0, 8, 0, 0, 0, 0, 0, 0, 0], [], [(0, [(0, 0)])], [(2, [(2, 0)]), (3, [(2, 0), (0, 1)])]⟩ (fun γ => [.agg #[.int .u64 ((31 : Nat) : Int), .int .i64 ((4 : Nat) : Int), .int .i64 ((1 : Nat) : Int)], (γ 1 0), .agg #[.int .u64 ((31 : Nat) : Int), .int .i64 ((4 : Nat) : Int), .int .i64 ((1 : Nat) : Int), (.slice none 0 0), (.slice none 0 0), (γ 1 0)], .tuple #[(γ 3 0), (.pointer none), .bool false], .tuple #[(γ 3 0), (.pointer none), .bool false], (γ 3 0), (.pointer none), .bool false, (γ 3 0), (.pointer none), .bool false]) (fun i γ => match i with | 1 => [rdV (Kd.sl Kd.u64) (γ 1 0) l1, rdV Kd.u64 (.slice none 0 0) ([] : List Nat)] | 3 => [blkP (γ 3 0) 119 [.int .u64 r6.zw.S.P, .int .i64 r6.zw.S.N, .int .i64 r6.zw.S.T, (γ 3 1), (γ 3 2), (γ 3 3), .int .i64 r6.zround, (th (γ 3 4)), (γ 3 5)], rdV Kd.i64 (γ 3 1) r6.zw.Corrupt, rdV K_api_Deviation (γ 3 2) r6.zw.Deviations, rdV (Kd.sl Kd.u64) (γ 3 3) r6.zw.Tapes, treeV (rowK K_api_Event 67) 46 (th (γ 3 4)) (tg (γ 3 4)) r6.zviews, ownV Kd.any 137 (γ 3 5) r6.ztapes, rdV K_api_Deviation (.slice none 0 0) ([] : List T_api_Deviation), rdV Kd.i64 (.slice none 0 0) ([] : List Int)] | _ => []) (fun γ => [blkP (.pointer (some ⟨b1, 0, none⟩)) 24 [.int .u64 ((31 : Nat) : Int), .int .i64 ((4 : Nat) : Int), .int .i64 ((1 : Nat) : Int)], exF, rdV (Kd.sl Kd.u64) (γ 1 0) l1, rdV Kd.u64 (.slice none 0 0) ([] : List Nat), blkP (γ 3 0) 119 [.int .u64 r6.zw.S.P, .int .i64 r6.zw.S.N, .int .i64 r6.zw.S.T, (γ 3 1), (γ 3 2), (γ 3 3), .int .i64 r6.zround, (th (γ 3 4)), (γ 3 5)], rdV Kd.i64 (γ 3 1) r6.zw.Corrupt, rdV K_api_Deviation (γ 3 2) r6.zw.Deviations, rdV (Kd.sl Kd.u64) (γ 3 3) r6.zw.Tapes, treeV (rowK K_api_Event 67) 46 (th (γ 3 4)) (tg (γ 3 4)) r6.zviews, ownV Kd.any 137 (γ 3 5) r6.ztapes, rdV K_api_Deviation (.slice none 0 0) ([] : List T_api_Deviation), rdV Kd.i64 (.slice none 0 0) ([] : List Int)] ++ F) [4, 5, 6, 7, 8, 9, 10] tryd_mix Tb_ok kr kr (fun _ => by kernel_rfl) (fun _ => by kernel_rfl) (fun _ => by kernel_rfl) (fun _ => by kernel_rfl) (fun _ => by kernel_rfl) (fun _ => by kernel_rfl) (fun _ => by kernel_rfl) ?_ ?_
    ·
     refine ⟨?_, ?_, ?_, ?_, trivial⟩
     ·
      intro γ F
      refine WI.reH (H' := [blkP (.pointer (some ⟨b1, 0, none⟩)) 24 [.int .u64 ((31 : Nat) : Int), .int .i64 ((4 : Nat) : Int), .int .i64 ((1 : Nat) : Int)]] ++ F) kr ?_
      refine w_ldB 0 0 rfl kr ti_24 rfl rfl ?_
      exact wE (gl []) [(0, false)] 0
     ·
      intro γ F
      refine WI.reH (H' := [] ++ F) kr ?_
      refine WI.ent (rdNil (kd := Kd.u64)) ?_
      refine w_mk (kd := (Kd.sl Kd.u64)) (kl := .i64) (kc := .i64) (.slice none 0 0) el1 kr ts_27 ti_30 rfl kr (itS 0 rfl) (fun v1 => ?_)
      refine WI.ent (frzAt 0 rfl) ?_
      exact wE (gl [v1]) [(0, true), (1, true)] 2
     ·
      intro γ F
      refine WI.reH (H' := [rdV (Kd.sl Kd.u64) (γ 1 0) l1] ++ F) kr ?_
      refine w_bd (v := .agg #[.int .u64 ((31 : Nat) : Int), .int .i64 ((4 : Nat) : Int), .int .i64 ((1 : Nat) : Int), (.slice none 0 0), (.slice none 0 0), (γ 1 0)]) (t := 29) (ps0 := [(0, .agg #[.int .u64 ((31 : Nat) : Int), .int .i64 ((4 : Nat) : Int), .int .i64 ((1 : Nat) : Int)]), (3, (γ 1 0))]) (ps := [(0, .agg #[.int .u64 ((31 : Nat) : Int), .int .i64 ((4 : Nat) : Int), .int .i64 ((1 : Nat) : Int)]), (3, .agg #[(γ 1 0)])]) (scI (scS (rd_hd 0 rfl) sc0)) kr (fun w => by kernel_rfl) ?_
      exact wE (gl []) [] 1
     ·
      intro γ F
      refine WI.reH (H' := [rdV (Kd.sl Kd.u64) (γ 1 0) l1, exF] ++ F) kr ?_
      refine WI.ent (rdNil (kd := Kd.i64)) ?_
      refine WI.ent (rdNil (kd := K_api_Deviation)) ?_
      refine w_fn [(1, true), (0, true), (2, true), (3, true)] (c_privitylaw47_nets er1) rfl fok_23 kr ?_
      rintro _ _ ⟨w7, w7__0_1, w7__0_2, w7__0_3, w7__2, w7__3, hv, rfl⟩; have hv := hv.symm; subst hv
      exact wE (gl [w7, w7__0_1, w7__0_2, w7__0_3, w7__2, w7__3]) [(0, false), (0, true), (1, true), (2, true), (3, false), (3, false), (3, true), (4, true)] 7
    ·
     intro γ3
     refine q_opS 2 4 kr rfl (fun b2 => ?_)
     refine qh_then ?_
     refine wh_seq ?_
     refine wh_seq ?_
     refine wh_region ?_
     refine w_p Tb_ok 2 kr ?_
     refine wi_end kr ?_
     refine qh_then ?_
     refine h_ct (b := true) rfl kr ?_
     refine wh_seq ?_
     refine wh_region ?_
     refine w_p Tb_ok 1 kr ?_
     refine wi_end kr ?_
     refine qh_then ?_
     refine wh_ret ?_
     refine qh_then_ret ?_
     have h7 := Option.some.inj h7; subst h7
     exact q_end (l := [.bool false]) [] 12 ⟨rfl, rfl⟩ (.inl rfl) kr kr kr
   ·
    have h8 := sumR h6
    refine h_flow [0, 0, 3, 7, 15, 31, 31, 31, 63, 383, 1023] ⟨2, [0, 2, 0, 14, 0, 0, 0, 0, 0, 0, 0], [], [(0, [(0, 0)])], [(2, [(2, 0)]), (3, [(2, 0), (0, 1)])]⟩ (fun γ => [.agg #[.int .u64 ((31 : Nat) : Int), .int .i64 ((4 : Nat) : Int), .int .i64 ((1 : Nat) : Int)], (γ 1 0), .agg #[.int .u64 ((31 : Nat) : Int), .int .i64 ((4 : Nat) : Int), .int .i64 ((1 : Nat) : Int), (.slice none 0 0), (.slice none 0 0), (γ 1 0)], .tuple #[(γ 3 0), (γ 3 6), .bool true], .tuple #[(γ 3 0), (γ 3 6), .bool true], (γ 3 0), (γ 3 6), .bool true, (γ 3 0), (γ 3 6), .bool true]) (fun i γ => match i with | 1 => [rdV (Kd.sl Kd.u64) (γ 1 0) l1, rdV Kd.u64 (.slice none 0 0) ([] : List Nat)] | 3 => [blkP (γ 3 0) 119 [.int .u64 r7.1.zw.S.P, .int .i64 r7.1.zw.S.N, .int .i64 r7.1.zw.S.T, (γ 3 1), (γ 3 2), (γ 3 3), .int .i64 r7.1.zround, (th (γ 3 4)), (γ 3 5)], rdV Kd.i64 (γ 3 1) r7.1.zw.Corrupt, rdV K_api_Deviation (γ 3 2) r7.1.zw.Deviations, rdV (Kd.sl Kd.u64) (γ 3 3) r7.1.zw.Tapes, treeV (rowK K_api_Event 67) 46 (th (γ 3 4)) (tg (γ 3 4)) r7.1.zviews, ownV Kd.any 137 (γ 3 5) r7.1.ztapes, blkP (γ 3 6) 147 [.int .u64 r7.2.zw.S.P, .int .i64 r7.2.zw.S.N, .int .i64 r7.2.zw.S.T, (γ 3 7), (γ 3 8), (γ 3 9), .int .i64 r7.2.zround, (th (γ 3 10)), (γ 3 11)], rdV Kd.i64 (γ 3 7) r7.2.zw.Corrupt, rdV K_api_Deviation (γ 3 8) r7.2.zw.Deviations, rdV (Kd.sl Kd.u64) (γ 3 9) r7.2.zw.Tapes, treeV (rowK K_api_Event 67) 46 (th (γ 3 10)) (tg (γ 3 10)) r7.2.zviews, ownV Kd.any 148 (γ 3 11) r7.2.ztapes, rdV K_api_Deviation (.slice none 0 0) ([] : List T_api_Deviation), rdV Kd.i64 (.slice none 0 0) ([] : List Int)] | _ => []) (fun γ => [blkP (.pointer (some ⟨b1, 0, none⟩)) 24 [.int .u64 ((31 : Nat) : Int), .int .i64 ((4 : Nat) : Int), .int .i64 ((1 : Nat) : Int)], exF, rdV (Kd.sl Kd.u64) (γ 1 0) l1, rdV Kd.u64 (.slice none 0 0) ([] : List Nat), blkP (γ 3 0) 119 [.int .u64 r7.1.zw.S.P, .int .i64 r7.1.zw.S.N, .int .i64 r7.1.zw.S.T, (γ 3 1), (γ 3 2), (γ 3 3), .int .i64 r7.1.zround, (th (γ 3 4)), (γ 3 5)], rdV Kd.i64 (γ 3 1) r7.1.zw.Corrupt, rdV K_api_Deviation (γ 3 2) r7.1.zw.Deviations, rdV (Kd.sl Kd.u64) (γ 3 3) r7.1.zw.Tapes, treeV (rowK K_api_Event 67) 46 (th (γ 3 4)) (tg (γ 3 4)) r7.1.zviews, ownV Kd.any 137 (γ 3 5) r7.1.ztapes, blkP (γ 3 6) 147 [.int .u64 r7.2.zw.S.P, .int .i64 r7.2.zw.S.N, .int .i64 r7.2.zw.S.T, (γ 3 7), (γ 3 8), (γ 3 9), .int .i64 r7.2.zround, (th (γ 3 10)), (γ 3 11)], rdV Kd.i64 (γ 3 7) r7.2.zw.Corrupt, rdV K_api_Deviation (γ 3 8) r7.2.zw.Deviations, rdV (Kd.sl Kd.u64) (γ 3 9) r7.2.zw.Tapes, treeV (rowK K_api_Event 67) 46 (th (γ 3 10)) (tg (γ 3 10)) r7.2.zviews, ownV Kd.any 148 (γ 3 11) r7.2.ztapes, rdV K_api_Deviation (.slice none 0 0) ([] : List T_api_Deviation), rdV Kd.i64 (.slice none 0 0) ([] : List Int)] ++ F) [4, 5, 6, 7, 8, 9, 10] tryd_mix Tb_ok kr kr (fun _ => by kernel_rfl) (fun _ => by kernel_rfl) (fun _ => by kernel_rfl) (fun _ => by kernel_rfl) (fun _ => by kernel_rfl) (fun _ => by kernel_rfl) (fun _ => by kernel_rfl) ?_ ?_
    ·
     refine ⟨?_, ?_, ?_, ?_, trivial⟩
     ·
      intro γ F
      refine WI.reH (H' := [blkP (.pointer (some ⟨b1, 0, none⟩)) 24 [.int .u64 ((31 : Nat) : Int), .int .i64 ((4 : Nat) : Int), .int .i64 ((1 : Nat) : Int)]] ++ F) kr ?_
      refine w_ldB 0 0 rfl kr ti_24 rfl rfl ?_
      exact wE (gl []) [(0, false)] 0
     ·
      intro γ F
      refine WI.reH (H' := [] ++ F) kr ?_
      refine WI.ent (rdNil (kd := Kd.u64)) ?_
      refine w_mk (kd := (Kd.sl Kd.u64)) (kl := .i64) (kc := .i64) (.slice none 0 0) el1 kr ts_27 ti_30 rfl kr (itS 0 rfl) (fun v1 => ?_)
      refine WI.ent (frzAt 0 rfl) ?_
      exact wE (gl [v1]) [(0, true), (1, true)] 2
     ·
      intro γ F
      refine WI.reH (H' := [rdV (Kd.sl Kd.u64) (γ 1 0) l1] ++ F) kr ?_
      refine w_bd (v := .agg #[.int .u64 ((31 : Nat) : Int), .int .i64 ((4 : Nat) : Int), .int .i64 ((1 : Nat) : Int), (.slice none 0 0), (.slice none 0 0), (γ 1 0)]) (t := 29) (ps0 := [(0, .agg #[.int .u64 ((31 : Nat) : Int), .int .i64 ((4 : Nat) : Int), .int .i64 ((1 : Nat) : Int)]), (3, (γ 1 0))]) (ps := [(0, .agg #[.int .u64 ((31 : Nat) : Int), .int .i64 ((4 : Nat) : Int), .int .i64 ((1 : Nat) : Int)]), (3, .agg #[(γ 1 0)])]) (scI (scS (rd_hd 0 rfl) sc0)) kr (fun w => by kernel_rfl) ?_
      exact wE (gl []) [] 1
     ·
      intro γ F
      refine WI.reH (H' := [rdV (Kd.sl Kd.u64) (γ 1 0) l1, exF] ++ F) kr ?_
      refine WI.ent (rdNil (kd := Kd.i64)) ?_
      refine WI.ent (rdNil (kd := K_api_Deviation)) ?_
      refine w_fn [(1, true), (0, true), (2, true), (3, true)] (c_privitylaw47_nets er1) rfl fok_23 kr ?_
      rintro _ _ ⟨w10, w10__0_1, w10__0_2, w10__0_3, w10__2, w10__3, w11, w11__0_1, w11__0_2, w11__0_3, w11__2, w11__3, hv, rfl⟩; have hv := hv.symm; subst hv
      exact wE (gl [w10, w10__0_1, w10__0_2, w10__0_3, w10__2, w10__3, w11, w11__0_1, w11__0_2, w11__0_3, w11__2, w11__3]) [(0, false), (0, true), (1, true), (2, true), (3, false), (3, false), (3, false), (3, true), (4, true), (5, true), (6, false), (6, false), (6, true), (7, true)] 10
    ·
     intro γ4
     refine q_opS 2 4 kr rfl (fun b3 => ?_)
     refine qh_then ?_
     refine wh_seq ?_
     refine wh_seq ?_
     refine wh_region ?_
     refine w_p Tb_ok 2 kr ?_
     refine wi_end kr ?_
     refine qh_then ?_
     refine h_cf (b := false) rfl kr ?_
     refine wh_skip ?_
     refine qh_then ?_
     refine wh_seq ?_
     refine wh_region ?_
     refine w_ldB 1 0 rfl kr ti_24 rfl rfl ?_
     refine w_lt (kd := Kd.u64) (t := 30) (len := 2) (ps0 := [(0, .int .u64 ((3 : Nat) : Int)), (1, .int .u64 ((4 : Nat) : Int))]) (ps := [(0, .int .u64 ((3 : Nat) : Int)), (1, .int .u64 ((4 : Nat) : Int))]) ([3, 4] : List Nat) _ (rowC (x := 3) (g := ()) (it0 rfl) (rowC (x := 4) (g := ()) (it0 rfl) row0)) (scI (scI sc0)) kr ts_30 ti_22 kr rfl rfl (fun v2 => ?_)
     refine WI.ent (frzAt 0 rfl) ?_
     obtain ⟨r8, er8, h9⟩ := bnd h8
     refine w_fn [(0, true)] (c_privityref23_NewSharing er8) rfl fok_30 kr ?_
     rintro _ _ ⟨w13, hv, rfl⟩; have hv := hv.symm; subst hv
     refine w_p Tb_ok 1 kr ?_
     refine wi_end kr ?_
     refine qh_then ?_
     refine wh_seq ?_
     refine wh_region ?_
     refine w_p Tb_ok 2 kr ?_
     refine WI.ent (frzAt 0 rfl) ?_
     refine w_lt (kd := (Kd.sl (Kd.sl Kd.u64))) (t := 40) (len := 1) (ps0 := [(0, w13)]) (ps := [(0, .agg #[w13])]) ([r8] : List (List (List Nat))) _ (rowC (x := r8) (g := w13) (itS 0 rfl) row0) (scS (rd_hd 0 rfl) sc0) kr ts_40 ti_44 kr rfl rfl (fun v3 => ?_)
     refine WI.ent (frzAt 12 rfl) ?_
     refine WI.ent (frzAt 1 rfl) ?_
     obtain ⟨r9, er9, h10⟩ := bnd h9
     refine w_fn [(4, false), (8, true), (9, true), (10, true), (11, false), (1, true), (0, true)] (c_recovery_RecoverRows er9) rfl fok_25 kr ?_
     rintro _ _ ⟨w14, w16, hv, rfl⟩; have hv := hv.symm; subst hv
     refine w_p Tb_ok 1 kr ?_
     refine wi_end kr ?_
     refine qh_then ?_
     refine wh_seq ?_
     refine wh_region ?_
     refine w_p Tb_ok 1 kr ?_
     refine w_len (own_hd 0 rfl) kr ts_27 ?_
     refine w_p Tb_ok 2 kr ?_
     rcases bcase h10 with ⟨t1, h11⟩ | ⟨t1, h11⟩
     ·
      refine w_kb (t := 28) t1 kr ?_
      refine w_p Tb_ok 1 kr ?_
      obtain ⟨x1, ex1, h12⟩ := bnd h11
      refine w_ix (k := .i64) (own_hd 0 rfl) (nbd ex1) rfl kr ts_27 ti_30 ?_
      refine w_ldO 0 0 rfl ex1 kr ti_30 rfl rfl ?_
      rintro v4
      refine w_lt (kd := Kd.u64) (t := 30) (len := 2) (ps0 := [(0, .int .u64 ((11 : Nat) : Int)), (1, .int .u64 ((15 : Nat) : Int))]) (ps := [(0, .int .u64 ((11 : Nat) : Int)), (1, .int .u64 ((15 : Nat) : Int))]) ([11, 15] : List Nat) _ (rowC (x := 11) (g := ()) (it0 rfl) (rowC (x := 15) (g := ()) (it0 rfl) row0)) (scI (scI sc0)) kr ts_30 ti_22 kr rfl rfl (fun v5 => ?_)
      refine WI.ent (frzAt 0 rfl) ?_
      obtain ⟨r10, er10, h13⟩ := bnd h12
      refine w_fn [(1, true), (0, true)] (c_privityref14_Words er10) rfl fok_27 kr ?_
      rintro _ _ ⟨hv, rfl⟩; have hv := hv.symm; subst hv
      refine w_p Tb_ok 2 kr ?_
      rcases bcase h13 with ⟨t2, h14⟩ | ⟨t2, h14⟩
      ·
       refine w_kb (t := 35) t2 kr ?_
       refine w_p Tb_ok 1 kr ?_
       obtain ⟨r11, er11, h15⟩ := bnd h14
       refine w_fn [(3, false), (12, true), (13, true), (14, true), (3, false), (4, true)] (c_network_Net_Rounds er11) rfl fok_29 kr ?_
       rintro _ _ ⟨hv, rfl⟩; have hv := hv.symm; subst hv
       refine w_p Tb_ok 3 kr ?_
       rcases bcase h15 with ⟨t3, h16⟩ | ⟨t3, h16⟩
       ·
        refine w_kb (t := 40) t3 kr ?_
        refine w_p Tb_ok 1 kr ?_
        obtain ⟨r12, er12, h17⟩ := bnd h16
        refine w_fn [(0, false), (12, true), (13, true), (14, true), (0, false), (4, true)] (c_network_Net_View er12) rfl fok_28 kr ?_
        rintro _ _ ⟨w19, hv, rfl⟩; have hv := hv.symm; subst hv
        refine w_len (own_hd 0 rfl) kr ts_46 ?_
        refine w_p Tb_ok 3 kr ?_
        rcases bcase h17 with ⟨t4, h18⟩ | ⟨t4, h18⟩
        ·
         refine w_kb (t := 46) t4 kr ?_
         refine w_p Tb_ok 1 kr ?_
         obtain ⟨r13, er13, h19⟩ := bnd h18
         refine w_fn [(1, false), (13, true), (14, true), (15, true), (1, false), (5, true)] (c_network_Net_View er13) rfl fok_28 kr ?_
         rintro _ _ ⟨w20, hv, rfl⟩; have hv := hv.symm; subst hv
         refine w_len (own_hd 0 rfl) kr ts_46 ?_
         refine w_p Tb_ok 3 kr ?_
         refine wi_end kr ?_
         refine qh_then ?_
         refine wh_ret ?_
         have h19 := Option.some.inj h19; subst h19
         exact q_end (l := [.bool (((r13.length : Nat) : Int) == (0 : Int))]) [] 26 ⟨rfl, rfl⟩ (.inl rfl) kr kr kr
        ·
         refine w_kb (t := 46) t4 kr ?_
         refine w_p Tb_ok 6 kr ?_
         refine wi_end kr ?_
         refine qh_then ?_
         refine wh_ret ?_
         have h18 := Option.some.inj h18; subst h18
         exact q_end (l := [.bool false]) [] 25 ⟨rfl, rfl⟩ (.inl rfl) kr kr kr
       ·
        refine w_kb (t := 40) t3 kr ?_
        refine w_p Tb_ok 12 kr ?_
        refine wi_end kr ?_
        refine qh_then ?_
        refine wh_ret ?_
        have h16 := Option.some.inj h16; subst h16
        exact q_end (l := [.bool false]) [] 24 ⟨rfl, rfl⟩ (.inl rfl) kr kr kr
      ·
       refine w_kb (t := 35) t2 kr ?_
       refine w_p Tb_ok 17 kr ?_
       refine wi_end kr ?_
       refine qh_then ?_
       refine wh_ret ?_
       have h14 := Option.some.inj h14; subst h14
       exact q_end (l := [.bool false]) [] 24 ⟨rfl, rfl⟩ (.inl rfl) kr kr kr
     ·
      refine w_kb (t := 28) t1 kr ?_
      refine w_p Tb_ok 24 kr ?_
      refine wi_end kr ?_
      refine qh_then ?_
      refine wh_ret ?_
      have h11 := Option.some.inj h11; subst h11
      exact q_end (l := [.bool false]) [] 22 ⟨rfl, rfl⟩ (.inl rfl) kr kr kr
theorem c_privitylaw47_who {p_z : T_privitylaw47_Ask} {vp_z_1 : Value} {vp_z_2 : Value} {vp_z_3 : Value} {vp_z_4 : Value} {vp_z_5 : Value} {r : Int} (h : privitylaw47_who p_z = some r) : Ct Tryd.prog 26 [.agg #[.int .u64 p_z.W.S.P, .int .i64 p_z.W.S.N, .int .i64 p_z.W.S.T, vp_z_1, vp_z_2, vp_z_3, .int .u8 p_z.Who, vp_z_4, vp_z_5]] [rdV Kd.i64 vp_z_1 p_z.W.Corrupt, rdV K_api_Deviation vp_z_2 p_z.W.Deviations, rdV (Kd.sl Kd.u64) vp_z_3 p_z.W.Tapes, rdV (Kd.sl Kd.u64) vp_z_4 p_z.L, rdV Kd.u64 vp_z_5 p_z.Spoil] (fun v L => v = .int .i64 r ∧ L = []) := by
 refine ct_intro Tryd.func26 rfl kr (fun F => ?_)
 unfold privitylaw47_who at h
 refine wh_seq ?_
 refine wh_region ?_
 refine w_box (t := 32) (v := .agg #[.int .u64 p_z.W.S.P, .int .i64 p_z.W.S.N, .int .i64 p_z.W.S.T, vp_z_1, vp_z_2, vp_z_3, .int .u8 p_z.Who, vp_z_4, vp_z_5]) (cs := [.int .u64 p_z.W.S.P, .int .i64 p_z.W.S.N, .int .i64 p_z.W.S.T, vp_z_1, vp_z_2, vp_z_3, .int .u8 p_z.Who, vp_z_4, vp_z_5]) (cv0 kr) kr (fun q1 => ?_)
 refine WI.hd (y := blkP q1 32 [.int .u64 p_z.W.S.P, .int .i64 p_z.W.S.N, .int .i64 p_z.W.S.T, vp_z_1, vp_z_2, vp_z_3, .int .u8 p_z.Who, vp_z_4, vp_z_5]) kr ?_
 refine w_opP 0 rfl (fun b1 hb => ?_)
 subst hb
 refine w_p Tb_ok 1 kr ?_
 refine wi_end kr ?_
 refine qh_then ?_
 refine wh_seq ?_
 refine wh_region ?_
 refine w_p Tb_ok 1 kr ?_
 refine w_ldB 0 6 rfl kr ti_5 rfl rfl ?_
 obtain ⟨x1, ex1, h1⟩ := bnd h
 refine w_cv Tb_ok (ecI ex1) kr ?_
 refine w_p Tb_ok 3 kr ?_
 refine w_ldB 0 1 rfl kr ti_3 rfl rfl ?_
 obtain ⟨x2, ex2, h2⟩ := bnd h1
 refine w_bi (zremI ex2) kr ?_
 obtain ⟨x3, ex3, h3⟩ := bnd h2
 refine w_bi (zaddI ex3) kr ?_
 refine w_p Tb_ok 1 kr ?_
 refine wi_end kr ?_
 refine qh_then ?_
 refine wh_ret ?_
 have h3 := Option.some.inj h3; subst h3
 exact q_end (l := [.int .i64 x3]) [] 6 ⟨rfl, rfl⟩ (.inl rfl) kr kr kr
theorem c_privitylaw47_numbers {p_z : T_privitylaw47_Ask} {vp_z_1 : Value} {vp_z_2 : Value} {vp_z_3 : Value} {vp_z_4 : Value} {vp_z_5 : Value} {r : (List (List (List Nat)))} (h : privitylaw47_numbers p_z = some r) : Ct Tryd.prog 24 [.agg #[.int .u64 p_z.W.S.P, .int .i64 p_z.W.S.N, .int .i64 p_z.W.S.T, vp_z_1, vp_z_2, vp_z_3, .int .u8 p_z.Who, vp_z_4, vp_z_5]] [rdV Kd.i64 vp_z_1 p_z.W.Corrupt, rdV K_api_Deviation vp_z_2 p_z.W.Deviations, rdV (Kd.sl Kd.u64) vp_z_3 p_z.W.Tapes, rdV (Kd.sl Kd.u64) vp_z_4 p_z.L, rdV Kd.u64 vp_z_5 p_z.Spoil] (fun v L => ∃ w0 : Value, v = w0 ∧ L = [ownV (Kd.sl (Kd.sl Kd.u64)) 44 w0 r]) := by
 refine ct_intro Tryd.func24 rfl kr (fun F => ?_)
 unfold privitylaw47_numbers at h
 refine wh_seq ?_
 refine wh_region ?_
 refine w_box (t := 32) (v := .agg #[.int .u64 p_z.W.S.P, .int .i64 p_z.W.S.N, .int .i64 p_z.W.S.T, vp_z_1, vp_z_2, vp_z_3, .int .u8 p_z.Who, vp_z_4, vp_z_5]) (cs := [.int .u64 p_z.W.S.P, .int .i64 p_z.W.S.N, .int .i64 p_z.W.S.T, vp_z_1, vp_z_2, vp_z_3, .int .u8 p_z.Who, vp_z_4, vp_z_5]) (cv0 kr) kr (fun q1 => ?_)
 refine WI.hd (y := blkP q1 32 [.int .u64 p_z.W.S.P, .int .i64 p_z.W.S.N, .int .i64 p_z.W.S.T, vp_z_1, vp_z_2, vp_z_3, .int .u8 p_z.Who, vp_z_4, vp_z_5]) kr ?_
 refine w_opP 0 rfl (fun b1 hb => ?_)
 subst hb
 refine w_p Tb_ok 1 kr ?_
 refine wi_end kr ?_
 refine qh_then ?_
 refine wh_seq ?_
 refine wh_region ?_
 refine w_p Tb_ok 2 kr ?_
 refine w_ldB 0 0 rfl kr ti_24 rfl rfl ?_
 refine w_al kr ti_24 (fun q2 => ?_)
 refine WI.hd (y := blkP q2 24 [.int .u64 ((0 : Nat) : Int), .int .i64 ((0 : Nat) : Int), .int .i64 ((0 : Nat) : Int)]) kr ?_
 refine w_opP 0 rfl (fun b2 hb => ?_)
 subst hb
 refine w_stB (v := .agg #[.int .u64 p_z.W.S.P, .int .i64 p_z.W.S.N, .int .i64 p_z.W.S.T]) (off := 0) (cs := [.int .u64 p_z.W.S.P, .int .i64 p_z.W.S.N, .int .i64 p_z.W.S.T]) 0 rfl (cv0 kr) kr ti_24 rfl rfl (oC (fun _ _ => rfl) (oC (fun _ _ => rfl) (oC (fun _ _ => rfl) oN))) ?_
 refine WI.hd (y := blkP (.pointer (some ⟨b2, 0, none⟩)) 24 [.int .u64 p_z.W.S.P, .int .i64 p_z.W.S.N, .int .i64 p_z.W.S.T]) kr ?_
 refine wi_end kr ?_
 refine qh_then ?_
 refine wh_seq ?_
 refine wh_region ?_
 refine w_p Tb_ok 1 kr ?_
 refine wi_end kr ?_
 refine qh_then ?_
 refine wh_seq ?_
 refine wh_seq ?_
 refine wh_region ?_
 refine w_p Tb_ok 1 kr ?_
 refine wi_end kr ?_
 refine qh_then ?_
 refine WH.ent (ownNil (kd := (Kd.sl (Kd.sl Kd.u64))) (e := 44)) ?_
 refine h_lenle (rd_lenle 6 rfl) (fun hN1 => ?_)
 obtain ⟨l2, el1, h1⟩ := bnd h
 refine h_join (X := Value) (fun g => [(4, g)]) (fun g => [ownV (Kd.sl (Kd.sl Kd.u64)) 44 g l2] ++ F) (fun _ => True) ?_ ?_
 ·
  refine wh_block ?_
  refine h_rs (fun (k1 : Nat) (st : (List (List (List Nat)))) (g : Value) => [(1, (.pointer (some ⟨b1, 0, none⟩))), (3, (.pointer (some ⟨b2, 0, none⟩))), (4, g), (5, .int .i64 ((k1 : Nat) : Int))]) (fun (k1 : Nat) (st : (List (List (List Nat)))) (g : Value) => [blkP (.pointer (some ⟨b1, 0, none⟩)) 32 [.int .u64 p_z.W.S.P, .int .i64 p_z.W.S.N, .int .i64 p_z.W.S.T, vp_z_1, vp_z_2, vp_z_3, .int .u8 p_z.Who, vp_z_4, vp_z_5], rdV Kd.i64 vp_z_1 p_z.W.Corrupt, rdV K_api_Deviation vp_z_2 p_z.W.Deviations, rdV (Kd.sl Kd.u64) vp_z_3 p_z.W.Tapes, rdV (Kd.sl Kd.u64) vp_z_4 p_z.L, rdV Kd.u64 vp_z_5 p_z.Spoil, blkP (.pointer (some ⟨b2, 0, none⟩)) 24 [.int .u64 p_z.W.S.P, .int .i64 p_z.W.S.N, .int .i64 p_z.W.S.T], ownV (Kd.sl (Kd.sl Kd.u64)) 44 g st] ++ F) (.slice none 0 0) el1 (Nat.zero_le _) aK (tH [(2, false), (2, true), (3, true), (4, true), (5, true), (6, true), (1, false), (0, false)] 5) ?_ ?_
  ·
   rintro g3 j
   refine wh_seq ?_
   refine wh_seq ?_
   refine wh_region ?_
   refine w_p Tb_ok 2 kr ?_
   refine w_ldB 0 7 rfl kr ti_27 rfl rfl ?_
   refine w_len (rd_hd 4 rfl) kr ts_27 ?_
   refine w_p Tb_ok 1 kr ?_
   refine wi_end kr ?_
   refine qh_then ?_
   refine h_cf (b := (decide ((((p_z.L.length) : Nat) : Int) < ((p_z.L.length : Nat) : Int)))) rgF kr ?_
   refine wh_exit ?_
   refine qh_then_exit ?_
   refine q_rzX ?_
   refine qh_block_exit ?_
   exact q_join g3 trivial aK (tH [(7, false)] 7)
  ·
   rintro rem k1 l1 g1 o1 hk1 h2 hn1 j
   have h2 : privitylaw47_numbers_L0 p_z k1 l1 = some o1 := h2
   unfold privitylaw47_numbers_L0 at h2
   refine wh_seq ?_
   refine wh_seq ?_
   refine wh_region ?_
   refine w_p Tb_ok 2 kr ?_
   refine w_ldB 0 7 rfl kr ti_27 rfl rfl ?_
   refine w_len (rd_hd 4 rfl) kr ts_27 ?_
   refine w_p Tb_ok 1 kr ?_
   refine wi_end kr ?_
   refine qh_then ?_
   refine h_ct (b := (decide (((k1 : Nat) : Int) < ((p_z.L.length : Nat) : Int)))) (rgT hk1) kr ?_
   refine wh_skip ?_
   refine qh_then ?_
   refine wh_seq ?_
   refine wh_block ?_
   refine wh_seq ?_
   refine wh_region ?_
   refine w_p Tb_ok 1 kr ?_
   refine wi_end kr ?_
   refine qh_then ?_
   refine wh_seq ?_
   refine wh_region ?_
   refine w_p Tb_ok 1 kr ?_
   refine wi_end kr ?_
   refine qh_then ?_
   refine wh_seq ?_
   refine wh_seq ?_
   refine wh_region ?_
   refine w_p Tb_ok 1 kr ?_
   refine w_ldB 0 7 rfl kr ti_27 rfl rfl ?_
   refine w_p Tb_ok 1 kr ?_
   obtain ⟨x2, ex2, h3⟩ := bnd h2
   refine w_ix (k := .i64) (rd_hd 4 rfl) (nbd ex2) rfl kr ts_27 ti_30 ?_
   refine w_ldR 4 0 rfl ex2 kr ti_30 rfl rfl ?_
   rintro v1
   refine w_len (rd_hd 0 rfl) kr ts_30 ?_
   refine w_p Tb_ok 1 kr ?_
   refine wi_end kr ?_
   refine qh_then ?_
   obtain ⟨⟨x3, l3⟩, ej1, h4⟩ := bnd h3
   refine h_join (X := Value) (fun g => [(1, (.pointer (some ⟨b1, 0, none⟩))), (3, (.pointer (some ⟨b2, 0, none⟩))), (4, g1), (5, .int .i64 ((k1 : Nat) : Int)), (6, .int .u64 x3), (7, g)]) (fun g => [blkP (.pointer (some ⟨b1, 0, none⟩)) 32 [.int .u64 p_z.W.S.P, .int .i64 p_z.W.S.N, .int .i64 p_z.W.S.T, vp_z_1, vp_z_2, vp_z_3, .int .u8 p_z.Who, vp_z_4, vp_z_5], rdV Kd.i64 vp_z_1 p_z.W.Corrupt, rdV K_api_Deviation vp_z_2 p_z.W.Deviations, rdV (Kd.sl Kd.u64) vp_z_3 p_z.W.Tapes, rdV (Kd.sl Kd.u64) vp_z_4 p_z.L, rdV Kd.u64 vp_z_5 p_z.Spoil, blkP (.pointer (some ⟨b2, 0, none⟩)) 24 [.int .u64 p_z.W.S.P, .int .i64 p_z.W.S.N, .int .i64 p_z.W.S.T], ownV (Kd.sl (Kd.sl Kd.u64)) 44 g1 l1, rdV Kd.u64 g l3] ++ F) (fun _ => True) ?_ ?_
   ·
    rcases bcase ej1 with ⟨t1, h5⟩ | ⟨t1, h5⟩
    ·
     refine h_ct (b := (decide (((x2.length : Nat) : Int) > (0 : Int)))) t1 kr ?_
     obtain ⟨x4, ex4, h6⟩ := bnd h5
     obtain ⟨l4, el4, h7⟩ := bnd h6
     refine h_flow [0, 1, 0, 7, 15, 31, 63, 0, 128, 0, 896, 1920, 3968, 127, 16383] ⟨9, [0, 0, 0, 0, 1, 0, 0, 0, 0, 0, 0, 1, 1, 0, 0], [], [(1, [(0, 1)]), (8, [(0, 1)])], [(3, [(0, 5)]), (4, [(0, 5)]), (5, [(5, 0)]), (6, [(5, 0)]), (10, [(0, 5)]), (11, [(0, 5)]), (12, [(12, 0)])]⟩ (fun γ => [.pointer (some ⟨b1, 7, none⟩), vp_z_4, .int .i64 ((k1 : Nat) : Int), .pointer (some (elV vp_z_4 (k1 * (Kd.sl Kd.u64).size))), (γ 4 0), .pointer (some (elV (γ 4 0) (0 * Kd.u64.size))), .int .u64 x4, .pointer (some ⟨b1, 7, none⟩), vp_z_4, .int .i64 ((k1 : Nat) : Int), .pointer (some (elV vp_z_4 (k1 * (Kd.sl Kd.u64).size))), (γ 11 0), (γ 12 0), .int .u64 x4, (γ 12 0)]) (fun i γ => match i with | 4 => [rdV Kd.u64 (γ 4 0) x2] | 11 => [rdV Kd.u64 (γ 11 0) x2] | 12 => [rdV Kd.u64 (γ 12 0) l4] | _ => []) (fun γ => [rdV Kd.u64 v1 x2, blkP (.pointer (some ⟨b1, 0, none⟩)) 32 [.int .u64 p_z.W.S.P, .int .i64 p_z.W.S.N, .int .i64 p_z.W.S.T, vp_z_1, vp_z_2, vp_z_3, .int .u8 p_z.Who, vp_z_4, vp_z_5], rdV Kd.i64 vp_z_1 p_z.W.Corrupt, rdV K_api_Deviation vp_z_2 p_z.W.Deviations, rdV (Kd.sl Kd.u64) vp_z_3 p_z.W.Tapes, rdV (Kd.sl Kd.u64) vp_z_4 p_z.L, rdV Kd.u64 vp_z_5 p_z.Spoil, blkP (.pointer (some ⟨b2, 0, none⟩)) 24 [.int .u64 p_z.W.S.P, .int .i64 p_z.W.S.N, .int .i64 p_z.W.S.T], ownV (Kd.sl (Kd.sl Kd.u64)) 44 g1 l1, rdV Kd.u64 (γ 4 0) x2, rdV Kd.u64 (γ 11 0) x2, rdV Kd.u64 (γ 12 0) l4] ++ F) [0, 2, 7, 9, 13, 14] tryd_mix Tb_ok kr kr (fun _ => by kernel_rfl) (fun _ => by kernel_rfl) (fun _ => by kernel_rfl) (fun _ => by kernel_rfl) (fun _ => by kernel_rfl) (fun _ => by kernel_rfl) (fun _ => by kernel_rfl) ?_ ?_
     ·
      refine ⟨?_, ?_, ?_, ?_, ?_, ?_, ?_, ?_, ?_, trivial⟩
      ·
       intro γ F
       refine WI.reH (H' := [blkP (.pointer (some ⟨b1, 0, none⟩)) 32 [.int .u64 p_z.W.S.P, .int .i64 p_z.W.S.N, .int .i64 p_z.W.S.T, vp_z_1, vp_z_2, vp_z_3, .int .u8 p_z.Who, vp_z_4, vp_z_5]] ++ F) kr ?_
       refine w_ldB 0 7 rfl kr ti_27 rfl rfl ?_
       exact wE (gl []) [(0, false)] 0
      ·
       intro γ F
       refine WI.reH (H' := [rdV (Kd.sl Kd.u64) vp_z_4 p_z.L] ++ F) kr ?_
       refine w_ix (k := .i64) (rd_hd 0 rfl) (nbd ex2) rfl kr ts_27 ti_30 ?_
       exact wE (gl []) [] 1
      ·
       intro γ F
       refine WI.reH (H' := [rdV (Kd.sl Kd.u64) vp_z_4 p_z.L] ++ F) kr ?_
       refine w_ldR 0 0 rfl ex2 kr ti_30 rfl rfl ?_
       rintro v2
       exact wE (gl [v2]) [(0, true)] 2
      ·
       intro γ F
       refine WI.reH (H' := [rdV Kd.u64 (γ 4 0) x2] ++ F) kr ?_
       refine w_ix (k := .i64) (rd_hd 0 rfl) (nbd ex4) rfl kr ts_30 ti_22 ?_
       exact wE (gl []) [] 1
      ·
       intro γ F
       refine WI.reH (H' := [rdV Kd.u64 (γ 4 0) x2] ++ F) kr ?_
       refine w_ldR 0 0 rfl ex4 kr ti_22 rfl rfl ?_
       rintro _
       exact wE (gl []) [] 1
      ·
       intro γ F
       refine WI.reH (H' := [blkP (.pointer (some ⟨b1, 0, none⟩)) 32 [.int .u64 p_z.W.S.P, .int .i64 p_z.W.S.N, .int .i64 p_z.W.S.T, vp_z_1, vp_z_2, vp_z_3, .int .u8 p_z.Who, vp_z_4, vp_z_5]] ++ F) kr ?_
       refine w_ldB 0 7 rfl kr ti_27 rfl rfl ?_
       exact wE (gl []) [(0, false)] 0
      ·
       intro γ F
       refine WI.reH (H' := [rdV (Kd.sl Kd.u64) vp_z_4 p_z.L] ++ F) kr ?_
       refine w_ix (k := .i64) (rd_hd 0 rfl) (nbd ex2) rfl kr ts_27 ti_30 ?_
       exact wE (gl []) [] 1
      ·
       intro γ F
       refine WI.reH (H' := [rdV (Kd.sl Kd.u64) vp_z_4 p_z.L] ++ F) kr ?_
       refine w_ldR 0 0 rfl ex2 kr ti_30 rfl rfl ?_
       rintro v3
       exact wE (gl [v3]) [(0, true)] 2
      ·
       intro γ F
       refine WI.reH (H' := [rdV Kd.u64 (γ 11 0) x2] ++ F) kr ?_
       refine w_cut 0 rfl el4 (loS (k := .i64)) hiN kr ts_30 ti_22 (fun v4 => ?_)
       exact wE (gl [v4]) [(0, true)] 2
     ·
      intro γ1
      cases h7
      exact q_join (γ1 12 0) trivial aK (tH [(1, false), (1, true), (2, true), (3, true), (4, true), (5, true), (6, false), (6, false), (8, true)] 9)
    ·
     refine h_cf (b := (decide (((x2.length : Nat) : Int) > (0 : Int)))) t1 kr ?_
     refine wh_skip ?_
     refine QH.ent (rdNil (kd := Kd.u64)) ?_
     cases h5
     exact q_join (.slice none 0 0) trivial aK (tH [(2, false), (2, true), (3, true), (4, true), (5, true), (6, true), (7, false), (7, false), (0, true)] 7)
   ·
    rintro g4 - j
    refine qh_then ?_
    refine wh_seq ?_
    refine wh_region ?_
    refine w_ldB 6 0 rfl kr ti_24 rfl rfl ?_
    refine w_p Tb_ok 2 kr ?_
    obtain ⟨r2, er2, h8⟩ := bnd h4
    refine w_fn [(8, true)] (c_privityref23_NewSharing er2) rfl fok_30 kr ?_
    rintro _ _ ⟨w1, hv, rfl⟩; have hv := hv.symm; subst hv
    refine w_p Tb_ok 1 kr ?_
    refine wi_end kr ?_
    refine qh_then ?_
    refine wh_seq ?_
    refine wh_region ?_
    refine w_p Tb_ok 1 kr ?_
    refine wi_end kr ?_
    refine qh_then ?_
    refine wh_seq ?_
    refine wh_seq ?_
    refine wh_region ?_
    refine w_p Tb_ok 1 kr ?_
    refine wi_end kr ?_
    refine qh_then ?_
    refine WH.ent (ownNil (kd := (Kd.sl Kd.u64)) (e := 30)) ?_
    obtain ⟨u1, eu1, h9⟩ := bnd h8
    have hN2 := ckN_some eu1
    obtain ⟨l6, el2, h10⟩ := bnd h9
    refine h_join (X := Value) (fun g => [(1, (.pointer (some ⟨b1, 0, none⟩))), (3, (.pointer (some ⟨b2, 0, none⟩))), (4, g1), (5, .int .i64 ((k1 : Nat) : Int)), (9, g)]) (fun g => [blkP (.pointer (some ⟨b1, 0, none⟩)) 32 [.int .u64 p_z.W.S.P, .int .i64 p_z.W.S.N, .int .i64 p_z.W.S.T, vp_z_1, vp_z_2, vp_z_3, .int .u8 p_z.Who, vp_z_4, vp_z_5], rdV Kd.i64 vp_z_1 p_z.W.Corrupt, rdV K_api_Deviation vp_z_2 p_z.W.Deviations, rdV (Kd.sl Kd.u64) vp_z_3 p_z.W.Tapes, rdV (Kd.sl Kd.u64) vp_z_4 p_z.L, rdV Kd.u64 vp_z_5 p_z.Spoil, blkP (.pointer (some ⟨b2, 0, none⟩)) 24 [.int .u64 p_z.W.S.P, .int .i64 p_z.W.S.N, .int .i64 p_z.W.S.T], ownV (Kd.sl (Kd.sl Kd.u64)) 44 g1 l1, ownV (Kd.sl Kd.u64) 30 g l6] ++ F) (fun _ => True) ?_ ?_
    ·
     refine wh_block ?_
     refine h_rs (fun (k2 : Nat) (st : (List (List Nat))) (g : Value) => [(1, (.pointer (some ⟨b1, 0, none⟩))), (3, (.pointer (some ⟨b2, 0, none⟩))), (4, g1), (5, .int .i64 ((k1 : Nat) : Int)), (8, w1), (9, g), (10, .int .i64 ((k2 : Nat) : Int))]) (fun (k2 : Nat) (st : (List (List Nat))) (g : Value) => [blkP (.pointer (some ⟨b1, 0, none⟩)) 32 [.int .u64 p_z.W.S.P, .int .i64 p_z.W.S.N, .int .i64 p_z.W.S.T, vp_z_1, vp_z_2, vp_z_3, .int .u8 p_z.Who, vp_z_4, vp_z_5], rdV Kd.i64 vp_z_1 p_z.W.Corrupt, rdV K_api_Deviation vp_z_2 p_z.W.Deviations, rdV (Kd.sl Kd.u64) vp_z_3 p_z.W.Tapes, rdV (Kd.sl Kd.u64) vp_z_4 p_z.L, rdV Kd.u64 vp_z_5 p_z.Spoil, blkP (.pointer (some ⟨b2, 0, none⟩)) 24 [.int .u64 p_z.W.S.P, .int .i64 p_z.W.S.N, .int .i64 p_z.W.S.T], ownV (Kd.sl (Kd.sl Kd.u64)) 44 g1 l1, ownV (Kd.sl Kd.u64) 30 w1 r2, ownV (Kd.sl Kd.u64) 30 g st] ++ F) (.slice none 0 0) el2 (Nat.le_max_left ..) aK (tH [(2, false), (2, true), (3, true), (4, true), (5, true), (6, true), (7, false), (7, false), (1, false), (0, false)] 6) ?_ ?_
     ·
      rintro g7 j
      refine wh_seq ?_
      refine wh_seq ?_
      refine wh_region ?_
      refine w_p Tb_ok 2 kr ?_
      refine w_ldB 6 1 rfl kr ti_3 rfl rfl ?_
      refine w_p Tb_ok 1 kr ?_
      refine wi_end kr ?_
      refine qh_then ?_
      refine h_cf (b := (decide ((((max 1 (p_z.W.S.N + 1).toNat) : Nat) : Int) ≤ p_z.W.S.N))) rgEF kr ?_
      refine wh_exit ?_
      refine qh_then_exit ?_
      refine q_rzX ?_
      refine qh_block_exit ?_
      exact q_join g7 trivial aK (tH [(0, false), (0, true), (1, true), (2, true), (3, true), (4, true), (5, false), (5, false), (6, false)] 6)
     ·
      rintro rem k2 l5 g5 o2 hk2 h11 hn2 j
      have h11 : privitylaw47_numbers_L1 p_z k1 r2 k2 l5 = some o2 := h11
      unfold privitylaw47_numbers_L1 at h11
      refine wh_seq ?_
      refine wh_seq ?_
      refine wh_region ?_
      refine w_p Tb_ok 2 kr ?_
      refine w_ldB 6 1 rfl kr ti_3 rfl rfl ?_
      refine w_p Tb_ok 1 kr ?_
      refine wi_end kr ?_
      refine qh_then ?_
      refine h_ct (b := (decide (((k2 : Nat) : Int) ≤ p_z.W.S.N))) (rgET hk2) kr ?_
      refine wh_skip ?_
      refine qh_then ?_
      refine wh_seq ?_
      refine wh_block ?_
      refine wh_seq ?_
      refine wh_region ?_
      refine w_p Tb_ok 2 kr ?_
      obtain ⟨x6, ex6, h12⟩ := bnd h11
      refine w_bi (zsubI ex6) kr ?_
      obtain ⟨x7, ex7, h13⟩ := bnd h12
      refine w_ix (k := .i64) (own_hd 8 rfl) (ib ex7) (iz ex7) kr ts_44 ti_30 ?_
      refine w_ldO 8 0 rfl (ig ex7) kr ti_30 rfl rfl ?_
      rintro v5
      refine w_p Tb_ok 1 kr ?_
      refine wi_end kr ?_
      refine qh_then ?_
      refine wh_seq ?_
      refine wh_seq ?_
      obtain ⟨x8, ej2, h14⟩ := bnd h13
      refine h_join (X := Unit) (fun g => [(1, (.pointer (some ⟨b1, 0, none⟩))), (3, (.pointer (some ⟨b2, 0, none⟩))), (4, g1), (5, .int .i64 ((k1 : Nat) : Int)), (8, w1), (9, g5), (10, .int .i64 ((k2 : Nat) : Int)), (11, v5), (67, .bool x8)]) (fun g => [blkP (.pointer (some ⟨b1, 0, none⟩)) 32 [.int .u64 p_z.W.S.P, .int .i64 p_z.W.S.N, .int .i64 p_z.W.S.T, vp_z_1, vp_z_2, vp_z_3, .int .u8 p_z.Who, vp_z_4, vp_z_5], rdV Kd.i64 vp_z_1 p_z.W.Corrupt, rdV K_api_Deviation vp_z_2 p_z.W.Deviations, rdV (Kd.sl Kd.u64) vp_z_3 p_z.W.Tapes, rdV (Kd.sl Kd.u64) vp_z_4 p_z.L, rdV Kd.u64 vp_z_5 p_z.Spoil, blkP (.pointer (some ⟨b2, 0, none⟩)) 24 [.int .u64 p_z.W.S.P, .int .i64 p_z.W.S.N, .int .i64 p_z.W.S.T], ownV (Kd.sl (Kd.sl Kd.u64)) 44 g1 l1, ownV (Kd.sl Kd.u64) 30 w1 r2, ownV (Kd.sl Kd.u64) 30 g5 l5, rdV Kd.u64 v5 x7] ++ F) (fun _ => True) ?_ ?_
      ·
       refine wh_region ?_
       refine w_p Tb_ok 1 kr ?_
       refine w_ldB 1 0 rfl kr ti_29 rfl rfl ?_
       refine w_p Tb_ok 1 kr ?_
       obtain ⟨r4, er4, h15⟩ := bnd ej2
       refine w_fn [(2, true), (3, true), (4, true)] (c_privityref14_Honest er4) rfl fok_40 kr ?_
       rintro _ _ ⟨hv, rfl⟩; have hv := hv.symm; subst hv
       refine w_p Tb_ok 2 kr ?_
       rcases bcase h15 with ⟨t2, h16⟩ | ⟨t2, h16⟩
       ·
        refine w_kb (t := 62) t2 kr ?_
        refine w_p Tb_ok 1 kr ?_
        refine w_ldB 1 8 rfl kr ti_30 rfl rfl ?_
        refine w_len (rd_hd 6 rfl) kr ts_30 ?_
        refine w_p Tb_ok 2 kr ?_
        refine wi_end kr ?_
        cases h16
        exact q_join () trivial aK (tH [(1, false), (1, true), (2, true), (3, true), (4, true), (5, true), (6, false), (6, false), (6, false), (6, false), (0, true)] 6)
       ·
        refine w_kb (t := 62) t2 kr ?_
        refine w_p Tb_ok 5 kr ?_
        refine wi_end kr ?_
        cases h16
        exact q_join () trivial aK (tH [(1, false), (1, true), (2, true), (3, true), (4, true), (5, true), (6, false), (6, false), (6, false), (6, false), (0, true)] 6)
      ·
       rintro ⟨⟩ - j
       refine qh_then ?_
       rcases bcase h14 with ⟨t3, h17⟩ | ⟨t3, h17⟩
       ·
        refine h_ct (b := x8) t3 kr ?_
        refine wh_seq ?_
        refine wh_region ?_
        refine w_p Tb_ok 1 kr ?_
        refine w_ldB 6 2 rfl kr ti_3 rfl rfl ?_
        obtain ⟨x9, ex9, h18⟩ := bnd h17
        refine w_bi (zaddI ex9) kr ?_
        obtain ⟨l7, el7, h19⟩ := bnd h18
        refine w_mk (kd := Kd.u64) (kl := .i64) (kc := .i64) () el7 kr ts_30 ti_22 rfl kr (it0 rfl) (fun v6 => ?_)
        refine w_p Tb_ok 1 kr ?_
        refine wi_end kr ?_
        refine qh_then ?_
        obtain ⟨x10, ex10, h20⟩ := bnd h19
        obtain ⟨x11, ex11, h21⟩ := bnd h20
        obtain ⟨x12, ex12, h22⟩ := bnd h21
        obtain ⟨x13, ex13, h23⟩ := bnd h22
        obtain ⟨x14, ex14, h24⟩ := bnd h23
        obtain ⟨l8, el8, h25⟩ := bnd h24
        refine h_flow [0, 0, 2, 0, 0, 24, 0, 64, 192, 504, 1022, 2046, 0, 4096, 16382, 32767, 65535] ⟨12, [0, 0, 0, 0, 0, 0, 0, 0, 0, 0, 0, 0, 0, 0, 0, 0, 1], [(16, [(0, 0)])], [(2, [(0, 1)]), (7, [(0, 1)]), (13, [(0, 7)]), (15, [(0, 0)])], [(8, [(0, 6)]), (10, [(0, 6)]), (11, [(0, 6)])]⟩ (fun γ => [v6, .pointer (some ⟨b1, 8, none⟩), vp_z_5, .int .i64 ((k2 : Nat) : Int), .int .i64 ((k1 : Nat) : Int), .int .i64 x10, .pointer (some ⟨b1, 8, none⟩), vp_z_5, .int .i64 ((p_z.Spoil.length : Nat) : Int), .int .i64 x11, .pointer (some (elV vp_z_5 (x11.toNat * Kd.u64.size))), .int .u64 x12, .pointer (some ⟨b2, 0, none⟩), .int .u64 p_z.W.S.P, .int .u64 x13, .pointer (some (elV v6 (0 * Kd.u64.size))), undef]) (fun i γ => match i with | 16 => [ownV Kd.u64 22 v6 l8] | _ => []) (fun γ => [blkP (.pointer (some ⟨b1, 0, none⟩)) 32 [.int .u64 p_z.W.S.P, .int .i64 p_z.W.S.N, .int .i64 p_z.W.S.T, vp_z_1, vp_z_2, vp_z_3, .int .u8 p_z.Who, vp_z_4, vp_z_5], rdV Kd.i64 vp_z_1 p_z.W.Corrupt, rdV K_api_Deviation vp_z_2 p_z.W.Deviations, rdV (Kd.sl Kd.u64) vp_z_3 p_z.W.Tapes, rdV (Kd.sl Kd.u64) vp_z_4 p_z.L, rdV Kd.u64 vp_z_5 p_z.Spoil, blkP (.pointer (some ⟨b2, 0, none⟩)) 24 [.int .u64 p_z.W.S.P, .int .i64 p_z.W.S.N, .int .i64 p_z.W.S.T], ownV (Kd.sl (Kd.sl Kd.u64)) 44 g1 l1, ownV (Kd.sl Kd.u64) 30 w1 r2, ownV (Kd.sl Kd.u64) 30 g5 l5, rdV Kd.u64 v5 x7, ownV Kd.u64 22 v6 l8] ++ F) [0, 1, 3, 4, 6, 12] tryd_mix Tb_ok kr kr (fun _ => by kernel_rfl) (fun _ => by kernel_rfl) (fun _ => by kernel_rfl) (fun _ => by kernel_rfl) (fun _ => by kernel_rfl) (fun _ => by kernel_rfl) (fun _ => by kernel_rfl) ?_ ?_
        ·
         refine ⟨?_, ?_, ?_, ?_, ?_, ?_, ?_, ?_, ?_, ?_, ?_, trivial⟩
         ·
          intro γ F
          refine WI.reH (H' := [blkP (.pointer (some ⟨b1, 0, none⟩)) 32 [.int .u64 p_z.W.S.P, .int .i64 p_z.W.S.N, .int .i64 p_z.W.S.T, vp_z_1, vp_z_2, vp_z_3, .int .u8 p_z.Who, vp_z_4, vp_z_5]] ++ F) kr ?_
          refine w_ldB 0 8 rfl kr ti_30 rfl rfl ?_
          exact wE (gl []) [(0, false)] 0
         ·
          intro γ F
          refine WI.reH (H' := [] ++ F) kr ?_
          refine w_bi (zaddI ex10) kr ?_
          exact wE (gl []) [] 0
         ·
          intro γ F
          refine WI.reH (H' := [blkP (.pointer (some ⟨b1, 0, none⟩)) 32 [.int .u64 p_z.W.S.P, .int .i64 p_z.W.S.N, .int .i64 p_z.W.S.T, vp_z_1, vp_z_2, vp_z_3, .int .u8 p_z.Who, vp_z_4, vp_z_5]] ++ F) kr ?_
          refine w_ldB 0 8 rfl kr ti_30 rfl rfl ?_
          exact wE (gl []) [(0, false)] 0
         ·
          intro γ F
          refine WI.reH (H' := [rdV Kd.u64 vp_z_5 p_z.Spoil] ++ F) kr ?_
          refine w_len (rd_hd 0 rfl) kr ts_30 ?_
          exact wE (gl []) [] 1
         ·
          intro γ F
          refine WI.reH (H' := [] ++ F) kr ?_
          refine w_bi (zremI ex11) kr ?_
          exact wE (gl []) [] 0
         ·
          intro γ F
          refine WI.reH (H' := [rdV Kd.u64 vp_z_5 p_z.Spoil] ++ F) kr ?_
          refine w_ix (k := .i64) (rd_hd 0 rfl) (ib ex12) (iz ex12) kr ts_30 ti_22 ?_
          exact wE (gl []) [] 1
         ·
          intro γ F
          refine WI.reH (H' := [rdV Kd.u64 vp_z_5 p_z.Spoil] ++ F) kr ?_
          refine w_ldR 0 0 rfl (ig ex12) kr ti_22 rfl rfl ?_
          rintro _
          exact wE (gl []) [] 1
         ·
          intro γ F
          refine WI.reH (H' := [blkP (.pointer (some ⟨b2, 0, none⟩)) 24 [.int .u64 p_z.W.S.P, .int .i64 p_z.W.S.N, .int .i64 p_z.W.S.T]] ++ F) kr ?_
          refine w_ldB 0 0 rfl kr ti_22 rfl rfl ?_
          exact wE (gl []) [(0, false)] 0
         ·
          intro γ F
          refine WI.reH (H' := [] ++ F) kr ?_
          refine w_bi (zremU ex13) kr ?_
          exact wE (gl []) [] 0
         ·
          intro γ F
          refine WI.reH (H' := [ownV Kd.u64 22 v6 l7] ++ F) kr ?_
          refine w_ix (k := .i64) (own_hd 0 rfl) (nbd ex14) rfl kr ts_30 ti_22 ?_
          exact wE (gl []) [(0, false)] 0
         ·
          intro γ F
          refine WI.reH (H' := [ownV Kd.u64 22 v6 l7] ++ F) kr ?_
          refine w_stO (kd := Kd.u64) (w := .int .u64 x13) (m := 0) (x0 := x13) 0 () rfl (nbd ex14) (sinj el8) kr ti_22 (cv0 kr) (it0 rfl) ?_
          exact wE (gl []) [(0, false)] 0
        ·
         intro γ2
         refine qh_then ?_
         refine wh_region ?_
         refine w_p Tb_ok 2 kr ?_
         refine WI.ent (frzAt 11 rfl) ?_
         refine w_lt (kd := (Kd.sl Kd.u64)) (t := 44) (len := 1) (ps0 := [(0, v6)]) (ps := [(0, .agg #[v6])]) ([l8] : List (List Nat)) _ (rowC (x := l8) (g := v6) (itS 0 rfl) row0) (scS (rd_hd 0 rfl) sc0) kr ts_44 ti_30 kr rfl rfl (fun v7 => ?_)
         obtain ⟨l9, el9, h26⟩ := bnd h25
         refine w_app 11 rfl (own_src 0 rfl) el9 kr ts_44 ti_30 rfl (fun v8 => ?_)
         refine w_p Tb_ok 1 kr ?_
         refine wi_end kr ?_
         refine qh_block_normal ?_
         refine qh_then ?_
         refine wh_region ?_
         refine w_p Tb_ok 1 kr ?_
         refine w_bi (zinc hk2 hN2) kr ?_
         refine w_p Tb_ok 1 kr ?_
         refine wi_end kr ?_
         have h26 := Option.some.inj h26; subst h26
         exact q_rs v8 hn2 aK (tH [(3, false), (3, true), (4, true), (5, true), (6, true), (7, true), (8, false), (8, false), (8, false), (0, false)] 8)
       ·
        refine h_cf (b := x8) t3 kr ?_
        refine wh_skip ?_
        refine qh_then ?_
        refine wh_region ?_
        refine w_p Tb_ok 2 kr ?_
        refine w_lt (kd := (Kd.sl Kd.u64)) (t := 44) (len := 1) (ps0 := [(0, v5)]) (ps := [(0, .agg #[v5])]) ([x7] : List (List Nat)) _ (rowC (x := x7) (g := v5) (itS 10 rfl) row0) (scS (rd_hd 10 rfl) sc0) kr ts_44 ti_30 kr rfl rfl (fun v9 => ?_)
        obtain ⟨l10, el10, h27⟩ := bnd h17
        refine w_app 10 rfl (own_src 0 rfl) el10 kr ts_44 ti_30 rfl (fun v10 => ?_)
        refine w_p Tb_ok 1 kr ?_
        refine wi_end kr ?_
        refine qh_block_normal ?_
        refine qh_then ?_
        refine wh_region ?_
        refine w_p Tb_ok 1 kr ?_
        refine w_bi (zinc hk2 hN2) kr ?_
        refine w_p Tb_ok 1 kr ?_
        refine wi_end kr ?_
        have h27 := Option.some.inj h27; subst h27
        exact q_rs v10 hn2 aK (tH [(2, false), (2, true), (3, true), (4, true), (5, true), (6, true), (7, false), (7, false), (7, false), (0, false)] 7)
    ·
     rintro g6 - j
     refine qh_then ?_
     refine wh_region ?_
     refine w_p Tb_ok 2 kr ?_
     refine WI.ent (frzAt 8 rfl) ?_
     refine w_lt (kd := (Kd.sl (Kd.sl Kd.u64))) (t := 40) (len := 1) (ps0 := [(0, g6)]) (ps := [(0, .agg #[g6])]) ([l6] : List (List (List Nat))) _ (rowC (x := l6) (g := g6) (itS 0 rfl) row0) (scS (rd_hd 0 rfl) sc0) kr ts_40 ti_44 kr rfl rfl (fun v11 => ?_)
     obtain ⟨l11, el11, h28⟩ := bnd h10
     refine w_app 9 rfl (own_src 0 rfl) el11 kr ts_40 ti_44 rfl (fun v12 => ?_)
     refine w_p Tb_ok 1 kr ?_
     refine wi_end kr ?_
     refine qh_block_normal ?_
     refine qh_then ?_
     refine wh_region ?_
     refine w_p Tb_ok 1 kr ?_
     refine w_bi (zinc hk1 hN1) kr ?_
     refine w_p Tb_ok 1 kr ?_
     refine wi_end kr ?_
     have h28 := Option.some.inj h28; subst h28
     exact q_rs v12 hn1 aK (tH [(3, false), (3, true), (4, true), (5, true), (6, true), (7, true), (8, false), (0, false)] 7)
 ·
  rintro g2 - j
  refine qh_then ?_
  refine wh_seq ?_
  refine wh_region ?_
  refine w_p Tb_ok 2 kr ?_
  refine wi_end kr ?_
  refine qh_then ?_
  refine wh_ret ?_
  have h1 := Option.some.inj h1; subst h1
  exact q_end (l := [g2]) [(0, false)] 0 ⟨g2, rfl, rfl⟩ (.inl rfl) kr kr kr
theorem c_privitylaw47_RecoveryLinear {p_z : T_privitylaw47_Ask} {vp_z_1 : Value} {vp_z_2 : Value} {vp_z_3 : Value} {vp_z_4 : Value} {vp_z_5 : Value} {r : Bool} (h : privitylaw47_RecoveryLinear p_z = some r) : Ct Tryd.prog 7 [.agg #[.int .u64 p_z.W.S.P, .int .i64 p_z.W.S.N, .int .i64 p_z.W.S.T, vp_z_1, vp_z_2, vp_z_3, .int .u8 p_z.Who, vp_z_4, vp_z_5]] [rdV Kd.i64 vp_z_1 p_z.W.Corrupt, rdV K_api_Deviation vp_z_2 p_z.W.Deviations, rdV (Kd.sl Kd.u64) vp_z_3 p_z.W.Tapes, rdV (Kd.sl Kd.u64) vp_z_4 p_z.L, rdV Kd.u64 vp_z_5 p_z.Spoil, exF] (fun v L => v = .bool r ∧ L = []) := by
 refine ct_intro Tryd.func7 rfl kr (fun F => ?_)
 unfold privitylaw47_RecoveryLinear at h
 refine wh_seq ?_
 refine wh_region ?_
 refine w_box (t := 32) (v := .agg #[.int .u64 p_z.W.S.P, .int .i64 p_z.W.S.N, .int .i64 p_z.W.S.T, vp_z_1, vp_z_2, vp_z_3, .int .u8 p_z.Who, vp_z_4, vp_z_5]) (cs := [.int .u64 p_z.W.S.P, .int .i64 p_z.W.S.N, .int .i64 p_z.W.S.T, vp_z_1, vp_z_2, vp_z_3, .int .u8 p_z.Who, vp_z_4, vp_z_5]) (cv0 kr) kr (fun q1 => ?_)
 refine WI.hd (y := blkP q1 32 [.int .u64 p_z.W.S.P, .int .i64 p_z.W.S.N, .int .i64 p_z.W.S.T, vp_z_1, vp_z_2, vp_z_3, .int .u8 p_z.Who, vp_z_4, vp_z_5]) kr ?_
 refine w_opP 0 rfl (fun b1 hb => ?_)
 subst hb
 refine w_p Tb_ok 1 kr ?_
 refine wi_end kr ?_
 refine qh_then ?_
 refine wh_seq ?_
 refine wh_region ?_
 refine w_p Tb_ok 1 kr ?_
 refine w_ldB 0 0 rfl kr ti_29 rfl rfl ?_
 refine w_al kr ti_29 (fun q2 => ?_)
 refine WI.hd (y := blkP q2 29 [.int .u64 ((0 : Nat) : Int), .int .i64 ((0 : Nat) : Int), .int .i64 ((0 : Nat) : Int), (.slice none 0 0), (.slice none 0 0), (.slice none 0 0)]) kr ?_
 refine w_opP 0 rfl (fun b2 hb => ?_)
 subst hb
 refine w_stB (v := .agg #[.int .u64 p_z.W.S.P, .int .i64 p_z.W.S.N, .int .i64 p_z.W.S.T, vp_z_1, vp_z_2, vp_z_3]) (off := 0) (cs := [.int .u64 p_z.W.S.P, .int .i64 p_z.W.S.N, .int .i64 p_z.W.S.T, vp_z_1, vp_z_2, vp_z_3]) 0 rfl (cv0 kr) kr ti_29 rfl rfl (oC (fun _ _ => rfl) (oC (fun _ _ => rfl) (oC (fun _ _ => rfl) (oC (sl_one (rd_hd 2 rfl)) (oC (sl_one (rd_hd 3 rfl)) (oC (sl_one (rd_hd 4 rfl)) oN)))))) ?_
 refine WI.hd (y := blkP (.pointer (some ⟨b2, 0, none⟩)) 29 [.int .u64 p_z.W.S.P, .int .i64 p_z.W.S.N, .int .i64 p_z.W.S.T, vp_z_1, vp_z_2, vp_z_3]) kr ?_
 refine wi_end kr ?_
 refine qh_then ?_
 refine wh_seq ?_
 refine wh_region ?_
 refine w_p Tb_ok 1 kr ?_
 refine w_stB (v := (.slice none 0 0)) (off := 3) (cs := [(.slice none 0 0)]) 0 rfl (cv0 kr) kr ti_25 rfl rfl (oC (fun _ _ => rfl) oN) ?_
 refine WI.hd (y := blkP (.pointer (some ⟨b2, 0, none⟩)) 29 [.int .u64 p_z.W.S.P, .int .i64 p_z.W.S.N, .int .i64 p_z.W.S.T, (.slice none 0 0), vp_z_2, vp_z_3]) kr ?_
 refine w_p Tb_ok 1 kr ?_
 refine w_stB (v := (.slice none 0 0)) (off := 4) (cs := [(.slice none 0 0)]) 0 rfl (cv0 kr) kr ti_26 rfl rfl (oC (fun _ _ => rfl) oN) ?_
 refine WI.hd (y := blkP (.pointer (some ⟨b2, 0, none⟩)) 29 [.int .u64 p_z.W.S.P, .int .i64 p_z.W.S.N, .int .i64 p_z.W.S.T, (.slice none 0 0), (.slice none 0 0), vp_z_3]) kr ?_
 refine wi_end kr ?_
 refine qh_then ?_
 refine wh_seq ?_
 refine wh_region ?_
 refine w_ldB 0 0 rfl kr ti_29 rfl rfl ?_
 refine w_p Tb_ok 1 kr ?_
 refine w_ldB 1 6 rfl kr ti_5 rfl rfl ?_
 refine w_p Tb_ok 1 kr ?_
 refine w_ldB 1 7 rfl kr ti_27 rfl rfl ?_
 refine w_bd (v := .agg #[.int .u64 p_z.W.S.P, .int .i64 p_z.W.S.N, .int .i64 p_z.W.S.T, (.slice none 0 0), (.slice none 0 0), vp_z_3, .int .u8 p_z.Who, vp_z_4, (.slice none 0 0)]) (t := 32) (ps0 := [(0, .agg #[.int .u64 p_z.W.S.P, .int .i64 p_z.W.S.N, .int .i64 p_z.W.S.T, (.slice none 0 0), (.slice none 0 0), vp_z_3]), (1, .int .u8 p_z.Who), (2, vp_z_4)]) (ps := [(0, .agg #[.int .u64 p_z.W.S.P, .int .i64 p_z.W.S.N, .int .i64 p_z.W.S.T, (.slice none 0 0), (.slice none 0 0), vp_z_3]), (1, .int .u8 p_z.Who), (2, .agg #[vp_z_4])]) (scI (scI (scS (rd_hd 5 rfl) sc0))) kr (fun w => by kernel_rfl) ?_
 refine w_al kr ti_32 (fun q3 => ?_)
 refine WI.hd (y := blkP q3 32 [.int .u64 ((0 : Nat) : Int), .int .i64 ((0 : Nat) : Int), .int .i64 ((0 : Nat) : Int), (.slice none 0 0), (.slice none 0 0), (.slice none 0 0), .int .u8 ((0 : Nat) : Int), (.slice none 0 0), (.slice none 0 0)]) kr ?_
 refine w_opP 0 rfl (fun b3 hb => ?_)
 subst hb
 refine w_stB (v := .agg #[.int .u64 p_z.W.S.P, .int .i64 p_z.W.S.N, .int .i64 p_z.W.S.T, (.slice none 0 0), (.slice none 0 0), vp_z_3, .int .u8 p_z.Who, vp_z_4, (.slice none 0 0)]) (off := 0) (cs := [.int .u64 p_z.W.S.P, .int .i64 p_z.W.S.N, .int .i64 p_z.W.S.T, (.slice none 0 0), (.slice none 0 0), vp_z_3, .int .u8 p_z.Who, vp_z_4, (.slice none 0 0)]) 0 rfl (cv0 kr) kr ti_32 rfl rfl (oC (fun _ _ => rfl) (oC (fun _ _ => rfl) (oC (fun _ _ => rfl) (oC (fun _ _ => rfl) (oC (fun _ _ => rfl) (oC (sl_one (rd_hd 5 rfl)) (oC (fun _ _ => rfl) (oC (sl_one (rd_hd 6 rfl)) (oC (fun _ _ => rfl) oN))))))))) ?_
 refine WI.hd (y := blkP (.pointer (some ⟨b3, 0, none⟩)) 32 [.int .u64 p_z.W.S.P, .int .i64 p_z.W.S.N, .int .i64 p_z.W.S.T, (.slice none 0 0), (.slice none 0 0), vp_z_3, .int .u8 p_z.Who, vp_z_4, (.slice none 0 0)]) kr ?_
 refine wi_end kr ?_
 refine qh_then ?_
 refine wh_seq ?_
 refine wh_seq ?_
 obtain ⟨x1, ej1, h1⟩ := bnd h
 refine h_join (X := Unit) (fun g => [(3, (.pointer (some ⟨b2, 0, none⟩))), (4, (.pointer (some ⟨b3, 0, none⟩))), (34, .bool x1)]) (fun g => [blkP (.pointer (some ⟨b2, 0, none⟩)) 29 [.int .u64 p_z.W.S.P, .int .i64 p_z.W.S.N, .int .i64 p_z.W.S.T, (.slice none 0 0), (.slice none 0 0), vp_z_3], rdV Kd.i64 (.slice none 0 0) ([] : List Int), rdV K_api_Deviation (.slice none 0 0) ([] : List T_api_Deviation), rdV (Kd.sl Kd.u64) vp_z_3 p_z.W.Tapes, blkP (.pointer (some ⟨b3, 0, none⟩)) 32 [.int .u64 p_z.W.S.P, .int .i64 p_z.W.S.N, .int .i64 p_z.W.S.T, (.slice none 0 0), (.slice none 0 0), vp_z_3, .int .u8 p_z.Who, vp_z_4, (.slice none 0 0)], rdV (Kd.sl Kd.u64) vp_z_4 p_z.L, rdV Kd.u64 (.slice none 0 0) ([] : List Nat), exF] ++ F) (fun _ => True) ?_ ?_
 ·
  refine wh_region ?_
  refine w_ldB 0 0 rfl kr ti_32 rfl rfl ?_
  refine WI.ent (rdNil (kd := Kd.i64)) ?_
  refine WI.ent (rdNil (kd := K_api_Deviation)) ?_
  refine WI.ent (rdNil (kd := Kd.u64)) ?_
  obtain ⟨r1, er1, h2⟩ := bnd ej1
  refine w_fn [(2, true), (1, true), (8, true), (9, true), (0, true)] (c_privitylaw47_may er1) rfl fok_20 kr ?_
  rintro _ _ ⟨hv, rfl⟩; have hv := hv.symm; subst hv
  refine w_p Tb_ok 2 kr ?_
  rcases bcase h2 with ⟨t1, h3⟩ | ⟨t1, h3⟩
  ·
   refine w_kb (t := 29) t1 kr ?_
   refine w_p Tb_ok 5 kr ?_
   refine wi_end kr ?_
   cases h3
   exact q_join () trivial aK (tH [(4, false), (2, true), (1, true), (7, true), (3, false), (7, true), (0, true), (9, true)] 10)
  ·
   refine w_kb (t := 29) t1 kr ?_
   refine w_p Tb_ok 1 kr ?_
   refine w_ldB 5 7 rfl kr ti_27 rfl rfl ?_
   refine w_len (rd_hd 9 rfl) kr ts_27 ?_
   refine w_p Tb_ok 2 kr ?_
   refine wi_end kr ?_
   cases h3
   exact q_join () trivial aK (tH [(4, false), (2, true), (1, true), (7, true), (3, false), (7, true), (0, true), (9, true)] 10)
 ·
  rintro ⟨⟩ - j
  refine qh_then ?_
  rcases bcase h1 with ⟨t2, h4⟩ | ⟨t2, h4⟩
  ·
   refine h_ct (b := x1) t2 kr ?_
   refine wh_seq ?_
   refine wh_region ?_
   obtain ⟨r2, er2, h5⟩ := bnd h4
   refine w_fn [(7, true)] (c_privitylaw47_awake er2) rfl fok_22 kr ?_
   rintro _ _ ⟨hv, rfl⟩; have hv := hv.symm; subst hv
   refine w_p Tb_ok 1 kr ?_
   refine wi_end kr ?_
   refine qh_then ?_
   refine wh_ret ?_
   refine qh_then_ret ?_
   have h5 := Option.some.inj h5; subst h5
   exact q_end (l := [.bool r2]) [] 8 ⟨rfl, rfl⟩ (.inl rfl) kr kr kr
  ·
   refine h_cf (b := x1) t2 kr ?_
   refine wh_skip ?_
   refine qh_then ?_
   refine wh_seq ?_
   refine wh_region ?_
   refine w_ldB 0 0 rfl kr ti_29 rfl rfl ?_
   obtain ⟨r3, er3, h6⟩ := bnd h4
   rcases r3 with r4 | r5
   ·
    have h7 := sumL h6
    refine w_fn [(1, true), (2, true), (3, true), (7, true)] (c_privitylaw47_nets er3) rfl fok_23 kr ?_
    rintro _ _ ⟨hv, rfl⟩; have hv := hv.symm; subst hv
    refine w_p Tb_ok 7 kr ?_
    refine wi_end kr ?_
    refine qh_then ?_
    refine wh_seq ?_
    refine wh_seq ?_
    refine wh_region ?_
    refine w_p Tb_ok 2 kr ?_
    refine wi_end kr ?_
    refine qh_then ?_
    refine h_ct (b := true) rfl kr ?_
    refine wh_seq ?_
    refine wh_region ?_
    refine w_p Tb_ok 1 kr ?_
    refine wi_end kr ?_
    refine qh_then ?_
    refine wh_ret ?_
    refine qh_then_ret ?_
    have h7 := Option.some.inj h7; subst h7
    exact q_end (l := [.bool false]) [] 8 ⟨rfl, rfl⟩ (.inl rfl) kr kr kr
   ·
    have h8 := sumR h6
    rcases r5 with r6 | r7
    ·
     have h9 := sumL h8
     refine w_fn [(1, true), (2, true), (3, true), (7, true)] (c_privitylaw47_nets er3) rfl fok_23 kr ?_
     rintro _ _ ⟨w7, w7__0_1, w7__0_2, w7__0_3, w7__2, w7__3, hv, rfl⟩; have hv := hv.symm; subst hv
     refine w_opP 0 rfl (fun b4 hb => ?_)
     subst hb
     refine w_p Tb_ok 7 kr ?_
     refine wi_end kr ?_
     refine qh_then ?_
     refine wh_seq ?_
     refine wh_seq ?_
     refine wh_region ?_
     refine w_p Tb_ok 2 kr ?_
     refine wi_end kr ?_
     refine qh_then ?_
     refine h_ct (b := true) rfl kr ?_
     refine wh_seq ?_
     refine wh_region ?_
     refine w_p Tb_ok 1 kr ?_
     refine wi_end kr ?_
     refine qh_then ?_
     refine wh_ret ?_
     refine qh_then_ret ?_
     have h9 := Option.some.inj h9; subst h9
     exact q_end (l := [.bool false]) [] 14 ⟨rfl, rfl⟩ (.inl rfl) kr kr kr
    ·
     have h10 := sumR h8
     rcases r7 with r8 | r9
     ·
      have h11 := sumL h10
      refine w_fn [(1, true), (2, true), (3, true), (7, true)] (c_privitylaw47_nets er3) rfl fok_23 kr ?_
      rintro _ _ ⟨w9, w9__0_1, w9__0_2, w9__0_3, w9__2, w9__3, hv, rfl⟩; have hv := hv.symm; subst hv
      refine w_opP 0 rfl (fun b5 hb => ?_)
      subst hb
      refine w_p Tb_ok 7 kr ?_
      refine wi_end kr ?_
      refine qh_then ?_
      refine wh_seq ?_
      refine wh_seq ?_
      refine wh_region ?_
      refine w_p Tb_ok 2 kr ?_
      refine wi_end kr ?_
      refine qh_then ?_
      refine h_ct (b := true) rfl kr ?_
      refine wh_seq ?_
      refine wh_region ?_
      refine w_p Tb_ok 1 kr ?_
      refine wi_end kr ?_
      refine qh_then ?_
      refine wh_ret ?_
      refine qh_then_ret ?_
      have h11 := Option.some.inj h11; subst h11
      exact q_end (l := [.bool false]) [] 14 ⟨rfl, rfl⟩ (.inl rfl) kr kr kr
     ·
      have h12 := sumR h10
      refine w_fn [(1, true), (2, true), (3, true), (7, true)] (c_privitylaw47_nets er3) rfl fok_23 kr ?_
      rintro _ _ ⟨w12, w12__0_1, w12__0_2, w12__0_3, w12__2, w12__3, w13, w13__0_1, w13__0_2, w13__0_3, w13__2, w13__3, hv, rfl⟩; have hv := hv.symm; subst hv
      refine w_opP 0 rfl (fun b6 hb => ?_)
      subst hb
      refine w_opP 6 rfl (fun b7 hb => ?_)
      subst hb
      refine w_p Tb_ok 7 kr ?_
      refine wi_end kr ?_
      refine qh_then ?_
      refine wh_seq ?_
      refine wh_seq ?_
      refine wh_region ?_
      refine w_p Tb_ok 2 kr ?_
      refine wi_end kr ?_
      refine qh_then ?_
      refine h_cf (b := false) rfl kr ?_
      refine wh_skip ?_
      refine qh_then ?_
      refine wh_seq ?_
      refine wh_region ?_
      refine w_ldB 16 0 rfl kr ti_32 rfl rfl ?_
      obtain ⟨r10, er10, h13⟩ := bnd h12
      refine w_fn [(13, true), (14, true), (15, true), (17, true), (18, true)] (c_privitylaw47_numbers er10) rfl fok_24 kr ?_
      rintro _ _ ⟨w15, hv, rfl⟩; have hv := hv.symm; subst hv
      refine w_p Tb_ok 1 kr ?_
      refine wi_end kr ?_
      refine qh_then ?_
      refine wh_seq ?_
      refine wh_region ?_
      refine w_p Tb_ok 2 kr ?_
      refine w_ldB 13 0 rfl kr ti_22 rfl rfl ?_
      refine w_p Tb_ok 1 kr ?_
      refine wi_end kr ?_
      refine qh_then ?_
      refine wh_seq ?_
      refine wh_region ?_
      refine w_p Tb_ok 1 kr ?_
      refine wi_end kr ?_
      refine qh_then ?_
      refine wh_seq ?_
      refine wh_seq ?_
      refine wh_region ?_
      refine w_p Tb_ok 1 kr ?_
      refine wi_end kr ?_
      refine qh_then ?_
      refine WH.ent (ownNil (kd := (Kd.sl Kd.u64)) (e := 30)) ?_
      obtain ⟨u1, eu1, h14⟩ := bnd h13
      have hN1 := ckN_some eu1
      obtain ⟨l2, el1, h15⟩ := bnd h14
      refine h_join (X := Value) (fun g => [(3, (.pointer (some ⟨b2, 0, none⟩))), (4, (.pointer (some ⟨b3, 0, none⟩))), (5, (.pointer (some ⟨b6, 0, none⟩))), (8, w15), (9, .int .u64 p_z.W.S.P), (10, g)]) (fun g => [blkP (.pointer (some ⟨b2, 0, none⟩)) 29 [.int .u64 p_z.W.S.P, .int .i64 p_z.W.S.N, .int .i64 p_z.W.S.T, (.slice none 0 0), (.slice none 0 0), vp_z_3], rdV Kd.i64 (.slice none 0 0) ([] : List Int), rdV K_api_Deviation (.slice none 0 0) ([] : List T_api_Deviation), rdV (Kd.sl Kd.u64) vp_z_3 p_z.W.Tapes, blkP (.pointer (some ⟨b3, 0, none⟩)) 32 [.int .u64 p_z.W.S.P, .int .i64 p_z.W.S.N, .int .i64 p_z.W.S.T, (.slice none 0 0), (.slice none 0 0), vp_z_3, .int .u8 p_z.Who, vp_z_4, (.slice none 0 0)], rdV (Kd.sl Kd.u64) vp_z_4 p_z.L, rdV Kd.u64 (.slice none 0 0) ([] : List Nat), blkP (.pointer (some ⟨b6, 0, none⟩)) 119 [.int .u64 r9.1.zw.S.P, .int .i64 r9.1.zw.S.N, .int .i64 r9.1.zw.S.T, w12__0_1, w12__0_2, w12__0_3, .int .i64 r9.1.zround, (th w12__2), w12__3], rdV Kd.i64 w12__0_1 r9.1.zw.Corrupt, rdV K_api_Deviation w12__0_2 r9.1.zw.Deviations, rdV (Kd.sl Kd.u64) w12__0_3 r9.1.zw.Tapes, treeV (rowK K_api_Event 67) 46 (th w12__2) (tg w12__2) r9.1.zviews, ownV Kd.any 137 w12__3 r9.1.ztapes, ownV (Kd.sl (Kd.sl Kd.u64)) 44 w15 r10, ownV (Kd.sl Kd.u64) 30 g l2, exF] ++ F) (fun _ => True) ?_ ?_
      ·
       refine wh_block ?_
       refine h_rs (fun (k1 : Nat) (st : (List (List Nat))) (g : Value) => [(3, (.pointer (some ⟨b2, 0, none⟩))), (4, (.pointer (some ⟨b3, 0, none⟩))), (5, (.pointer (some ⟨b6, 0, none⟩))), (8, w15), (9, .int .u64 p_z.W.S.P), (10, g), (11, .int .i64 ((k1 : Nat) : Int))]) (fun (k1 : Nat) (st : (List (List Nat))) (g : Value) => [blkP (.pointer (some ⟨b2, 0, none⟩)) 29 [.int .u64 p_z.W.S.P, .int .i64 p_z.W.S.N, .int .i64 p_z.W.S.T, (.slice none 0 0), (.slice none 0 0), vp_z_3], rdV Kd.i64 (.slice none 0 0) ([] : List Int), rdV K_api_Deviation (.slice none 0 0) ([] : List T_api_Deviation), rdV (Kd.sl Kd.u64) vp_z_3 p_z.W.Tapes, blkP (.pointer (some ⟨b3, 0, none⟩)) 32 [.int .u64 p_z.W.S.P, .int .i64 p_z.W.S.N, .int .i64 p_z.W.S.T, (.slice none 0 0), (.slice none 0 0), vp_z_3, .int .u8 p_z.Who, vp_z_4, (.slice none 0 0)], rdV (Kd.sl Kd.u64) vp_z_4 p_z.L, rdV Kd.u64 (.slice none 0 0) ([] : List Nat), blkP (.pointer (some ⟨b6, 0, none⟩)) 119 [.int .u64 r9.1.zw.S.P, .int .i64 r9.1.zw.S.N, .int .i64 r9.1.zw.S.T, w12__0_1, w12__0_2, w12__0_3, .int .i64 r9.1.zround, (th w12__2), w12__3], rdV Kd.i64 w12__0_1 r9.1.zw.Corrupt, rdV K_api_Deviation w12__0_2 r9.1.zw.Deviations, rdV (Kd.sl Kd.u64) w12__0_3 r9.1.zw.Tapes, treeV (rowK K_api_Event 67) 46 (th w12__2) (tg w12__2) r9.1.zviews, ownV Kd.any 137 w12__3 r9.1.ztapes, ownV (Kd.sl (Kd.sl Kd.u64)) 44 w15 r10, ownV (Kd.sl Kd.u64) 30 g st, exF] ++ F) (.slice none 0 0) el1 (Nat.le_max_left ..) aK (tH [(14, false), (14, true), (15, true), (16, true), (17, false), (17, true), (18, true), (2, false), (2, true), (3, true), (4, true), (5, false), (5, false), (1, false), (0, false), (14, true)] 15) ?_ ?_
       ·
        rintro g3 j
        refine wh_seq ?_
        refine wh_seq ?_
        refine wh_region ?_
        refine w_p Tb_ok 3 kr ?_
        refine w_ldB 0 1 rfl kr ti_3 rfl rfl ?_
        refine w_p Tb_ok 1 kr ?_
        refine wi_end kr ?_
        refine qh_then ?_
        refine h_cf (b := (decide ((((max 0 (p_z.W.S.N).toNat) : Nat) : Int) < p_z.W.S.N))) rgLF kr ?_
        refine wh_exit ?_
        refine qh_then_exit ?_
        refine q_rzX ?_
        refine qh_block_exit ?_
        exact q_join g3 trivial aK (tH [(0, false), (0, true), (1, true), (2, true), (3, false), (3, true), (4, true), (5, false), (5, true), (6, true), (7, true), (8, false), (8, false), (8, false), (8, false), (8, true)] 9)
       ·
        rintro rem k1 l1 g1 o1 hk1 h16 hn1 j
        have h16 : privitylaw47_RecoveryLinear_L0 p_z r10 k1 l1 = some o1 := h16
        unfold privitylaw47_RecoveryLinear_L0 at h16
        refine wh_seq ?_
        refine wh_seq ?_
        refine wh_region ?_
        refine w_p Tb_ok 3 kr ?_
        refine w_ldB 0 1 rfl kr ti_3 rfl rfl ?_
        refine w_p Tb_ok 1 kr ?_
        refine wi_end kr ?_
        refine qh_then ?_
        refine h_ct (b := (decide (((k1 : Nat) : Int) < p_z.W.S.N))) (rgLT hk1) kr ?_
        refine wh_skip ?_
        refine qh_then ?_
        refine wh_seq ?_
        refine wh_block ?_
        refine wh_seq ?_
        refine wh_region ?_
        refine w_p Tb_ok 1 kr ?_
        refine wi_end kr ?_
        refine qh_then ?_
        refine wh_seq ?_
        refine wh_seq ?_
        refine wh_region ?_
        refine w_p Tb_ok 1 kr ?_
        refine wi_end kr ?_
        refine qh_then ?_
        refine WH.ent (ownNil (kd := Kd.u64) (e := 22)) ?_
        obtain ⟨u2, eu2, h17⟩ := bnd h16
        have hN2 := ckN_some eu2
        obtain ⟨l4, el2, h18⟩ := bnd h17
        refine h_join (X := Value) (fun g => [(3, (.pointer (some ⟨b2, 0, none⟩))), (4, (.pointer (some ⟨b3, 0, none⟩))), (5, (.pointer (some ⟨b6, 0, none⟩))), (8, w15), (9, .int .u64 p_z.W.S.P), (10, g1), (11, .int .i64 ((k1 : Nat) : Int)), (12, g)]) (fun g => [blkP (.pointer (some ⟨b2, 0, none⟩)) 29 [.int .u64 p_z.W.S.P, .int .i64 p_z.W.S.N, .int .i64 p_z.W.S.T, (.slice none 0 0), (.slice none 0 0), vp_z_3], rdV Kd.i64 (.slice none 0 0) ([] : List Int), rdV K_api_Deviation (.slice none 0 0) ([] : List T_api_Deviation), rdV (Kd.sl Kd.u64) vp_z_3 p_z.W.Tapes, blkP (.pointer (some ⟨b3, 0, none⟩)) 32 [.int .u64 p_z.W.S.P, .int .i64 p_z.W.S.N, .int .i64 p_z.W.S.T, (.slice none 0 0), (.slice none 0 0), vp_z_3, .int .u8 p_z.Who, vp_z_4, (.slice none 0 0)], rdV (Kd.sl Kd.u64) vp_z_4 p_z.L, rdV Kd.u64 (.slice none 0 0) ([] : List Nat), blkP (.pointer (some ⟨b6, 0, none⟩)) 119 [.int .u64 r9.1.zw.S.P, .int .i64 r9.1.zw.S.N, .int .i64 r9.1.zw.S.T, w12__0_1, w12__0_2, w12__0_3, .int .i64 r9.1.zround, (th w12__2), w12__3], rdV Kd.i64 w12__0_1 r9.1.zw.Corrupt, rdV K_api_Deviation w12__0_2 r9.1.zw.Deviations, rdV (Kd.sl Kd.u64) w12__0_3 r9.1.zw.Tapes, treeV (rowK K_api_Event 67) 46 (th w12__2) (tg w12__2) r9.1.zviews, ownV Kd.any 137 w12__3 r9.1.ztapes, ownV (Kd.sl (Kd.sl Kd.u64)) 44 w15 r10, ownV (Kd.sl Kd.u64) 30 g1 l1, ownV Kd.u64 22 g l4, exF] ++ F) (fun _ => True) ?_ ?_
        ·
         refine wh_block ?_
         refine h_rs (fun (k2 : Nat) (st : (List Nat)) (g : Value) => [(3, (.pointer (some ⟨b2, 0, none⟩))), (4, (.pointer (some ⟨b3, 0, none⟩))), (5, (.pointer (some ⟨b6, 0, none⟩))), (8, w15), (9, .int .u64 p_z.W.S.P), (10, g1), (11, .int .i64 ((k1 : Nat) : Int)), (12, g), (13, .int .i64 ((k2 : Nat) : Int))]) (fun (k2 : Nat) (st : (List Nat)) (g : Value) => [blkP (.pointer (some ⟨b2, 0, none⟩)) 29 [.int .u64 p_z.W.S.P, .int .i64 p_z.W.S.N, .int .i64 p_z.W.S.T, (.slice none 0 0), (.slice none 0 0), vp_z_3], rdV Kd.i64 (.slice none 0 0) ([] : List Int), rdV K_api_Deviation (.slice none 0 0) ([] : List T_api_Deviation), rdV (Kd.sl Kd.u64) vp_z_3 p_z.W.Tapes, blkP (.pointer (some ⟨b3, 0, none⟩)) 32 [.int .u64 p_z.W.S.P, .int .i64 p_z.W.S.N, .int .i64 p_z.W.S.T, (.slice none 0 0), (.slice none 0 0), vp_z_3, .int .u8 p_z.Who, vp_z_4, (.slice none 0 0)], rdV (Kd.sl Kd.u64) vp_z_4 p_z.L, rdV Kd.u64 (.slice none 0 0) ([] : List Nat), blkP (.pointer (some ⟨b6, 0, none⟩)) 119 [.int .u64 r9.1.zw.S.P, .int .i64 r9.1.zw.S.N, .int .i64 r9.1.zw.S.T, w12__0_1, w12__0_2, w12__0_3, .int .i64 r9.1.zround, (th w12__2), w12__3], rdV Kd.i64 w12__0_1 r9.1.zw.Corrupt, rdV K_api_Deviation w12__0_2 r9.1.zw.Deviations, rdV (Kd.sl Kd.u64) w12__0_3 r9.1.zw.Tapes, treeV (rowK K_api_Event 67) 46 (th w12__2) (tg w12__2) r9.1.zviews, ownV Kd.any 137 w12__3 r9.1.ztapes, ownV (Kd.sl (Kd.sl Kd.u64)) 44 w15 r10, ownV (Kd.sl Kd.u64) 30 g1 l1, ownV Kd.u64 22 g st, exF] ++ F) (.slice none 0 0) el2 (Nat.le_max_left ..) aK (tH [(1, false), (1, true), (2, true), (3, true), (4, false), (4, true), (5, true), (6, false), (6, true), (7, true), (8, true), (9, false), (9, false), (9, false), (9, false), (0, false), (8, true)] 9) ?_ ?_
         ·
          rintro g6 j
          refine wh_seq ?_
          refine wh_seq ?_
          refine wh_region ?_
          refine w_p Tb_ok 3 kr ?_
          refine w_ldB 0 2 rfl kr ti_3 rfl rfl ?_
          refine w_p Tb_ok 1 kr ?_
          refine wi_end kr ?_
          refine qh_then ?_
          refine h_cf (b := (decide ((((max 0 (p_z.W.S.T + 1).toNat) : Nat) : Int) ≤ p_z.W.S.T))) rgEF kr ?_
          refine wh_exit ?_
          refine qh_then_exit ?_
          refine q_rzX ?_
          refine qh_block_exit ?_
          exact q_join g6 trivial aK (tH [(0, false), (0, true), (1, true), (2, true), (3, false), (3, true), (4, true), (5, false), (5, true), (6, true), (7, true), (8, false), (8, false), (8, false), (8, false), (8, false), (8, true)] 9)
         ·
          rintro rem k2 l3 g4 o2 hk2 h19 hn2 j
          have h19 : privitylaw47_RecoveryLinear_L1 p_z r10 k1 k2 l3 = some o2 := h19
          unfold privitylaw47_RecoveryLinear_L1 at h19
          refine wh_seq ?_
          refine wh_seq ?_
          refine wh_region ?_
          refine w_p Tb_ok 3 kr ?_
          refine w_ldB 0 2 rfl kr ti_3 rfl rfl ?_
          refine w_p Tb_ok 1 kr ?_
          refine wi_end kr ?_
          refine qh_then ?_
          refine h_ct (b := (decide (((k2 : Nat) : Int) ≤ p_z.W.S.T))) (rgET hk2) kr ?_
          refine wh_skip ?_
          refine qh_then ?_
          refine wh_seq ?_
          refine wh_block ?_
          refine WH.ent (hd_add (tree_hdI (inP 11 rfl))) ?_
          obtain ⟨x4, ex4, h20⟩ := bnd h19
          obtain ⟨x5, ex5, h21⟩ := bnd h20
          obtain ⟨x6, ex6, h22⟩ := bnd h21
          obtain ⟨x7, ex7, h23⟩ := bnd h22
          obtain ⟨x8, ex8, h24⟩ := bnd h23
          obtain ⟨x9, ex9, h25⟩ := bnd h24
          obtain ⟨r13, er13, h26⟩ := bnd h25
          obtain ⟨l5, el5, h27⟩ := bnd h26
          refine h_flow [0, 0, 0, 4, 12, 0, 60, 124, 0, 508, 1020, 0, 2048, 6144, 0, 30720, 63488, 0, 260096, 522240, 1048574, 2097150, 4194303, 8388607] ⟨18, [0, 0, 0, 0, 1, 0, 0, 1, 0, 0, 0, 0, 0, 1, 0, 0, 1, 0, 0, 0, 0, 1, 1, 0], [(22, [(0, 16)])], [(3, [(0, 14)]), (4, [(0, 14)]), (12, [(0, 14)]), (13, [(0, 14)]), (22, [(22, 0)])], [(6, [(5, 0)]), (7, [(5, 0)]), (9, [(8, 0)]), (10, [(8, 0)]), (15, [(14, 0)]), (16, [(14, 0)]), (18, [(17, 0)]), (19, [(17, 0)])]⟩ (fun γ => [g4, .int .u64 p_z.W.S.P, w15, .pointer (some (elV w15 (0 * (Kd.sl (Kd.sl Kd.u64)).size))), (γ 4 0), .int .i64 ((k1 : Nat) : Int), .pointer (some (elV (γ 4 0) (k1 * (Kd.sl Kd.u64).size))), (γ 7 0), .int .i64 ((k2 : Nat) : Int), .pointer (some (elV (γ 7 0) (k2 * Kd.u64.size))), .int .u64 x6, w15, .pointer (some (elV w15 (1 * (Kd.sl (Kd.sl Kd.u64)).size))), (γ 13 0), .int .i64 ((k1 : Nat) : Int), .pointer (some (elV (γ 13 0) (k1 * (Kd.sl Kd.u64).size))), (γ 16 0), .int .i64 ((k2 : Nat) : Int), .pointer (some (elV (γ 16 0) (k2 * Kd.u64.size))), .int .u64 x9, .int .u64 r13, (γ 21 0), (γ 22 0), (γ 22 0)]) (fun i γ => match i with | 4 => [rdV (Kd.sl Kd.u64) (γ 4 0) x4] | 7 => [rdV Kd.u64 (γ 7 0) x5] | 13 => [rdV (Kd.sl Kd.u64) (γ 13 0) x7] | 16 => [rdV Kd.u64 (γ 16 0) x8] | 21 => [ownV Kd.u64 22 (γ 21 0) ([r13] : List Nat)] | 22 => [ownV Kd.u64 22 (γ 22 0) l5] | _ => []) (fun γ => [hdP (th w12__2) r9.1.zviews.length, blkP (.pointer (some ⟨b2, 0, none⟩)) 29 [.int .u64 p_z.W.S.P, .int .i64 p_z.W.S.N, .int .i64 p_z.W.S.T, (.slice none 0 0), (.slice none 0 0), vp_z_3], rdV Kd.i64 (.slice none 0 0) ([] : List Int), rdV K_api_Deviation (.slice none 0 0) ([] : List T_api_Deviation), rdV (Kd.sl Kd.u64) vp_z_3 p_z.W.Tapes, blkP (.pointer (some ⟨b3, 0, none⟩)) 32 [.int .u64 p_z.W.S.P, .int .i64 p_z.W.S.N, .int .i64 p_z.W.S.T, (.slice none 0 0), (.slice none 0 0), vp_z_3, .int .u8 p_z.Who, vp_z_4, (.slice none 0 0)], rdV (Kd.sl Kd.u64) vp_z_4 p_z.L, rdV Kd.u64 (.slice none 0 0) ([] : List Nat), blkP (.pointer (some ⟨b6, 0, none⟩)) 119 [.int .u64 r9.1.zw.S.P, .int .i64 r9.1.zw.S.N, .int .i64 r9.1.zw.S.T, w12__0_1, w12__0_2, w12__0_3, .int .i64 r9.1.zround, (th w12__2), w12__3], rdV Kd.i64 w12__0_1 r9.1.zw.Corrupt, rdV K_api_Deviation w12__0_2 r9.1.zw.Deviations, rdV (Kd.sl Kd.u64) w12__0_3 r9.1.zw.Tapes, treeV (rowK K_api_Event 67) 46 (th w12__2) (tg w12__2) r9.1.zviews, ownV Kd.any 137 w12__3 r9.1.ztapes, ownV (Kd.sl (Kd.sl Kd.u64)) 44 w15 r10, ownV (Kd.sl Kd.u64) 30 g1 l1, exF, rdV (Kd.sl Kd.u64) (γ 4 0) x4, rdV Kd.u64 (γ 7 0) x5, rdV (Kd.sl Kd.u64) (γ 13 0) x7, rdV Kd.u64 (γ 16 0) x8, ownV Kd.u64 22 (γ 21 0) ([r13] : List Nat), ownV Kd.u64 22 (γ 22 0) l5] ++ F) [0, 1, 2, 5, 8, 11, 14, 17, 23] tryd_mix Tb_ok kr kr (fun _ => by kernel_rfl) (fun _ => by kernel_rfl) (fun _ => by kernel_rfl) (fun _ => by kernel_rfl) (fun _ => by kernel_rfl) (fun _ => by kernel_rfl) (fun _ => by kernel_rfl) ?_ ?_
          ·
           refine ⟨?_, ?_, ?_, ?_, ?_, ?_, ?_, ?_, ?_, ?_, ?_, ?_, ?_, ?_, ?_, trivial⟩
           ·
            intro γ F
            refine WI.reH (H' := [ownV (Kd.sl (Kd.sl Kd.u64)) 44 w15 r10] ++ F) kr ?_
            refine w_ix (k := .i64) (own_hd 0 rfl) (nbd ex4) rfl kr ts_40 ti_44 ?_
            exact wE (gl []) [(0, false)] 0
           ·
            intro γ F
            refine WI.reH (H' := [ownV (Kd.sl (Kd.sl Kd.u64)) 44 w15 r10] ++ F) kr ?_
            refine w_ldO 0 0 rfl ex4 kr ti_44 rfl rfl ?_
            rintro v1
            exact wE (gl [v1]) [(0, true), (1, false)] 1
           ·
            intro γ F
            refine WI.reH (H' := [rdV (Kd.sl Kd.u64) (γ 4 0) x4] ++ F) kr ?_
            refine w_ix (k := .i64) (rd_hd 0 rfl) (nbd ex5) rfl kr ts_44 ti_30 ?_
            exact wE (gl []) [] 1
           ·
            intro γ F
            refine WI.reH (H' := [rdV (Kd.sl Kd.u64) (γ 4 0) x4] ++ F) kr ?_
            refine w_ldR 0 0 rfl ex5 kr ti_30 rfl rfl ?_
            rintro v2
            exact wE (gl [v2]) [(0, true)] 2
           ·
            intro γ F
            refine WI.reH (H' := [rdV Kd.u64 (γ 7 0) x5] ++ F) kr ?_
            refine w_ix (k := .i64) (rd_hd 0 rfl) (nbd ex6) rfl kr ts_30 ti_22 ?_
            exact wE (gl []) [] 1
           ·
            intro γ F
            refine WI.reH (H' := [rdV Kd.u64 (γ 7 0) x5] ++ F) kr ?_
            refine w_ldR 0 0 rfl ex6 kr ti_22 rfl rfl ?_
            rintro _
            exact wE (gl []) [] 1
           ·
            intro γ F
            refine WI.reH (H' := [ownV (Kd.sl (Kd.sl Kd.u64)) 44 w15 r10] ++ F) kr ?_
            refine w_ix (k := .i64) (own_hd 0 rfl) (nbd ex7) rfl kr ts_40 ti_44 ?_
            exact wE (gl []) [(0, false)] 0
           ·
            intro γ F
            refine WI.reH (H' := [ownV (Kd.sl (Kd.sl Kd.u64)) 44 w15 r10] ++ F) kr ?_
            refine w_ldO 0 0 rfl ex7 kr ti_44 rfl rfl ?_
            rintro v3
            exact wE (gl [v3]) [(0, true), (1, false)] 1
           ·
            intro γ F
            refine WI.reH (H' := [rdV (Kd.sl Kd.u64) (γ 13 0) x7] ++ F) kr ?_
            refine w_ix (k := .i64) (rd_hd 0 rfl) (nbd ex8) rfl kr ts_44 ti_30 ?_
            exact wE (gl []) [] 1
           ·
            intro γ F
            refine WI.reH (H' := [rdV (Kd.sl Kd.u64) (γ 13 0) x7] ++ F) kr ?_
            refine w_ldR 0 0 rfl ex8 kr ti_30 rfl rfl ?_
            rintro v4
            exact wE (gl [v4]) [(0, true)] 2
           ·
            intro γ F
            refine WI.reH (H' := [rdV Kd.u64 (γ 16 0) x8] ++ F) kr ?_
            refine w_ix (k := .i64) (rd_hd 0 rfl) (nbd ex9) rfl kr ts_30 ti_22 ?_
            exact wE (gl []) [] 1
           ·
            intro γ F
            refine WI.reH (H' := [rdV Kd.u64 (γ 16 0) x8] ++ F) kr ?_
            refine w_ldR 0 0 rfl ex9 kr ti_22 rfl rfl ?_
            rintro _
            exact wE (gl []) [] 1
           ·
            intro γ F
            refine WI.reH (H' := [] ++ F) kr ?_
            refine w_fn [] (c_privityref01_Add er13) rfl fok_34 kr ?_
            rintro _ _ ⟨hv, rfl⟩; have hv := hv.symm; subst hv
            exact wE (gl []) [] 0
           ·
            intro γ F
            refine WI.reH (H' := [] ++ F) kr ?_
            refine w_lt (kd := Kd.u64) (t := 30) (len := 1) (ps0 := [(0, .int .u64 r13)]) (ps := [(0, .int .u64 r13)]) ([r13] : List Nat) _ (rowC (x := r13) (g := ()) (it0 rfl) row0) (scI sc0) kr ts_30 ti_22 kr rfl rfl (fun v5 => ?_)
            exact wE (gl [v5]) [(0, false)] 0
           ·
            intro γ F
            refine WI.reH (H' := [ownV Kd.u64 22 g4 l3, ownV Kd.u64 22 (γ 21 0) ([r13] : List Nat)] ++ F) kr ?_
            refine w_app 0 rfl (own_src 1 rfl) el5 kr ts_30 ti_22 rfl (fun v6 => ?_)
            exact wE (gl [v6]) [(0, false), (0, false)] 0
          ·
           intro γ1
           refine qh_block_normal ?_
           refine qh_then ?_
           refine wh_region ?_
           refine w_p Tb_ok 1 kr ?_
           refine w_bi (zinc hk2 hN2) kr ?_
           refine w_p Tb_ok 1 kr ?_
           refine wi_end kr ?_
           have h27 := Option.some.inj h27; subst h27
           exact q_rs (γ1 22 0) hn2 aK (tH [(1, false), (1, true), (2, true), (3, true), (4, false), (4, true), (5, true), (6, false), (6, true), (7, true), (8, true), (9, false), (9, false), (9, false), (9, false), (15, false), (9, true)] 15)
        ·
         rintro g5 - j
         refine qh_then ?_
         refine wh_region ?_
         refine w_p Tb_ok 2 kr ?_
         refine WI.ent (frzAt 15 rfl) ?_
         refine w_lt (kd := (Kd.sl Kd.u64)) (t := 44) (len := 1) (ps0 := [(0, g5)]) (ps := [(0, .agg #[g5])]) ([l4] : List (List Nat)) _ (rowC (x := l4) (g := g5) (itS 0 rfl) row0) (scS (rd_hd 0 rfl) sc0) kr ts_44 ti_30 kr rfl rfl (fun v7 => ?_)
         obtain ⟨l6, el6, h28⟩ := bnd h18
         refine w_app 16 rfl (own_src 0 rfl) el6 kr ts_44 ti_30 rfl (fun v8 => ?_)
         refine w_p Tb_ok 1 kr ?_
         refine wi_end kr ?_
         refine qh_block_normal ?_
         refine qh_then ?_
         refine wh_region ?_
         refine w_p Tb_ok 1 kr ?_
         refine w_bi (zinc hk1 hN1) kr ?_
         refine w_p Tb_ok 1 kr ?_
         refine wi_end kr ?_
         have h28 := Option.some.inj h28; subst h28
         exact q_rs v8 hn1 aK (tH [(3, false), (3, true), (4, true), (5, true), (6, false), (6, true), (7, true), (8, false), (8, true), (9, true), (10, true), (11, false), (11, false), (11, false), (0, false), (10, true)] 11)
      ·
       rintro g2 - j
       refine qh_then ?_
       refine wh_seq ?_
       refine WH.ent (frzAt 14 rfl) ?_
       refine WH.ent (frzAt 13 rfl) ?_
       refine WH.ent (hd_add (tree_hdI (inP 13 rfl))) ?_
       obtain ⟨r14, er14, h29⟩ := bnd h15
       obtain ⟨x10, ex10, h30⟩ := bnd h29
       obtain ⟨x11, ex11, h31⟩ := bnd h30
       obtain ⟨r15, er15, h32⟩ := bnd h31
       refine h_flow [0, 0, 2, 0, 8, 24, 0, 64, 192, 0, 1016, 2047, 4095] ⟨17, [0, 0, 0, 0, 0, 1, 0, 0, 1, 0, 1, 3, 0], [(11, [(0, 10), (0, 14)])], [(1, [(0, 7)]), (4, [(0, 15)]), (5, [(0, 15)]), (7, [(0, 15)]), (8, [(0, 15)])], [(2, [(0, 4), (0, 5), (0, 6), (0, 8), (0, 9)]), (10, [(9, 0), (6, 0), (0, 2)]), (11, [(11, 0), (0, 1), (0, 11), (0, 12), (0, 13)])]⟩ (fun γ => [(.pointer (some ⟨b6, 0, none⟩)), .agg #[.int .u64 p_z.W.S.P, .int .i64 p_z.W.S.N, .int .i64 p_z.W.S.T, (.slice none 0 0), (.slice none 0 0), vp_z_3, .int .u8 p_z.Who, vp_z_4, (.slice none 0 0)], .int .i64 r14, w15, .pointer (some (elV w15 (0 * (Kd.sl (Kd.sl Kd.u64)).size))), (γ 5 0), w15, .pointer (some (elV w15 (1 * (Kd.sl (Kd.sl Kd.u64)).size))), (γ 8 0), g2, (γ 10 0), (γ 11 0), (γ 11 0)]) (fun i γ => match i with | 5 => [rdV (Kd.sl Kd.u64) (γ 5 0) x10] | 8 => [rdV (Kd.sl Kd.u64) (γ 8 0) x11] | 10 => [rdV (Kd.sl (Kd.sl Kd.u64)) (γ 10 0) ([x10, x11, l2] : List (List (List Nat)))] | 11 => [ownV (Kd.sl Kd.u64) 30 (γ 11 0) r15.1, blkP (.pointer (some ⟨b6, 0, none⟩)) 119 [.int .u64 r9.1.zw.S.P, .int .i64 r9.1.zw.S.N, .int .i64 r9.1.zw.S.T, w12__0_1, w12__0_2, w12__0_3, .int .i64 r15.2.1, (th (γ 11 1)), w12__3], treeV (rowK K_api_Event 67) 46 (th (γ 11 1)) (tg (γ 11 1)) r15.2.2] | _ => []) (fun γ => [hdP (th w12__2) r9.1.zviews.length, rdV Kd.any w12__3 r9.1.ztapes, rdV (Kd.sl Kd.u64) g2 l2, blkP (.pointer (some ⟨b2, 0, none⟩)) 29 [.int .u64 p_z.W.S.P, .int .i64 p_z.W.S.N, .int .i64 p_z.W.S.T, (.slice none 0 0), (.slice none 0 0), vp_z_3], rdV Kd.i64 (.slice none 0 0) ([] : List Int), rdV K_api_Deviation (.slice none 0 0) ([] : List T_api_Deviation), rdV (Kd.sl Kd.u64) vp_z_3 p_z.W.Tapes, blkP (.pointer (some ⟨b3, 0, none⟩)) 32 [.int .u64 p_z.W.S.P, .int .i64 p_z.W.S.N, .int .i64 p_z.W.S.T, (.slice none 0 0), (.slice none 0 0), vp_z_3, .int .u8 p_z.Who, vp_z_4, (.slice none 0 0)], rdV (Kd.sl Kd.u64) vp_z_4 p_z.L, rdV Kd.u64 (.slice none 0 0) ([] : List Nat), rdV Kd.i64 w12__0_1 r9.1.zw.Corrupt, rdV K_api_Deviation w12__0_2 r9.1.zw.Deviations, rdV (Kd.sl Kd.u64) w12__0_3 r9.1.zw.Tapes, ownV (Kd.sl (Kd.sl Kd.u64)) 44 w15 r10, exF, rdV (Kd.sl Kd.u64) (γ 5 0) x10, rdV (Kd.sl Kd.u64) (γ 8 0) x11, rdV (Kd.sl (Kd.sl Kd.u64)) (γ 10 0) ([x10, x11, l2] : List (List (List Nat))), ownV (Kd.sl Kd.u64) 30 (γ 11 0) r15.1, blkP (.pointer (some ⟨b6, 0, none⟩)) 119 [.int .u64 r9.1.zw.S.P, .int .i64 r9.1.zw.S.N, .int .i64 r9.1.zw.S.T, w12__0_1, w12__0_2, w12__0_3, .int .i64 r15.2.1, (th (γ 11 1)), w12__3], treeV (rowK K_api_Event 67) 46 (th (γ 11 1)) (tg (γ 11 1)) r15.2.2] ++ F) [0, 3, 6, 9, 12] tryd_mix Tb_ok kr kr (fun _ => by kernel_rfl) (fun _ => by kernel_rfl) (fun _ => by kernel_rfl) (fun _ => by kernel_rfl) (fun _ => by kernel_rfl) (fun _ => by kernel_rfl) (fun _ => by kernel_rfl) ?_ ?_
       ·
        refine ⟨?_, ?_, ?_, ?_, ?_, ?_, ?_, ?_, trivial⟩
        ·
         intro γ F
         refine WI.reH (H' := [blkP (.pointer (some ⟨b3, 0, none⟩)) 32 [.int .u64 p_z.W.S.P, .int .i64 p_z.W.S.N, .int .i64 p_z.W.S.T, (.slice none 0 0), (.slice none 0 0), vp_z_3, .int .u8 p_z.Who, vp_z_4, (.slice none 0 0)]] ++ F) kr ?_
         refine w_ldB 0 0 rfl kr ti_32 rfl rfl ?_
         exact wE (gl []) [(0, false)] 0
        ·
         intro γ F
         refine WI.reH (H' := [rdV Kd.i64 (.slice none 0 0) ([] : List Int), rdV K_api_Deviation (.slice none 0 0) ([] : List T_api_Deviation), rdV (Kd.sl Kd.u64) vp_z_3 p_z.W.Tapes, rdV (Kd.sl Kd.u64) vp_z_4 p_z.L, rdV Kd.u64 (.slice none 0 0) ([] : List Nat)] ++ F) kr ?_
         refine w_fn [(0, true), (1, true), (2, true), (3, true), (4, true)] (c_privitylaw47_who er14) rfl fok_26 kr ?_
         rintro _ _ ⟨hv, rfl⟩; have hv := hv.symm; subst hv
         exact wE (gl []) [] 5
        ·
         intro γ F
         refine WI.reH (H' := [ownV (Kd.sl (Kd.sl Kd.u64)) 44 w15 r10] ++ F) kr ?_
         refine w_ix (k := .i64) (own_hd 0 rfl) (nbd ex10) rfl kr ts_40 ti_44 ?_
         exact wE (gl []) [(0, false)] 0
        ·
         intro γ F
         refine WI.reH (H' := [ownV (Kd.sl (Kd.sl Kd.u64)) 44 w15 r10] ++ F) kr ?_
         refine w_ldO 0 0 rfl ex10 kr ti_44 rfl rfl ?_
         rintro v9
         exact wE (gl [v9]) [(0, true), (1, false)] 1
        ·
         intro γ F
         refine WI.reH (H' := [ownV (Kd.sl (Kd.sl Kd.u64)) 44 w15 r10] ++ F) kr ?_
         refine w_ix (k := .i64) (own_hd 0 rfl) (nbd ex11) rfl kr ts_40 ti_44 ?_
         exact wE (gl []) [(0, false)] 0
        ·
         intro γ F
         refine WI.reH (H' := [ownV (Kd.sl (Kd.sl Kd.u64)) 44 w15 r10] ++ F) kr ?_
         refine w_ldO 0 0 rfl ex11 kr ti_44 rfl rfl ?_
         rintro v10
         exact wE (gl [v10]) [(0, true), (1, false)] 1
        ·
         intro γ F
         refine WI.reH (H' := [rdV (Kd.sl Kd.u64) (γ 8 0) x11, rdV (Kd.sl Kd.u64) (γ 5 0) x10, rdV (Kd.sl Kd.u64) g2 l2] ++ F) kr ?_
         refine w_lt (kd := (Kd.sl (Kd.sl Kd.u64))) (t := 40) (len := 3) (ps0 := [(0, (γ 5 0)), (1, (γ 8 0)), (2, g2)]) (ps := [(0, .agg #[(γ 5 0)]), (1, .agg #[(γ 8 0)]), (2, .agg #[g2])]) ([x10, x11, l2] : List (List (List Nat))) _ (rowC (x := x10) (g := (γ 5 0)) (itS 1 rfl) (rowC (x := x11) (g := (γ 8 0)) (itS 0 rfl) (rowC (x := l2) (g := g2) (itS 2 rfl) row0))) (scS (rd_hd 1 rfl) (scS (rd_hd 0 rfl) (scS (rd_hd 2 rfl) sc0))) kr ts_40 ti_44 kr rfl rfl (fun v11 => ?_)
         refine WI.ent (frzAt 0 rfl) ?_
         exact wE (gl [v11]) [(0, true)] 4
        ·
         intro γ F
         refine WI.reH (H' := [blkP (.pointer (some ⟨b6, 0, none⟩)) 119 [.int .u64 r9.1.zw.S.P, .int .i64 r9.1.zw.S.N, .int .i64 r9.1.zw.S.T, w12__0_1, w12__0_2, w12__0_3, .int .i64 r9.1.zround, (th w12__2), w12__3], treeV (rowK K_api_Event 67) 46 (th w12__2) (tg w12__2) r9.1.zviews, rdV (Kd.sl (Kd.sl Kd.u64)) (γ 10 0) ([x10, x11, l2] : List (List (List Nat))), rdV Kd.any w12__3 r9.1.ztapes, rdV Kd.i64 w12__0_1 r9.1.zw.Corrupt, rdV K_api_Deviation w12__0_2 r9.1.zw.Deviations, rdV (Kd.sl Kd.u64) w12__0_3 r9.1.zw.Tapes] ++ F) kr ?_
         refine w_fn [(0, false), (3, true), (4, true), (5, true), (0, false), (1, true), (0, true)] (c_recovery_RecoverRows er15) rfl fok_25 kr ?_
         rintro _ _ ⟨w18, w20, hv, rfl⟩; have hv := hv.symm; subst hv
         exact wE (gl [w18, w20]) [(0, false), (0, false), (0, false)] 5
       ·
        intro γ2
        refine qh_then ?_
        refine wh_seq ?_
        refine wh_seq ?_
        refine wh_region ?_
        refine w_p Tb_ok 1 kr ?_
        refine w_len (own_hd 18 rfl) kr ts_27 ?_
        refine w_p Tb_ok 1 kr ?_
        refine wi_end kr ?_
        refine qh_then ?_
        rcases bcase h32 with ⟨t3, h33⟩ | ⟨t3, h33⟩
        ·
         refine h_ct (b := (((r15.1.length : Nat) : Int) != (3 : Int))) t3 kr ?_
         refine wh_seq ?_
         refine wh_region ?_
         refine w_p Tb_ok 1 kr ?_
         refine wi_end kr ?_
         refine qh_then ?_
         refine wh_ret ?_
         refine qh_then_ret ?_
         have h33 := Option.some.inj h33; subst h33
         exact q_end (l := [.bool false]) [] 21 ⟨rfl, rfl⟩ (.inl rfl) kr kr kr
        ·
         refine h_cf (b := (((r15.1.length : Nat) : Int) != (3 : Int))) t3 kr ?_
         refine wh_skip ?_
         refine qh_then ?_
         refine wh_seq ?_
         refine wh_seq ?_
         refine wh_region ?_
         refine w_p Tb_ok 1 kr ?_
         refine wi_end kr ?_
         refine qh_then ?_
         obtain ⟨u3, eu3, h34⟩ := bnd h33
         have hN3 := ckN_some eu3
         obtain ⟨r16, el3, h35⟩ := bnd h34
         refine h_join (X := Unit × Unit) (fun g => []) (fun g => [exF] ++ F) (fun g => r16 = .go g.2) ?_ ?_
         ·
          refine wh_block ?_
          refine h_rg (fun (k3 : Nat) (st : Unit) (g : Unit) => [(3, (.pointer (some ⟨b2, 0, none⟩))), (9, .int .u64 p_z.W.S.P), (14, (γ2 11 0)), (15, .int .i64 ((k3 : Nat) : Int))]) (fun (k3 : Nat) (st : Unit) (g : Unit) => [blkP (.pointer (some ⟨b2, 0, none⟩)) 29 [.int .u64 p_z.W.S.P, .int .i64 p_z.W.S.N, .int .i64 p_z.W.S.T, (.slice none 0 0), (.slice none 0 0), vp_z_3], rdV Kd.i64 (.slice none 0 0) ([] : List Int), rdV K_api_Deviation (.slice none 0 0) ([] : List T_api_Deviation), rdV (Kd.sl Kd.u64) vp_z_3 p_z.W.Tapes, ownV (Kd.sl Kd.u64) 30 (γ2 11 0) r15.1, exF] ++ F) () el3 (Nat.le_max_left ..) aK (tH [(3, false), (3, true), (4, true), (5, true), (17, false), (13, true)] 19) ?_ ?_
          ·
           rintro ⟨⟩ ⟨⟩ hr3 j
           refine wh_seq ?_
           refine wh_seq ?_
           refine wh_region ?_
           refine w_p Tb_ok 3 kr ?_
           refine w_ldB 0 2 rfl kr ti_3 rfl rfl ?_
           refine w_p Tb_ok 1 kr ?_
           refine wi_end kr ?_
           refine qh_then ?_
           refine h_cf (b := (decide ((((max 0 (p_z.W.S.T + 1).toNat) : Nat) : Int) ≤ p_z.W.S.T))) rgEF kr ?_
           refine wh_exit ?_
           refine qh_then_exit ?_
           refine q_rzX ?_
           refine qh_block_exit ?_
           exact q_join ((), ()) hr3 aK (tH [(5, true)] 6)
          ·
           rintro rem k3 ⟨⟩ ⟨⟩ o3 hk3 h36 hn3 j
           have h36 : privitylaw47_RecoveryLinear_L2 p_z r15 k3 = some o3 := h36
           unfold privitylaw47_RecoveryLinear_L2 at h36
           refine wh_seq ?_
           refine wh_seq ?_
           refine wh_region ?_
           refine w_p Tb_ok 3 kr ?_
           refine w_ldB 0 2 rfl kr ti_3 rfl rfl ?_
           refine w_p Tb_ok 1 kr ?_
           refine wi_end kr ?_
           refine qh_then ?_
           refine h_ct (b := (decide (((k3 : Nat) : Int) ≤ p_z.W.S.T))) (rgET hk3) kr ?_
           refine wh_skip ?_
           refine qh_then ?_
           refine wh_seq ?_
           refine wh_block ?_
           refine wh_seq ?_
           obtain ⟨x12, ex12, h37⟩ := bnd h36
           obtain ⟨x13, ex13, h38⟩ := bnd h37
           rcases bcase h38 with ⟨t4, h39⟩ | ⟨t4, h39⟩
           ·
            refine h_flow [0, 1, 3, 7, 0, 16, 48, 112, 255, 511, 1023, 2047, 4095, 8191, 1023, 17407, 50175, 115711, 262143, 524287, 1048575, 2097151, 4194303, 8388607, 16777215, 2097151, 35651583, 102760447, 236978175, 536870911, 1073741823, 2147483647, 4294967295, 8589934591, 17179869183, 4294967295, 68719476735, 137438953471, 4294967295, 4294967295, 554050781183, 1653562408959, 4294967295, 8250632175615, 17046725197823, 4294967295, 35188667056127, 105557411233791, 4294967295, 527769876299775, 1090719829721087, 2251529230745599, 4503599627370495, 9007199254740991] ⟨6, [0, 0, 1, 0, 0, 0, 0, 0, 0, 0, 0, 0, 0, 0, 0, 0, 0, 0, 0, 0, 0, 0, 0, 0, 0, 0, 0, 0, 0, 0, 0, 0, 0, 0, 0, 0, 0, 0, 0, 0, 0, 0, 0, 0, 0, 0, 0, 0, 0, 0, 0, 0, 0, 0], [], [(1, [(0, 4)]), (2, [(0, 4)]), (6, [(0, 0)])], [(3, [(3, 0)])]⟩ (fun γ => [(γ2 11 0), .pointer (some (elV (γ2 11 0) (0 * (Kd.sl Kd.u64).size))), (γ 2 0), .int .i64 ((x12.length : Nat) : Int), .pointer (some ⟨b2, 0, none⟩), .pointer (some ⟨b2, 2, none⟩), .int .i64 p_z.W.S.T, .int .i64 x13, .bool (((x12.length : Nat) : Int) != x13), .bool true, undef, undef, undef, undef, undef, undef, undef, undef, undef, .bool true, .bool true, undef, undef, undef, undef, undef, undef, undef, undef, undef, .bool true, .bool true, undef, undef, undef, undef, undef, undef, undef, undef, undef, undef, undef, undef, undef, undef, undef, undef, undef, undef, undef, undef, undef, .bool true]) (fun i γ => match i with | 2 => [rdV Kd.u64 (γ 2 0) x12] | _ => []) (fun γ => [blkP (.pointer (some ⟨b2, 0, none⟩)) 29 [.int .u64 p_z.W.S.P, .int .i64 p_z.W.S.N, .int .i64 p_z.W.S.T, (.slice none 0 0), (.slice none 0 0), vp_z_3], rdV Kd.i64 (.slice none 0 0) ([] : List Int), rdV K_api_Deviation (.slice none 0 0) ([] : List T_api_Deviation), rdV (Kd.sl Kd.u64) vp_z_3 p_z.W.Tapes, ownV (Kd.sl Kd.u64) 30 (γ2 11 0) r15.1, exF, rdV Kd.u64 (γ 2 0) x12] ++ F) [0, 4, 5, 8, 10, 11, 12, 13, 14, 15, 16, 17, 18, 19, 20, 21, 22, 23, 24, 25, 26, 27, 28, 29, 30, 31, 32, 33, 34, 35, 36, 37, 38, 39, 40, 41, 42, 43, 44, 45, 46, 47, 48, 49, 50, 51, 52, 53] tryd_mix Tb_ok kr kr (fun _ => by kernel_rfl) (fun _ => by kernel_rfl) (fun _ => by kernel_rfl) (fun _ => by kernel_rfl) (fun _ => by kernel_rfl) (fun _ => by kernel_rfl) (fun _ => by kernel_rfl) ?_ ?_
            ·
             refine ⟨?_, ?_, ?_, ?_, ?_, ?_, trivial⟩
             ·
              intro γ F
              refine WI.reH (H' := [ownV (Kd.sl Kd.u64) 30 (γ2 11 0) r15.1] ++ F) kr ?_
              refine w_ix (k := .i64) (own_hd 0 rfl) (nbd ex12) rfl kr ts_27 ti_30 ?_
              exact wE (gl []) [(0, false)] 0
             ·
              intro γ F
              refine WI.reH (H' := [ownV (Kd.sl Kd.u64) 30 (γ2 11 0) r15.1] ++ F) kr ?_
              refine w_ldO 0 0 rfl ex12 kr ti_30 rfl rfl ?_
              rintro v12
              exact wE (gl [v12]) [(0, true), (1, false)] 1
             ·
              intro γ F
              refine WI.reH (H' := [rdV Kd.u64 (γ 2 0) x12] ++ F) kr ?_
              refine w_len (rd_hd 0 rfl) kr ts_30 ?_
              exact wE (gl []) [] 1
             ·
              intro γ F
              refine WI.reH (H' := [blkP (.pointer (some ⟨b2, 0, none⟩)) 29 [.int .u64 p_z.W.S.P, .int .i64 p_z.W.S.N, .int .i64 p_z.W.S.T, (.slice none 0 0), (.slice none 0 0), vp_z_3]] ++ F) kr ?_
              refine w_ldB 0 2 rfl kr ti_3 rfl rfl ?_
              exact wE (gl []) [(0, false)] 0
             ·
              intro γ F
              refine WI.reH (H' := [] ++ F) kr ?_
              refine w_bi (zaddI ex13) kr ?_
              exact wE (gl []) [] 0
             ·
              intro γ F
              refine WI.reH (H' := [] ++ F) kr ?_
              refine w_pk Tb_ok (congrArg Value.bool t4) kr ?_
              exact wE (gl []) [] 0
            ·
             intro γ3
             refine qh_then ?_
             refine h_ct (b := true) rfl kr ?_
             refine wh_seq ?_
             refine wh_region ?_
             refine w_p Tb_ok 1 kr ?_
             refine wi_end kr ?_
             refine qh_then ?_
             refine wh_ret ?_
             refine qh_block_ret ?_
             refine qh_then_ret ?_
             refine q_rgR ?_
             refine qh_block_ret ?_
             refine q_joinR ?_
             refine qh_then_ret ?_
             have h39 := Option.some.inj h39; subst h39
             have hn := (show _ = _ from hn3); subst hn
             have h35 := Option.some.inj (show some _ = some _ from h35); subst h35
             exact q_end (l := [.bool false]) [] 7 ⟨rfl, rfl⟩ (.inl rfl) kr kr kr
           ·
            obtain ⟨x14, ex14, h40⟩ := bnd h39
            rcases bcase h40 with ⟨t5, h41⟩ | ⟨t5, h41⟩
            ·
             refine h_flow [0, 1, 3, 7, 0, 16, 48, 112, 255, 511, 1023, 2047, 4095, 8191, 1023, 17407, 50175, 115711, 262143, 524287, 1048575, 2097151, 4194303, 8388607, 16777215, 2097151, 35651583, 102760447, 236978175, 536870911, 1073741823, 2147483647, 4294967295, 8589934591, 17179869183, 4294967295, 68719476735, 137438953471, 4294967295, 4294967295, 554050781183, 1653562408959, 4294967295, 8250632175615, 17046725197823, 4294967295, 35188667056127, 105557411233791, 4294967295, 527769876299775, 1090719829721087, 2251529230745599, 4503599627370495, 9007199254740991] ⟨6, [0, 0, 1, 0, 0, 0, 0, 0, 0, 0, 0, 0, 1, 0, 0, 0, 0, 0, 0, 0, 0, 0, 0, 0, 0, 0, 0, 0, 0, 0, 0, 0, 0, 0, 0, 0, 0, 0, 0, 0, 0, 0, 0, 0, 0, 0, 0, 0, 0, 0, 0, 0, 0, 0], [], [(1, [(0, 4)]), (2, [(0, 4)]), (6, [(0, 0)]), (11, [(0, 4)]), (12, [(0, 4)]), (16, [(0, 0)])], [(3, [(3, 0)]), (13, [(13, 0)])]⟩ (fun γ => [(γ2 11 0), .pointer (some (elV (γ2 11 0) (0 * (Kd.sl Kd.u64).size))), (γ 2 0), .int .i64 ((x12.length : Nat) : Int), .pointer (some ⟨b2, 0, none⟩), .pointer (some ⟨b2, 2, none⟩), .int .i64 p_z.W.S.T, .int .i64 x13, .bool (((x12.length : Nat) : Int) != x13), .bool false, (γ2 11 0), .pointer (some (elV (γ2 11 0) (1 * (Kd.sl Kd.u64).size))), (γ 12 0), .int .i64 ((x14.length : Nat) : Int), .pointer (some ⟨b2, 0, none⟩), .pointer (some ⟨b2, 2, none⟩), .int .i64 p_z.W.S.T, .int .i64 x13, .bool (((x14.length : Nat) : Int) != x13), .bool (((x14.length : Nat) : Int) != x13), .bool true, undef, undef, undef, undef, undef, undef, undef, undef, undef, .bool true, .bool true, undef, undef, undef, undef, undef, undef, undef, undef, undef, undef, undef, undef, undef, undef, undef, undef, undef, undef, undef, undef, undef, .bool true]) (fun i γ => match i with | 2 => [rdV Kd.u64 (γ 2 0) x12] | 12 => [rdV Kd.u64 (γ 12 0) x14] | _ => []) (fun γ => [blkP (.pointer (some ⟨b2, 0, none⟩)) 29 [.int .u64 p_z.W.S.P, .int .i64 p_z.W.S.N, .int .i64 p_z.W.S.T, (.slice none 0 0), (.slice none 0 0), vp_z_3], rdV Kd.i64 (.slice none 0 0) ([] : List Int), rdV K_api_Deviation (.slice none 0 0) ([] : List T_api_Deviation), rdV (Kd.sl Kd.u64) vp_z_3 p_z.W.Tapes, ownV (Kd.sl Kd.u64) 30 (γ2 11 0) r15.1, exF, rdV Kd.u64 (γ 2 0) x12, rdV Kd.u64 (γ 12 0) x14] ++ F) [0, 4, 5, 8, 10, 14, 15, 18, 19, 21, 22, 23, 24, 25, 26, 27, 28, 29, 30, 31, 32, 33, 34, 35, 36, 37, 38, 39, 40, 41, 42, 43, 44, 45, 46, 47, 48, 49, 50, 51, 52, 53] tryd_mix Tb_ok kr kr (fun _ => by kernel_rfl) (fun _ => by kernel_rfl) (fun _ => by kernel_rfl) (fun _ => by kernel_rfl) (fun _ => by kernel_rfl) (fun _ => by kernel_rfl) (fun _ => by kernel_rfl) ?_ ?_
             ·
              refine ⟨?_, ?_, ?_, ?_, ?_, ?_, ?_, ?_, ?_, ?_, ?_, ?_, trivial⟩
              ·
               intro γ F
               refine WI.reH (H' := [ownV (Kd.sl Kd.u64) 30 (γ2 11 0) r15.1] ++ F) kr ?_
               refine w_ix (k := .i64) (own_hd 0 rfl) (nbd ex12) rfl kr ts_27 ti_30 ?_
               exact wE (gl []) [(0, false)] 0
              ·
               intro γ F
               refine WI.reH (H' := [ownV (Kd.sl Kd.u64) 30 (γ2 11 0) r15.1] ++ F) kr ?_
               refine w_ldO 0 0 rfl ex12 kr ti_30 rfl rfl ?_
               rintro v12
               exact wE (gl [v12]) [(0, true), (1, false)] 1
              ·
               intro γ F
               refine WI.reH (H' := [rdV Kd.u64 (γ 2 0) x12] ++ F) kr ?_
               refine w_len (rd_hd 0 rfl) kr ts_30 ?_
               exact wE (gl []) [] 1
              ·
               intro γ F
               refine WI.reH (H' := [blkP (.pointer (some ⟨b2, 0, none⟩)) 29 [.int .u64 p_z.W.S.P, .int .i64 p_z.W.S.N, .int .i64 p_z.W.S.T, (.slice none 0 0), (.slice none 0 0), vp_z_3]] ++ F) kr ?_
               refine w_ldB 0 2 rfl kr ti_3 rfl rfl ?_
               exact wE (gl []) [(0, false)] 0
              ·
               intro γ F
               refine WI.reH (H' := [] ++ F) kr ?_
               refine w_bi (zaddI ex13) kr ?_
               exact wE (gl []) [] 0
              ·
               intro γ F
               refine WI.reH (H' := [] ++ F) kr ?_
               refine w_pk Tb_ok (congrArg Value.bool t4) kr ?_
               exact wE (gl []) [] 0
              ·
               intro γ F
               refine WI.reH (H' := [ownV (Kd.sl Kd.u64) 30 (γ2 11 0) r15.1] ++ F) kr ?_
               refine w_ix (k := .i64) (own_hd 0 rfl) (nbd ex14) rfl kr ts_27 ti_30 ?_
               exact wE (gl []) [(0, false)] 0
              ·
               intro γ F
               refine WI.reH (H' := [ownV (Kd.sl Kd.u64) 30 (γ2 11 0) r15.1] ++ F) kr ?_
               refine w_ldO 0 0 rfl ex14 kr ti_30 rfl rfl ?_
               rintro v13
               exact wE (gl [v13]) [(0, true), (1, false)] 1
              ·
               intro γ F
               refine WI.reH (H' := [rdV Kd.u64 (γ 12 0) x14] ++ F) kr ?_
               refine w_len (rd_hd 0 rfl) kr ts_30 ?_
               exact wE (gl []) [] 1
              ·
               intro γ F
               refine WI.reH (H' := [blkP (.pointer (some ⟨b2, 0, none⟩)) 29 [.int .u64 p_z.W.S.P, .int .i64 p_z.W.S.N, .int .i64 p_z.W.S.T, (.slice none 0 0), (.slice none 0 0), vp_z_3]] ++ F) kr ?_
               refine w_ldB 0 2 rfl kr ti_3 rfl rfl ?_
               exact wE (gl []) [(0, false)] 0
              ·
               intro γ F
               refine WI.reH (H' := [] ++ F) kr ?_
               refine w_bi (zaddI ex13) kr ?_
               exact wE (gl []) [] 0
              ·
               intro γ F
               refine WI.reH (H' := [] ++ F) kr ?_
               refine w_pk Tb_ok (congrArg Value.bool t5) kr ?_
               exact wE (gl []) [] 0
             ·
              intro γ4
              refine qh_then ?_
              refine h_ct (b := true) rfl kr ?_
              refine wh_seq ?_
              refine wh_region ?_
              refine w_p Tb_ok 1 kr ?_
              refine wi_end kr ?_
              refine qh_then ?_
              refine wh_ret ?_
              refine qh_block_ret ?_
              refine qh_then_ret ?_
              refine q_rgR ?_
              refine qh_block_ret ?_
              refine q_joinR ?_
              refine qh_then_ret ?_
              have h41 := Option.some.inj h41; subst h41
              have hn := (show _ = _ from hn3); subst hn
              have h35 := Option.some.inj (show some _ = some _ from h35); subst h35
              exact q_end (l := [.bool false]) [] 8 ⟨rfl, rfl⟩ (.inl rfl) kr kr kr
            ·
             obtain ⟨x15, ex15, h42⟩ := bnd h41
             rcases bcase h42 with ⟨t6, h43⟩ | ⟨t6, h43⟩
             ·
              refine h_flow [0, 1, 3, 7, 0, 16, 48, 112, 255, 511, 1023, 2047, 4095, 8191, 1023, 17407, 50175, 115711, 262143, 524287, 1048575, 2097151, 4194303, 8388607, 16777215, 2097151, 35651583, 102760447, 236978175, 536870911, 1073741823, 2147483647, 4294967295, 8589934591, 17179869183, 4294967295, 68719476735, 137438953471, 4294967295, 4294967295, 554050781183, 1653562408959, 4294967295, 8250632175615, 17046725197823, 4294967295, 35188667056127, 105557411233791, 4294967295, 527769876299775, 1090719829721087, 2251529230745599, 4503599627370495, 9007199254740991] ⟨6, [0, 0, 1, 0, 0, 0, 0, 0, 0, 0, 0, 0, 1, 0, 0, 0, 0, 0, 0, 0, 0, 0, 0, 1, 0, 0, 0, 0, 0, 0, 0, 0, 0, 0, 0, 0, 0, 0, 0, 0, 0, 0, 0, 0, 0, 0, 0, 0, 0, 0, 0, 0, 0, 0], [], [(1, [(0, 4)]), (2, [(0, 4)]), (6, [(0, 0)]), (11, [(0, 4)]), (12, [(0, 4)]), (16, [(0, 0)]), (22, [(0, 4)]), (23, [(0, 4)]), (27, [(0, 0)])], [(3, [(3, 0)]), (13, [(13, 0)]), (24, [(24, 0)])]⟩ (fun γ => [(γ2 11 0), .pointer (some (elV (γ2 11 0) (0 * (Kd.sl Kd.u64).size))), (γ 2 0), .int .i64 ((x12.length : Nat) : Int), .pointer (some ⟨b2, 0, none⟩), .pointer (some ⟨b2, 2, none⟩), .int .i64 p_z.W.S.T, .int .i64 x13, .bool (((x12.length : Nat) : Int) != x13), .bool false, (γ2 11 0), .pointer (some (elV (γ2 11 0) (1 * (Kd.sl Kd.u64).size))), (γ 12 0), .int .i64 ((x14.length : Nat) : Int), .pointer (some ⟨b2, 0, none⟩), .pointer (some ⟨b2, 2, none⟩), .int .i64 p_z.W.S.T, .int .i64 x13, .bool (((x14.length : Nat) : Int) != x13), .bool (((x14.length : Nat) : Int) != x13), .bool false, (γ2 11 0), .pointer (some (elV (γ2 11 0) (2 * (Kd.sl Kd.u64).size))), (γ 23 0), .int .i64 ((x15.length : Nat) : Int), .pointer (some ⟨b2, 0, none⟩), .pointer (some ⟨b2, 2, none⟩), .int .i64 p_z.W.S.T, .int .i64 x13, .bool (((x15.length : Nat) : Int) != x13), .bool (((x15.length : Nat) : Int) != x13), .bool true, undef, undef, undef, undef, undef, undef, undef, undef, undef, undef, undef, undef, undef, undef, undef, undef, undef, undef, undef, undef, undef, .bool true]) (fun i γ => match i with | 2 => [rdV Kd.u64 (γ 2 0) x12] | 12 => [rdV Kd.u64 (γ 12 0) x14] | 23 => [rdV Kd.u64 (γ 23 0) x15] | _ => []) (fun γ => [blkP (.pointer (some ⟨b2, 0, none⟩)) 29 [.int .u64 p_z.W.S.P, .int .i64 p_z.W.S.N, .int .i64 p_z.W.S.T, (.slice none 0 0), (.slice none 0 0), vp_z_3], rdV Kd.i64 (.slice none 0 0) ([] : List Int), rdV K_api_Deviation (.slice none 0 0) ([] : List T_api_Deviation), rdV (Kd.sl Kd.u64) vp_z_3 p_z.W.Tapes, ownV (Kd.sl Kd.u64) 30 (γ2 11 0) r15.1, exF, rdV Kd.u64 (γ 2 0) x12, rdV Kd.u64 (γ 12 0) x14, rdV Kd.u64 (γ 23 0) x15] ++ F) [0, 4, 5, 8, 10, 14, 15, 18, 19, 21, 25, 26, 29, 30, 32, 33, 34, 35, 36, 37, 38, 39, 40, 41, 42, 43, 44, 45, 46, 47, 48, 49, 50, 51, 52, 53] tryd_mix Tb_ok kr kr (fun _ => by kernel_rfl) (fun _ => by kernel_rfl) (fun _ => by kernel_rfl) (fun _ => by kernel_rfl) (fun _ => by kernel_rfl) (fun _ => by kernel_rfl) (fun _ => by kernel_rfl) ?_ ?_
              ·
               refine ⟨?_, ?_, ?_, ?_, ?_, ?_, ?_, ?_, ?_, ?_, ?_, ?_, ?_, ?_, ?_, ?_, ?_, ?_, trivial⟩
               ·
                intro γ F
                refine WI.reH (H' := [ownV (Kd.sl Kd.u64) 30 (γ2 11 0) r15.1] ++ F) kr ?_
                refine w_ix (k := .i64) (own_hd 0 rfl) (nbd ex12) rfl kr ts_27 ti_30 ?_
                exact wE (gl []) [(0, false)] 0
               ·
                intro γ F
                refine WI.reH (H' := [ownV (Kd.sl Kd.u64) 30 (γ2 11 0) r15.1] ++ F) kr ?_
                refine w_ldO 0 0 rfl ex12 kr ti_30 rfl rfl ?_
                rintro v12
                exact wE (gl [v12]) [(0, true), (1, false)] 1
               ·
                intro γ F
                refine WI.reH (H' := [rdV Kd.u64 (γ 2 0) x12] ++ F) kr ?_
                refine w_len (rd_hd 0 rfl) kr ts_30 ?_
                exact wE (gl []) [] 1
               ·
                intro γ F
                refine WI.reH (H' := [blkP (.pointer (some ⟨b2, 0, none⟩)) 29 [.int .u64 p_z.W.S.P, .int .i64 p_z.W.S.N, .int .i64 p_z.W.S.T, (.slice none 0 0), (.slice none 0 0), vp_z_3]] ++ F) kr ?_
                refine w_ldB 0 2 rfl kr ti_3 rfl rfl ?_
                exact wE (gl []) [(0, false)] 0
               ·
                intro γ F
                refine WI.reH (H' := [] ++ F) kr ?_
                refine w_bi (zaddI ex13) kr ?_
                exact wE (gl []) [] 0
               ·
                intro γ F
                refine WI.reH (H' := [] ++ F) kr ?_
                refine w_pk Tb_ok (congrArg Value.bool t4) kr ?_
                exact wE (gl []) [] 0
               ·
                intro γ F
                refine WI.reH (H' := [ownV (Kd.sl Kd.u64) 30 (γ2 11 0) r15.1] ++ F) kr ?_
                refine w_ix (k := .i64) (own_hd 0 rfl) (nbd ex14) rfl kr ts_27 ti_30 ?_
                exact wE (gl []) [(0, false)] 0
               ·
                intro γ F
                refine WI.reH (H' := [ownV (Kd.sl Kd.u64) 30 (γ2 11 0) r15.1] ++ F) kr ?_
                refine w_ldO 0 0 rfl ex14 kr ti_30 rfl rfl ?_
                rintro v13
                exact wE (gl [v13]) [(0, true), (1, false)] 1
               ·
                intro γ F
                refine WI.reH (H' := [rdV Kd.u64 (γ 12 0) x14] ++ F) kr ?_
                refine w_len (rd_hd 0 rfl) kr ts_30 ?_
                exact wE (gl []) [] 1
               ·
                intro γ F
                refine WI.reH (H' := [blkP (.pointer (some ⟨b2, 0, none⟩)) 29 [.int .u64 p_z.W.S.P, .int .i64 p_z.W.S.N, .int .i64 p_z.W.S.T, (.slice none 0 0), (.slice none 0 0), vp_z_3]] ++ F) kr ?_
                refine w_ldB 0 2 rfl kr ti_3 rfl rfl ?_
                exact wE (gl []) [(0, false)] 0
               ·
                intro γ F
                refine WI.reH (H' := [] ++ F) kr ?_
                refine w_bi (zaddI ex13) kr ?_
                exact wE (gl []) [] 0
               ·
                intro γ F
                refine WI.reH (H' := [] ++ F) kr ?_
                refine w_pk Tb_ok (congrArg Value.bool t5) kr ?_
                exact wE (gl []) [] 0
               ·
                intro γ F
                refine WI.reH (H' := [ownV (Kd.sl Kd.u64) 30 (γ2 11 0) r15.1] ++ F) kr ?_
                refine w_ix (k := .i64) (own_hd 0 rfl) (nbd ex15) rfl kr ts_27 ti_30 ?_
                exact wE (gl []) [(0, false)] 0
               ·
                intro γ F
                refine WI.reH (H' := [ownV (Kd.sl Kd.u64) 30 (γ2 11 0) r15.1] ++ F) kr ?_
                refine w_ldO 0 0 rfl ex15 kr ti_30 rfl rfl ?_
                rintro v14
                exact wE (gl [v14]) [(0, true), (1, false)] 1
               ·
                intro γ F
                refine WI.reH (H' := [rdV Kd.u64 (γ 23 0) x15] ++ F) kr ?_
                refine w_len (rd_hd 0 rfl) kr ts_30 ?_
                exact wE (gl []) [] 1
               ·
                intro γ F
                refine WI.reH (H' := [blkP (.pointer (some ⟨b2, 0, none⟩)) 29 [.int .u64 p_z.W.S.P, .int .i64 p_z.W.S.N, .int .i64 p_z.W.S.T, (.slice none 0 0), (.slice none 0 0), vp_z_3]] ++ F) kr ?_
                refine w_ldB 0 2 rfl kr ti_3 rfl rfl ?_
                exact wE (gl []) [(0, false)] 0
               ·
                intro γ F
                refine WI.reH (H' := [] ++ F) kr ?_
                refine w_bi (zaddI ex13) kr ?_
                exact wE (gl []) [] 0
               ·
                intro γ F
                refine WI.reH (H' := [] ++ F) kr ?_
                refine w_pk Tb_ok (congrArg Value.bool t6) kr ?_
                exact wE (gl []) [] 0
              ·
               intro γ5
               refine qh_then ?_
               refine h_ct (b := true) rfl kr ?_
               refine wh_seq ?_
               refine wh_region ?_
               refine w_p Tb_ok 1 kr ?_
               refine wi_end kr ?_
               refine qh_then ?_
               refine wh_ret ?_
               refine qh_block_ret ?_
               refine qh_then_ret ?_
               refine q_rgR ?_
               refine qh_block_ret ?_
               refine q_joinR ?_
               refine qh_then_ret ?_
               have h43 := Option.some.inj h43; subst h43
               have hn := (show _ = _ from hn3); subst hn
               have h35 := Option.some.inj (show some _ = some _ from h35); subst h35
               exact q_end (l := [.bool false]) [] 9 ⟨rfl, rfl⟩ (.inl rfl) kr kr kr
             ·
              obtain ⟨x16, ex16, h44⟩ := bnd h43
              obtain ⟨x17, ex17, h45⟩ := bnd h44
              obtain ⟨x18, ex18, h46⟩ := bnd h45
              obtain ⟨r17, er17, h47⟩ := bnd h46
              refine h_flow [0, 1, 3, 7, 0, 16, 48, 112, 255, 511, 1023, 2047, 4095, 8191, 1023, 17407, 50175, 115711, 262143, 524287, 1048575, 2097151, 4194303, 8388607, 16777215, 2097151, 35651583, 102760447, 236978175, 536870911, 1073741823, 2147483647, 4294967295, 8589934591, 17179869183, 4294967295, 68719476735, 137438953471, 4294967295, 4294967295, 554050781183, 1653562408959, 4294967295, 8250632175615, 17046725197823, 4294967295, 35188667056127, 105557411233791, 4294967295, 527769876299775, 1090719829721087, 2251529230745599, 4503599627370495, 9007199254740991] ⟨6, [0, 0, 1, 0, 0, 0, 0, 0, 0, 0, 0, 0, 1, 0, 0, 0, 0, 0, 0, 0, 0, 0, 0, 1, 0, 0, 0, 0, 0, 0, 0, 0, 0, 0, 1, 0, 0, 0, 0, 0, 0, 1, 0, 0, 0, 0, 0, 1, 0, 0, 0, 0, 0, 0], [], [(1, [(0, 4)]), (2, [(0, 4)]), (6, [(0, 0)]), (11, [(0, 4)]), (12, [(0, 4)]), (16, [(0, 0)]), (22, [(0, 4)]), (23, [(0, 4)]), (27, [(0, 0)]), (33, [(0, 4)]), (34, [(0, 4)]), (40, [(0, 4)]), (41, [(0, 4)]), (46, [(0, 4)]), (47, [(0, 4)])], [(3, [(3, 0)]), (13, [(13, 0)]), (24, [(24, 0)]), (36, [(35, 0)]), (37, [(35, 0)]), (43, [(42, 0)]), (44, [(42, 0)]), (49, [(48, 0)]), (50, [(48, 0)])]⟩ (fun γ => [(γ2 11 0), .pointer (some (elV (γ2 11 0) (0 * (Kd.sl Kd.u64).size))), (γ 2 0), .int .i64 ((x12.length : Nat) : Int), .pointer (some ⟨b2, 0, none⟩), .pointer (some ⟨b2, 2, none⟩), .int .i64 p_z.W.S.T, .int .i64 x13, .bool (((x12.length : Nat) : Int) != x13), .bool false, (γ2 11 0), .pointer (some (elV (γ2 11 0) (1 * (Kd.sl Kd.u64).size))), (γ 12 0), .int .i64 ((x14.length : Nat) : Int), .pointer (some ⟨b2, 0, none⟩), .pointer (some ⟨b2, 2, none⟩), .int .i64 p_z.W.S.T, .int .i64 x13, .bool (((x14.length : Nat) : Int) != x13), .bool (((x14.length : Nat) : Int) != x13), .bool false, (γ2 11 0), .pointer (some (elV (γ2 11 0) (2 * (Kd.sl Kd.u64).size))), (γ 23 0), .int .i64 ((x15.length : Nat) : Int), .pointer (some ⟨b2, 0, none⟩), .pointer (some ⟨b2, 2, none⟩), .int .i64 p_z.W.S.T, .int .i64 x13, .bool (((x15.length : Nat) : Int) != x13), .bool (((x15.length : Nat) : Int) != x13), .bool false, (γ2 11 0), .pointer (some (elV (γ2 11 0) (2 * (Kd.sl Kd.u64).size))), (γ 34 0), .int .i64 ((k3 : Nat) : Int), .pointer (some (elV (γ 34 0) (k3 * Kd.u64.size))), .int .u64 x16, .int .u64 p_z.W.S.P, (γ2 11 0), .pointer (some (elV (γ2 11 0) (0 * (Kd.sl Kd.u64).size))), (γ 41 0), .int .i64 ((k3 : Nat) : Int), .pointer (some (elV (γ 41 0) (k3 * Kd.u64.size))), .int .u64 x17, (γ2 11 0), .pointer (some (elV (γ2 11 0) (1 * (Kd.sl Kd.u64).size))), (γ 47 0), .int .i64 ((k3 : Nat) : Int), .pointer (some (elV (γ 47 0) (k3 * Kd.u64.size))), .int .u64 x18, .int .u64 r17, .bool (((x16 : Nat) : Int) != ((r17 : Nat) : Int)), .bool (((x16 : Nat) : Int) != ((r17 : Nat) : Int))]) (fun i γ => match i with | 2 => [rdV Kd.u64 (γ 2 0) x12] | 12 => [rdV Kd.u64 (γ 12 0) x14] | 23 => [rdV Kd.u64 (γ 23 0) x15] | 34 => [rdV Kd.u64 (γ 34 0) x15] | 41 => [rdV Kd.u64 (γ 41 0) x12] | 47 => [rdV Kd.u64 (γ 47 0) x14] | _ => []) (fun γ => [blkP (.pointer (some ⟨b2, 0, none⟩)) 29 [.int .u64 p_z.W.S.P, .int .i64 p_z.W.S.N, .int .i64 p_z.W.S.T, (.slice none 0 0), (.slice none 0 0), vp_z_3], rdV Kd.i64 (.slice none 0 0) ([] : List Int), rdV K_api_Deviation (.slice none 0 0) ([] : List T_api_Deviation), rdV (Kd.sl Kd.u64) vp_z_3 p_z.W.Tapes, ownV (Kd.sl Kd.u64) 30 (γ2 11 0) r15.1, exF, rdV Kd.u64 (γ 2 0) x12, rdV Kd.u64 (γ 12 0) x14, rdV Kd.u64 (γ 23 0) x15, rdV Kd.u64 (γ 34 0) x15, rdV Kd.u64 (γ 41 0) x12, rdV Kd.u64 (γ 47 0) x14] ++ F) [0, 4, 5, 8, 10, 14, 15, 18, 19, 21, 25, 26, 29, 30, 32, 35, 38, 39, 42, 45, 48, 52, 53] tryd_mix Tb_ok kr kr (fun _ => by kernel_rfl) (fun _ => by kernel_rfl) (fun _ => by kernel_rfl) (fun _ => by kernel_rfl) (fun _ => by kernel_rfl) (fun _ => by kernel_rfl) (fun _ => by kernel_rfl) ?_ ?_
              ·
               refine ⟨?_, ?_, ?_, ?_, ?_, ?_, ?_, ?_, ?_, ?_, ?_, ?_, ?_, ?_, ?_, ?_, ?_, ?_, ?_, ?_, ?_, ?_, ?_, ?_, ?_, ?_, ?_, ?_, ?_, ?_, ?_, trivial⟩
               ·
                intro γ F
                refine WI.reH (H' := [ownV (Kd.sl Kd.u64) 30 (γ2 11 0) r15.1] ++ F) kr ?_
                refine w_ix (k := .i64) (own_hd 0 rfl) (nbd ex12) rfl kr ts_27 ti_30 ?_
                exact wE (gl []) [(0, false)] 0
               ·
                intro γ F
                refine WI.reH (H' := [ownV (Kd.sl Kd.u64) 30 (γ2 11 0) r15.1] ++ F) kr ?_
                refine w_ldO 0 0 rfl ex12 kr ti_30 rfl rfl ?_
                rintro v12
                exact wE (gl [v12]) [(0, true), (1, false)] 1
               ·
                intro γ F
                refine WI.reH (H' := [rdV Kd.u64 (γ 2 0) x12] ++ F) kr ?_
                refine w_len (rd_hd 0 rfl) kr ts_30 ?_
                exact wE (gl []) [] 1
               ·
                intro γ F
                refine WI.reH (H' := [blkP (.pointer (some ⟨b2, 0, none⟩)) 29 [.int .u64 p_z.W.S.P, .int .i64 p_z.W.S.N, .int .i64 p_z.W.S.T, (.slice none 0 0), (.slice none 0 0), vp_z_3]] ++ F) kr ?_
                refine w_ldB 0 2 rfl kr ti_3 rfl rfl ?_
                exact wE (gl []) [(0, false)] 0
               ·
                intro γ F
                refine WI.reH (H' := [] ++ F) kr ?_
                refine w_bi (zaddI ex13) kr ?_
                exact wE (gl []) [] 0
               ·
                intro γ F
                refine WI.reH (H' := [] ++ F) kr ?_
                refine w_pk Tb_ok (congrArg Value.bool t4) kr ?_
                exact wE (gl []) [] 0
               ·
                intro γ F
                refine WI.reH (H' := [ownV (Kd.sl Kd.u64) 30 (γ2 11 0) r15.1] ++ F) kr ?_
                refine w_ix (k := .i64) (own_hd 0 rfl) (nbd ex14) rfl kr ts_27 ti_30 ?_
                exact wE (gl []) [(0, false)] 0
               ·
                intro γ F
                refine WI.reH (H' := [ownV (Kd.sl Kd.u64) 30 (γ2 11 0) r15.1] ++ F) kr ?_
                refine w_ldO 0 0 rfl ex14 kr ti_30 rfl rfl ?_
                rintro v13
                exact wE (gl [v13]) [(0, true), (1, false)] 1
               ·
                intro γ F
                refine WI.reH (H' := [rdV Kd.u64 (γ 12 0) x14] ++ F) kr ?_
                refine w_len (rd_hd 0 rfl) kr ts_30 ?_
                exact wE (gl []) [] 1
               ·
                intro γ F
                refine WI.reH (H' := [blkP (.pointer (some ⟨b2, 0, none⟩)) 29 [.int .u64 p_z.W.S.P, .int .i64 p_z.W.S.N, .int .i64 p_z.W.S.T, (.slice none 0 0), (.slice none 0 0), vp_z_3]] ++ F) kr ?_
                refine w_ldB 0 2 rfl kr ti_3 rfl rfl ?_
                exact wE (gl []) [(0, false)] 0
               ·
                intro γ F
                refine WI.reH (H' := [] ++ F) kr ?_
                refine w_bi (zaddI ex13) kr ?_
                exact wE (gl []) [] 0
               ·
                intro γ F
                refine WI.reH (H' := [] ++ F) kr ?_
                refine w_pk Tb_ok (congrArg Value.bool t5) kr ?_
                exact wE (gl []) [] 0
               ·
                intro γ F
                refine WI.reH (H' := [ownV (Kd.sl Kd.u64) 30 (γ2 11 0) r15.1] ++ F) kr ?_
                refine w_ix (k := .i64) (own_hd 0 rfl) (nbd ex15) rfl kr ts_27 ti_30 ?_
                exact wE (gl []) [(0, false)] 0
               ·
                intro γ F
                refine WI.reH (H' := [ownV (Kd.sl Kd.u64) 30 (γ2 11 0) r15.1] ++ F) kr ?_
                refine w_ldO 0 0 rfl ex15 kr ti_30 rfl rfl ?_
                rintro v14
                exact wE (gl [v14]) [(0, true), (1, false)] 1
               ·
                intro γ F
                refine WI.reH (H' := [rdV Kd.u64 (γ 23 0) x15] ++ F) kr ?_
                refine w_len (rd_hd 0 rfl) kr ts_30 ?_
                exact wE (gl []) [] 1
               ·
                intro γ F
                refine WI.reH (H' := [blkP (.pointer (some ⟨b2, 0, none⟩)) 29 [.int .u64 p_z.W.S.P, .int .i64 p_z.W.S.N, .int .i64 p_z.W.S.T, (.slice none 0 0), (.slice none 0 0), vp_z_3]] ++ F) kr ?_
                refine w_ldB 0 2 rfl kr ti_3 rfl rfl ?_
                exact wE (gl []) [(0, false)] 0
               ·
                intro γ F
                refine WI.reH (H' := [] ++ F) kr ?_
                refine w_bi (zaddI ex13) kr ?_
                exact wE (gl []) [] 0
               ·
                intro γ F
                refine WI.reH (H' := [] ++ F) kr ?_
                refine w_pk Tb_ok (congrArg Value.bool t6) kr ?_
                exact wE (gl []) [] 0
               ·
                intro γ F
                refine WI.reH (H' := [ownV (Kd.sl Kd.u64) 30 (γ2 11 0) r15.1] ++ F) kr ?_
                refine w_ix (k := .i64) (own_hd 0 rfl) (nbd ex15) rfl kr ts_27 ti_30 ?_
                exact wE (gl []) [(0, false)] 0
               ·
                intro γ F
                refine WI.reH (H' := [ownV (Kd.sl Kd.u64) 30 (γ2 11 0) r15.1] ++ F) kr ?_
                refine w_ldO 0 0 rfl ex15 kr ti_30 rfl rfl ?_
                rintro v15
                exact wE (gl [v15]) [(0, true), (1, false)] 1
               ·
                intro γ F
                refine WI.reH (H' := [rdV Kd.u64 (γ 34 0) x15] ++ F) kr ?_
                refine w_ix (k := .i64) (rd_hd 0 rfl) (nbd ex16) rfl kr ts_30 ti_22 ?_
                exact wE (gl []) [] 1
               ·
                intro γ F
                refine WI.reH (H' := [rdV Kd.u64 (γ 34 0) x15] ++ F) kr ?_
                refine w_ldR 0 0 rfl ex16 kr ti_22 rfl rfl ?_
                rintro _
                exact wE (gl []) [] 1
               ·
                intro γ F
                refine WI.reH (H' := [ownV (Kd.sl Kd.u64) 30 (γ2 11 0) r15.1] ++ F) kr ?_
                refine w_ix (k := .i64) (own_hd 0 rfl) (nbd ex12) rfl kr ts_27 ti_30 ?_
                exact wE (gl []) [(0, false)] 0
               ·
                intro γ F
                refine WI.reH (H' := [ownV (Kd.sl Kd.u64) 30 (γ2 11 0) r15.1] ++ F) kr ?_
                refine w_ldO 0 0 rfl ex12 kr ti_30 rfl rfl ?_
                rintro v16
                exact wE (gl [v16]) [(0, true), (1, false)] 1
               ·
                intro γ F
                refine WI.reH (H' := [rdV Kd.u64 (γ 41 0) x12] ++ F) kr ?_
                refine w_ix (k := .i64) (rd_hd 0 rfl) (nbd ex17) rfl kr ts_30 ti_22 ?_
                exact wE (gl []) [] 1
               ·
                intro γ F
                refine WI.reH (H' := [rdV Kd.u64 (γ 41 0) x12] ++ F) kr ?_
                refine w_ldR 0 0 rfl ex17 kr ti_22 rfl rfl ?_
                rintro _
                exact wE (gl []) [] 1
               ·
                intro γ F
                refine WI.reH (H' := [ownV (Kd.sl Kd.u64) 30 (γ2 11 0) r15.1] ++ F) kr ?_
                refine w_ix (k := .i64) (own_hd 0 rfl) (nbd ex14) rfl kr ts_27 ti_30 ?_
                exact wE (gl []) [(0, false)] 0
               ·
                intro γ F
                refine WI.reH (H' := [ownV (Kd.sl Kd.u64) 30 (γ2 11 0) r15.1] ++ F) kr ?_
                refine w_ldO 0 0 rfl ex14 kr ti_30 rfl rfl ?_
                rintro v17
                exact wE (gl [v17]) [(0, true), (1, false)] 1
               ·
                intro γ F
                refine WI.reH (H' := [rdV Kd.u64 (γ 47 0) x14] ++ F) kr ?_
                refine w_ix (k := .i64) (rd_hd 0 rfl) (nbd ex18) rfl kr ts_30 ti_22 ?_
                exact wE (gl []) [] 1
               ·
                intro γ F
                refine WI.reH (H' := [rdV Kd.u64 (γ 47 0) x14] ++ F) kr ?_
                refine w_ldR 0 0 rfl ex18 kr ti_22 rfl rfl ?_
                rintro _
                exact wE (gl []) [] 1
               ·
                intro γ F
                refine WI.reH (H' := [] ++ F) kr ?_
                refine w_fn [] (c_privityref01_Add er17) rfl fok_34 kr ?_
                rintro _ _ ⟨hv, rfl⟩; have hv := hv.symm; subst hv
                exact wE (gl []) [] 0
              ·
               intro γ6
               refine qh_then ?_
               rcases bcase h47 with ⟨t7, h48⟩ | ⟨t7, h48⟩
               ·
                refine h_ct (b := (((x16 : Nat) : Int) != ((r17 : Nat) : Int))) t7 kr ?_
                refine wh_seq ?_
                refine wh_region ?_
                refine w_p Tb_ok 1 kr ?_
                refine wi_end kr ?_
                refine qh_then ?_
                refine wh_ret ?_
                refine qh_block_ret ?_
                refine qh_then_ret ?_
                refine q_rgR ?_
                refine qh_block_ret ?_
                refine q_joinR ?_
                refine qh_then_ret ?_
                have h48 := Option.some.inj h48; subst h48
                have hn := (show _ = _ from hn3); subst hn
                have h35 := Option.some.inj (show some _ = some _ from h35); subst h35
                exact q_end (l := [.bool false]) [] 12 ⟨rfl, rfl⟩ (.inl rfl) kr kr kr
               ·
                refine h_cf (b := (((x16 : Nat) : Int) != ((r17 : Nat) : Int))) t7 kr ?_
                refine wh_skip ?_
                refine qh_block_normal ?_
                refine qh_then ?_
                refine wh_region ?_
                refine w_p Tb_ok 1 kr ?_
                refine w_bi (zinc hk3 hN3) kr ?_
                refine w_p Tb_ok 1 kr ?_
                refine wi_end kr ?_
                have h48 := Option.some.inj h48; subst h48
                exact q_rgo () hn3 aK (tH [(0, false), (0, true), (1, true), (2, true), (3, false), (3, true)] 10)
         ·
          rintro ⟨⟨⟩, ⟨⟩⟩ hc j
          subst hc
          refine qh_then ?_
          refine wh_seq ?_
          refine wh_region ?_
          obtain ⟨r18, er18, h49⟩ := bnd h35
          refine w_fn [(0, true)] (c_privitylaw47_awake er18) rfl fok_22 kr ?_
          rintro _ _ ⟨hv, rfl⟩; have hv := hv.symm; subst hv
          refine w_p Tb_ok 1 kr ?_
          refine wi_end kr ?_
          refine qh_then ?_
          refine wh_ret ?_
          have h49 := Option.some.inj h49; subst h49
          exact q_end (l := [.bool r18]) [] 1 ⟨rfl, rfl⟩ (.inl rfl) kr kr kr
end Go.Proofs.YtclhpomlfadohaaDoor
