/- Contracts of Go functions, one theorem each: the call returns just what the plain function says. Printed by a program of this claim. -/
import Derived.Test.YtclhpomlfadohaaDoorKDc1
set_option linter.unusedVariables false
namespace Go.Proofs.YtclhpomlfadohaaDoor
open Go Gv Gw Pu
set_option maxHeartbeats 4000000
theorem c_privitylaw20_plane_at {p_r : T_privitylaw20_plane} {p_x : Nat} {r : (List Nat)} (h : privitylaw20_plane_at p_r p_x = some r) : Ct Tryd.prog 46 [.agg #[.int .u64 p_r.zp, .int .u64 p_r.za, .int .u64 p_r.zb, .int .u64 p_r.zc], .int .u64 p_x] [] (fun v L => ∃ w0 : Value, v = w0 ∧ L = [ownV Kd.u64 22 w0 r]) := by
 refine ct_intro Tryd.func46 rfl kr (fun F => ?_)
 unfold privitylaw20_plane_at at h
 refine wh_seq ?_
 refine wh_region ?_
 refine w_box (t := 73) (v := .agg #[.int .u64 p_r.zp, .int .u64 p_r.za, .int .u64 p_r.zb, .int .u64 p_r.zc]) (cs := [.int .u64 p_r.zp, .int .u64 p_r.za, .int .u64 p_r.zb, .int .u64 p_r.zc]) (cv0 kr) kr (fun q1 => ?_)
 refine WI.hd (y := blkP q1 73 [.int .u64 p_r.zp, .int .u64 p_r.za, .int .u64 p_r.zb, .int .u64 p_r.zc]) kr ?_
 refine w_opP 0 rfl (fun b1 hb => ?_)
 subst hb
 refine w_p Tb_ok 1 kr ?_
 refine wi_end kr ?_
 refine qh_then ?_
 refine wh_seq ?_
 refine wh_region ?_
 refine w_p Tb_ok 1 kr ?_
 refine w_ldB 0 0 rfl kr ti_22 rfl rfl ?_
 refine w_p Tb_ok 1 kr ?_
 refine w_ldB 0 1 rfl kr ti_22 rfl rfl ?_
 refine w_p Tb_ok 1 kr ?_
 refine w_ldB 0 2 rfl kr ti_22 rfl rfl ?_
 refine w_lt (kd := Kd.u64) (t := 30) (len := 2) (ps0 := [(0, .int .u64 p_r.za), (1, .int .u64 p_r.zb)]) (ps := [(0, .int .u64 p_r.za), (1, .int .u64 p_r.zb)]) ([p_r.za, p_r.zb] : List Nat) _ (rowC (x := p_r.za) (g := ()) (it0 rfl) (rowC (x := p_r.zb) (g := ()) (it0 rfl) row0)) (scI (scI sc0)) kr ts_30 ti_22 kr rfl rfl (fun v1 => ?_)
 refine w_p Tb_ok 1 kr ?_
 refine WI.ent (frzAt 0 rfl) ?_
 obtain ⟨r1, er1, h1⟩ := bnd h
 refine w_fn [(0, true)] (c_privityref04_Eval er1) rfl fok_44 kr ?_
 rintro _ _ ⟨hv, rfl⟩; have hv := hv.symm; subst hv
 refine w_p Tb_ok 1 kr ?_
 refine wi_end kr ?_
 refine qh_then ?_
 refine wh_seq ?_
 refine wh_region ?_
 refine w_p Tb_ok 1 kr ?_
 refine w_ldB 1 0 rfl kr ti_22 rfl rfl ?_
 refine w_p Tb_ok 1 kr ?_
 refine w_ldB 1 2 rfl kr ti_22 rfl rfl ?_
 refine w_p Tb_ok 1 kr ?_
 refine w_ldB 1 3 rfl kr ti_22 rfl rfl ?_
 refine w_lt (kd := Kd.u64) (t := 30) (len := 2) (ps0 := [(0, .int .u64 p_r.zb), (1, .int .u64 p_r.zc)]) (ps := [(0, .int .u64 p_r.zb), (1, .int .u64 p_r.zc)]) ([p_r.zb, p_r.zc] : List Nat) _ (rowC (x := p_r.zb) (g := ()) (it0 rfl) (rowC (x := p_r.zc) (g := ()) (it0 rfl) row0)) (scI (scI sc0)) kr ts_30 ti_22 kr rfl rfl (fun v2 => ?_)
 refine w_p Tb_ok 1 kr ?_
 refine WI.ent (frzAt 0 rfl) ?_
 obtain ⟨r2, er2, h2⟩ := bnd h1
 refine w_fn [(0, true)] (c_privityref04_Eval er2) rfl fok_44 kr ?_
 rintro _ _ ⟨hv, rfl⟩; have hv := hv.symm; subst hv
 refine w_p Tb_ok 1 kr ?_
 refine wi_end kr ?_
 refine qh_then ?_
 refine wh_seq ?_
 refine wh_region ?_
 refine w_p Tb_ok 2 kr ?_
 refine w_lt (kd := Kd.u64) (t := 30) (len := 2) (ps0 := [(0, .int .u64 r1), (1, .int .u64 r2)]) (ps := [(0, .int .u64 r1), (1, .int .u64 r2)]) ([r1, r2] : List Nat) _ (rowC (x := r1) (g := ()) (it0 rfl) (rowC (x := r2) (g := ()) (it0 rfl) row0)) (scI (scI sc0)) kr ts_30 ti_22 kr rfl rfl (fun v3 => ?_)
 refine w_p Tb_ok 1 kr ?_
 refine wi_end kr ?_
 refine qh_then ?_
 refine wh_ret ?_
 have h2 := Option.some.inj h2; subst h2
 exact q_end (l := [v3]) [(0, false)] 3 ⟨v3, rfl, rfl⟩ (.inl rfl) kr kr kr
theorem c_slices_Grow_Luint64_uint64_nil {p_n : Int} {r : (List Nat)} (h : slices_Grow_Luint64_uint64_nil p_n = some r) : Ct Tryd.prog 107 [(.slice none 0 0), .int .i64 p_n] [] (fun v L => ∃ w0 : Value, v = w0 ∧ L = [ownV Kd.u64 22 w0 r]) := by
 refine ct_intro Tryd.func107 rfl kr (fun F => ?_)
 unfold slices_Grow_Luint64_uint64_nil at h
 refine wh_seq ?_
 refine wh_region ?_
 refine w_p Tb_ok 1 kr ?_
 refine wi_end kr ?_
 refine qh_then ?_
 refine wh_seq ?_
 refine wh_seq ?_
 refine wh_region ?_
 refine w_p Tb_ok 2 kr ?_
 refine wi_end kr ?_
 refine qh_then ?_
 rcases bcase h with ⟨t1, h1⟩ | ⟨t1, h1⟩
 ·
  refine h_ct (b := (decide (p_n < (0 : Int)))) t1 kr ?_
  refine wh_region ?_
  cases h1
 ·
  refine h_cf (b := (decide (p_n < (0 : Int)))) t1 kr ?_
  refine wh_skip ?_
  refine qh_then ?_
  refine wh_seq ?_
  refine wh_seq ?_
  refine wh_region ?_
  refine w_p Tb_ok 2 kr ?_
  refine w_run (v := .int .i64 ((0 : Nat) : Int)) (fun w => by kernel_rfl) ?_
  refine w_p Tb_ok 2 kr ?_
  refine w_run (v := .int .i64 ((0 : Nat) : Int)) (fun w => by kernel_rfl) ?_
  obtain ⟨x1, ex1, h2⟩ := bnd h1
  refine w_bi (zsubI ex1) kr ?_
  refine w_p Tb_ok 1 kr ?_
  refine wi_end kr ?_
  refine qh_then ?_
  refine wh_seq ?_
  refine wh_region ?_
  refine w_p Tb_ok 2 kr ?_
  refine wi_end kr ?_
  refine qh_then ?_
  rcases bcase h2 with ⟨t2, h3⟩ | ⟨t2, h3⟩
  ·
   refine h_ct (b := (decide (x1 > (0 : Int)))) t2 kr ?_
   refine wh_region ?_
   refine w_p Tb_ok 2 kr ?_
   refine w_run (v := .int .i64 ((0 : Nat) : Int)) (fun w => by kernel_rfl) ?_
   refine w_run (v := (.slice none 0 0)) (fun w => by kernel_rfl) ?_
   refine w_p Tb_ok 1 kr ?_
   obtain ⟨l1, el1, h4⟩ := bnd h3
   refine w_appZ (k := .i64) (kd := Kd.u64) () el1 (of_decide_eq_true t2) kr ts_30 (show tnum Tryd.prog 3 = true by kernel_rfl) ti_22 kr rfl (it0 rfl) (fun v1 => ?_)
   refine w_p Tb_ok 2 kr ?_
   obtain ⟨l2, el2, h5⟩ := bnd h4
   refine w_cutP 0 rfl el2 (hiS (k := .i64)) kr ts_30 ti_22 (fun v2 => ?_)
   refine w_p Tb_ok 1 kr ?_
   refine wi_end kr ?_
   refine qh_then ?_
   refine wh_seq ?_
   refine wh_region ?_
   refine w_p Tb_ok 2 kr ?_
   refine wi_end kr ?_
   refine qh_then ?_
   refine wh_ret ?_
   have h5 := Option.some.inj h5; subst h5
   exact q_end (l := [v2]) [(0, false)] 0 ⟨v2, rfl, rfl⟩ (.inl rfl) kr kr kr
  ·
   refine h_cf (b := (decide (x1 > (0 : Int)))) t2 kr ?_
   refine wh_skip ?_
   refine qh_then ?_
   refine wh_seq ?_
   refine wh_region ?_
   refine w_p Tb_ok 2 kr ?_
   refine wi_end kr ?_
   refine qh_then ?_
   refine wh_ret ?_
   refine QH.ent (ownNil (kd := Kd.u64) (e := 22)) ?_
   have h3 := Option.some.inj h3; subst h3
   exact q_end (l := [(.slice none 0 0)]) [(0, false)] 0 ⟨(.slice none 0 0), rfl, rfl⟩ (.inl rfl) kr kr kr
theorem c_slices_Concat_Luint64_uint64 {p_slices : List (List Nat)} {vp_slices_1 : Value} {r : (List Nat)} (h : slices_Concat_Luint64_uint64 p_slices = some r) : Ct Tryd.prog 76 [vp_slices_1] [rdV (Kd.sl Kd.u64) vp_slices_1 p_slices] (fun v L => ∃ w0 : Value, v = w0 ∧ L = [ownV Kd.u64 22 w0 r]) := by
 refine ct_intro Tryd.func76 rfl kr (fun F => ?_)
 unfold slices_Concat_Luint64_uint64 at h
 refine wh_seq ?_
 refine wh_region ?_
 refine w_p Tb_ok 1 kr ?_
 refine wi_end kr ?_
 refine qh_then ?_
 refine wh_seq ?_
 refine wh_region ?_
 refine w_p Tb_ok 1 kr ?_
 refine wi_end kr ?_
 refine qh_then ?_
 refine wh_seq ?_
 refine wh_seq ?_
 refine wh_region ?_
 refine w_p Tb_ok 1 kr ?_
 refine w_len (rd_hd 0 rfl) kr ts_27 ?_
 refine w_p Tb_ok 1 kr ?_
 refine wi_end kr ?_
 refine qh_then ?_
 refine h_lenle (rd_lenle 0 rfl) (fun hN1 => ?_)
 obtain ⟨x3, el1, h1⟩ := bnd h
 refine h_join (X := Unit) (fun g => [(0, vp_slices_1), (3, .int .i64 x3)]) (fun g => [rdV (Kd.sl Kd.u64) vp_slices_1 p_slices] ++ F) (fun _ => True) ?_ ?_
 ·
  refine wh_block ?_
  refine h_rs (fun (k1 : Nat) (st : Int) (g : Unit) => [(0, vp_slices_1), (3, .int .i64 st), (9, vp_slices_1), (10, .int .i64 ((p_slices.length : Nat) : Int)), (11, .int .i64 ((k1 : Nat) : Int))]) (fun (k1 : Nat) (st : Int) (g : Unit) => [rdV (Kd.sl Kd.u64) vp_slices_1 p_slices] ++ F) () el1 (Nat.zero_le _) aK (tH [(0, true)] 1) ?_ ?_
  ·
   rintro ⟨⟩ j
   refine wh_seq ?_
   refine wh_region ?_
   refine w_p Tb_ok 1 kr ?_
   refine wi_end kr ?_
   refine qh_then ?_
   refine wh_seq ?_
   refine h_cf (b := (decide ((((p_slices.length) : Nat) : Int) < ((p_slices.length : Nat) : Int)))) rgF kr ?_
   refine wh_exit ?_
   refine qh_then_exit ?_
   refine q_rzX ?_
   refine qh_block_exit ?_
   exact q_join () trivial aK (tH [(0, true)] 1)
  ·
   rintro rem k1 x1 ⟨⟩ o1 hk1 h2 hn1 j
   have h2 : slices_Concat_Luint64_uint64_L0 p_slices k1 x1 = some o1 := h2
   unfold slices_Concat_Luint64_uint64_L0 at h2
   refine wh_seq ?_
   refine wh_region ?_
   refine w_p Tb_ok 1 kr ?_
   refine wi_end kr ?_
   refine qh_then ?_
   refine wh_seq ?_
   refine h_ct (b := (decide (((k1 : Nat) : Int) < ((p_slices.length : Nat) : Int)))) (rgT hk1) kr ?_
   refine wh_skip ?_
   refine qh_then ?_
   refine wh_seq ?_
   refine wh_block ?_
   refine wh_seq ?_
   refine wh_region ?_
   obtain ⟨x4, ex4, h3⟩ := bnd h2
   refine w_ix (k := .i64) (rd_hd 0 rfl) (nbd ex4) rfl kr ts_27 ti_30 ?_
   refine w_ldR 0 0 rfl ex4 kr ti_30 rfl rfl ?_
   rintro v1
   refine w_p Tb_ok 1 kr ?_
   refine wi_end kr ?_
   refine qh_then ?_
   refine wh_seq ?_
   refine wh_region ?_
   refine w_p Tb_ok 2 kr ?_
   refine w_len (rd_hd 0 rfl) kr ts_30 ?_
   obtain ⟨x5, ex5, h4⟩ := bnd h3
   refine w_bi (zaddI ex5) kr ?_
   refine w_p Tb_ok 1 kr ?_
   refine wi_end kr ?_
   refine qh_then ?_
   refine wh_seq ?_
   refine wh_region ?_
   refine w_p Tb_ok 2 kr ?_
   refine wi_end kr ?_
   refine qh_then ?_
   rcases bcase h4 with ⟨t1, h5⟩ | ⟨t1, h5⟩
   ·
    refine h_ct (b := (decide (x5 < (0 : Int)))) t1 kr ?_
    refine wh_region ?_
    cases h5
   ·
    refine h_cf (b := (decide (x5 < (0 : Int)))) t1 kr ?_
    refine wh_skip ?_
    refine qh_block_normal ?_
    refine qh_then ?_
    refine wh_region ?_
    refine w_bi (zinc hk1 hN1) kr ?_
    refine w_p Tb_ok 1 kr ?_
    refine wi_end kr ?_
    have h5 := Option.some.inj h5; subst h5
    exact q_rs () hn1 aK (tH [(1, true)] 2)
 ·
  rintro ⟨⟩ - j
  refine qh_then ?_
  refine wh_seq ?_
  refine wh_region ?_
  refine w_p Tb_ok 1 kr ?_
  obtain ⟨r2, er2, h6⟩ := bnd h1
  refine w_fn [] (c_slices_Grow_Luint64_uint64_nil er2) rfl fok_107 kr ?_
  rintro _ _ ⟨w1, hv, rfl⟩; have hv := hv.symm; subst hv
  refine w_p Tb_ok 1 kr ?_
  refine wi_end kr ?_
  refine qh_then ?_
  refine wh_seq ?_
  refine wh_seq ?_
  refine wh_region ?_
  refine w_p Tb_ok 1 kr ?_
  refine w_len (rd_hd 1 rfl) kr ts_27 ?_
  refine w_p Tb_ok 1 kr ?_
  refine wi_end kr ?_
  refine qh_then ?_
  refine h_lenle (rd_lenle 1 rfl) (fun hN2 => ?_)
  obtain ⟨l2, el2, h7⟩ := bnd h6
  refine h_join (X := Value) (fun g => [(6, g)]) (fun g => [ownV Kd.u64 22 g l2] ++ F) (fun _ => True) ?_ ?_
  ·
   refine wh_block ?_
   refine h_rs (fun (k2 : Nat) (st : (List Nat)) (g : Value) => [(6, g), (25, vp_slices_1), (26, .int .i64 ((p_slices.length : Nat) : Int)), (27, .int .i64 ((k2 : Nat) : Int))]) (fun (k2 : Nat) (st : (List Nat)) (g : Value) => [ownV Kd.u64 22 g st, rdV (Kd.sl Kd.u64) vp_slices_1 p_slices] ++ F) w1 el2 (Nat.zero_le _) aK (tH [(0, false), (0, true)] 1) ?_ ?_
   ·
    rintro g3 j
    refine wh_seq ?_
    refine wh_region ?_
    refine w_p Tb_ok 1 kr ?_
    refine wi_end kr ?_
    refine qh_then ?_
    refine wh_seq ?_
    refine h_cf (b := (decide ((((p_slices.length) : Nat) : Int) < ((p_slices.length : Nat) : Int)))) rgF kr ?_
    refine wh_exit ?_
    refine qh_then_exit ?_
    refine q_rzX ?_
    refine qh_block_exit ?_
    exact q_join g3 trivial aK (tH [(0, false)] 1)
   ·
    rintro rem k2 l1 g1 o2 hk2 h8 hn2 j
    have h8 : slices_Concat_Luint64_uint64_L1 p_slices k2 l1 = some o2 := h8
    unfold slices_Concat_Luint64_uint64_L1 at h8
    refine wh_seq ?_
    refine wh_region ?_
    refine w_p Tb_ok 1 kr ?_
    refine wi_end kr ?_
    refine qh_then ?_
    refine wh_seq ?_
    refine h_ct (b := (decide (((k2 : Nat) : Int) < ((p_slices.length : Nat) : Int)))) (rgT hk2) kr ?_
    refine wh_skip ?_
    refine qh_then ?_
    refine wh_seq ?_
    refine wh_block ?_
    refine wh_seq ?_
    refine wh_region ?_
    obtain ⟨x7, ex7, h9⟩ := bnd h8
    refine w_ix (k := .i64) (rd_hd 1 rfl) (nbd ex7) rfl kr ts_27 ti_30 ?_
    refine w_ldR 1 0 rfl ex7 kr ti_30 rfl rfl ?_
    rintro v2
    refine w_p Tb_ok 1 kr ?_
    refine wi_end kr ?_
    refine qh_then ?_
    refine wh_region ?_
    refine w_p Tb_ok 2 kr ?_
    obtain ⟨l3, el3, h10⟩ := bnd h9
    refine w_app 1 rfl (rd_src 0 rfl) el3 kr ts_30 ti_22 rfl (fun v3 => ?_)
    refine w_p Tb_ok 1 kr ?_
    refine wi_end kr ?_
    refine qh_block_normal ?_
    refine qh_then ?_
    refine wh_region ?_
    refine w_bi (zinc hk2 hN2) kr ?_
    refine w_p Tb_ok 1 kr ?_
    refine wi_end kr ?_
    have h10 := Option.some.inj h10; subst h10
    exact q_rs v3 hn2 aK (tH [(0, false), (1, true)] 2)
  ·
   rintro g2 - j
   refine qh_then ?_
   refine wh_seq ?_
   refine wh_region ?_
   refine w_p Tb_ok 2 kr ?_
   refine wi_end kr ?_
   refine qh_then ?_
   refine wh_ret ?_
   have h7 := Option.some.inj h7; subst h7
   exact q_end (l := [g2]) [(0, false)] 0 ⟨g2, rfl, rfl⟩ (.inl rfl) kr kr kr
theorem c_reconstruct_Rows {p_n : T_network_Net} {p_w : List (List (List Nat))} {p_at : List Int} {bp_n : Nat} {vp_n_1 : Value} {vp_n_2 : Value} {vp_n_3 : Value} {vp_n_4 : Value} {vp_n_5 : Value} {vp_w_1 : Value} {vp_at_1 : Value} {r : (List (List (List Nat))) × Int × (List (List T_api_Event))} (h : reconstruct_Rows p_n p_w p_at = some r) : Ct Tryd.prog 47 [(.pointer (some ⟨bp_n, 0, none⟩)), vp_w_1, vp_at_1] [blkP (.pointer (some ⟨bp_n, 0, none⟩)) 119 [.int .u64 p_n.zw.S.P, .int .i64 p_n.zw.S.N, .int .i64 p_n.zw.S.T, vp_n_1, vp_n_2, vp_n_3, .int .i64 p_n.zround, (th vp_n_4), vp_n_5], rdV Kd.i64 vp_n_1 p_n.zw.Corrupt, rdV K_api_Deviation vp_n_2 p_n.zw.Deviations, rdV (Kd.sl Kd.u64) vp_n_3 p_n.zw.Tapes, treeV (rowK K_api_Event 67) 46 (th vp_n_4) (tg vp_n_4) p_n.zviews, rdV Kd.any vp_n_5 p_n.ztapes, rdV (Kd.sl (Kd.sl Kd.u64)) vp_w_1 p_w, rdV Kd.i64 vp_at_1 p_at] (fun v L => ∃ w0 w2 : Value, v = w0 ∧ L = [ownV (Kd.sl (Kd.sl Kd.u64)) 27 w0 r.1, blkP (.pointer (some ⟨bp_n, 0, none⟩)) 119 [.int .u64 p_n.zw.S.P, .int .i64 p_n.zw.S.N, .int .i64 p_n.zw.S.T, vp_n_1, vp_n_2, vp_n_3, .int .i64 r.2.1, (th w2), vp_n_5], treeV (rowK K_api_Event 67) 46 (th w2) (tg w2) r.2.2]) := by
 refine ct_intro Tryd.func47 rfl kr (fun F => ?_)
 unfold reconstruct_Rows at h
 refine wh_seq ?_
 refine wh_region ?_
 refine w_p Tb_ok 1 kr ?_
 refine wi_end kr ?_
 refine qh_then ?_
 refine wh_seq ?_
 refine wh_region ?_
 refine w_p Tb_ok 1 kr ?_
 obtain ⟨r1, er1, h1⟩ := bnd h
 refine w_fn [(0, false), (0, true), (1, true), (2, true), (3, false), (3, true)] (c_network_Net_Scenario er1) rfl fok_64 kr ?_
 rintro _ _ ⟨w1_1, w1_2, w1_3, hv, rfl⟩; have hv := hv.symm; subst hv
 refine w_run (v := .agg #[.int .u64 r1.S.P, .int .i64 r1.S.N, .int .i64 r1.S.T]) (fun w => by kernel_rfl) ?_
 refine w_al kr ti_24 (fun q1 => ?_)
 refine WI.hd (y := blkP q1 24 [.int .u64 ((0 : Nat) : Int), .int .i64 ((0 : Nat) : Int), .int .i64 ((0 : Nat) : Int)]) kr ?_
 refine w_opP 0 rfl (fun b1 hb => ?_)
 subst hb
 refine w_stB (v := .agg #[.int .u64 r1.S.P, .int .i64 r1.S.N, .int .i64 r1.S.T]) (off := 0) (cs := [.int .u64 r1.S.P, .int .i64 r1.S.N, .int .i64 r1.S.T]) 0 rfl (cv0 kr) kr ti_24 rfl rfl (oC (fun _ _ => rfl) (oC (fun _ _ => rfl) (oC (fun _ _ => rfl) oN))) ?_
 refine WI.hd (y := blkP (.pointer (some ⟨b1, 0, none⟩)) 24 [.int .u64 r1.S.P, .int .i64 r1.S.N, .int .i64 r1.S.T]) kr ?_
 refine wi_end kr ?_
 refine qh_then ?_
 refine wh_seq ?_
 refine wh_region ?_
 refine w_p Tb_ok 1 kr ?_
 refine w_ldB 0 1 rfl kr ti_3 rfl rfl ?_
 obtain ⟨l1, el1, h2⟩ := bnd h1
 refine w_mkT (rowK (Kd.sl Kd.u64) 30) new_row (kl := .i64) (kc := .i64) el1 kr ts_75 ti_27 rfl (fun v1 => ?_)
 refine w_p Tb_ok 1 kr ?_
 refine wi_end kr ?_
 refine qh_then ?_
 refine wh_seq ?_
 refine wh_seq ?_
 refine wh_region ?_
 refine w_p Tb_ok 1 kr ?_
 refine w_len (rd_hd 11 rfl) kr ts_40 ?_
 refine w_p Tb_ok 1 kr ?_
 refine wi_end kr ?_
 refine qh_then ?_
 rcases bcase h2 with ⟨t1, h3⟩ | ⟨t1, h3⟩
 ·
  refine h_ct (b := (((p_w.length : Nat) : Int) == (0 : Int))) t1 kr ?_
  refine wh_seq ?_
  refine wh_region ?_
  refine w_p Tb_ok 2 kr ?_
  refine wi_end kr ?_
  refine qh_then ?_
  refine wh_ret ?_
  refine qh_then_ret ?_
  refine QH.ent (tr_own fz_row 0 rfl) ?_
  have h3 := Option.some.inj h3; subst h3
  exact q_end (l := [v1]) [(0, false), (4, false), (4, false)] 10 ⟨v1, (tw (th vp_n_4) (tg vp_n_4)), rfl, rfl⟩ (.inl rfl) kr kr kr
 ·
  refine h_cf (b := (((p_w.length : Nat) : Int) == (0 : Int))) t1 kr ?_
  refine wh_skip ?_
  refine qh_then ?_
  refine wh_seq ?_
  refine wh_region ?_
  refine w_p Tb_ok 1 kr ?_
  refine w_ldB 1 1 rfl kr ti_3 rfl rfl ?_
  obtain ⟨l2, el2, h4⟩ := bnd h3
  refine w_mkT (rowK Kd.u64 22) new_row (kl := .i64) (kc := .i64) el2 kr ts_27 ti_30 rfl (fun v2 => ?_)
  refine w_p Tb_ok 1 kr ?_
  refine wi_end kr ?_
  refine qh_then ?_
  refine wh_seq ?_
  refine wh_seq ?_
  refine wh_region ?_
  refine w_p Tb_ok 1 kr ?_
  refine w_len (tree_hdI (inP 0 rfl)) kr ts_27 ?_
  refine w_p Tb_ok 1 kr ?_
  refine wi_end kr ?_
  refine qh_then ?_
  refine h_lenle (tree_lenle 0 rfl) (fun hN1 => ?_)
  obtain ⟨l4, el1, h5⟩ := bnd h4
  refine h_join (X := Value) (fun g => [(0, (.pointer (some ⟨bp_n, 0, none⟩))), (1, vp_w_1), (7, (.pointer (some ⟨b1, 0, none⟩))), (8, v1), (9, (th g))]) (fun g => [blkP (.pointer (some ⟨bp_n, 0, none⟩)) 119 [.int .u64 p_n.zw.S.P, .int .i64 p_n.zw.S.N, .int .i64 p_n.zw.S.T, vp_n_1, vp_n_2, vp_n_3, .int .i64 p_n.zround, (th vp_n_4), vp_n_5], rdV Kd.i64 vp_n_1 p_n.zw.Corrupt, rdV K_api_Deviation vp_n_2 p_n.zw.Deviations, rdV (Kd.sl Kd.u64) vp_n_3 p_n.zw.Tapes, treeV (rowK K_api_Event 67) 46 (th vp_n_4) (tg vp_n_4) p_n.zviews, rdV Kd.any vp_n_5 p_n.ztapes, rdV (Kd.sl (Kd.sl Kd.u64)) vp_w_1 p_w, blkP (.pointer (some ⟨b1, 0, none⟩)) 24 [.int .u64 r1.S.P, .int .i64 r1.S.N, .int .i64 r1.S.T], treeV (rowK (Kd.sl Kd.u64) 30) 27 v1 (List.replicate r1.S.N.toNat (.slice none 0 0)) l1, treeV (rowK Kd.u64 22) 30 (th g) (tg g) l4] ++ F) (fun _ => True) ?_ ?_
  ·
   refine wh_block ?_
   refine h_rs (fun (k1 : Nat) (st : (List (List Nat))) (g : Value) => [(0, (.pointer (some ⟨bp_n, 0, none⟩))), (1, vp_w_1), (2, vp_at_1), (7, (.pointer (some ⟨b1, 0, none⟩))), (8, v1), (9, (th g)), (34, .int .i64 ((l2.length : Nat) : Int)), (35, .int .i64 ((k1 : Nat) : Int))]) (fun (k1 : Nat) (st : (List (List Nat))) (g : Value) => [blkP (.pointer (some ⟨bp_n, 0, none⟩)) 119 [.int .u64 p_n.zw.S.P, .int .i64 p_n.zw.S.N, .int .i64 p_n.zw.S.T, vp_n_1, vp_n_2, vp_n_3, .int .i64 p_n.zround, (th vp_n_4), vp_n_5], rdV Kd.i64 vp_n_1 p_n.zw.Corrupt, rdV K_api_Deviation vp_n_2 p_n.zw.Deviations, rdV (Kd.sl Kd.u64) vp_n_3 p_n.zw.Tapes, treeV (rowK K_api_Event 67) 46 (th vp_n_4) (tg vp_n_4) p_n.zviews, rdV Kd.any vp_n_5 p_n.ztapes, rdV (Kd.sl (Kd.sl Kd.u64)) vp_w_1 p_w, rdV Kd.i64 vp_at_1 p_at, blkP (.pointer (some ⟨b1, 0, none⟩)) 24 [.int .u64 r1.S.P, .int .i64 r1.S.N, .int .i64 r1.S.T], treeV (rowK (Kd.sl Kd.u64) 30) 27 v1 (List.replicate r1.S.N.toNat (.slice none 0 0)) l1, treeV (rowK Kd.u64 22) 30 (th g) (tg g) st] ++ F) (tw v2 (List.replicate r1.S.N.toNat (.slice none 0 0))) el1 (Nat.zero_le _) aK (tH [(6, false), (7, true), (8, true), (9, true), (6, false), (9, true), (10, true), (11, true), (2, false), (1, false), (0, false)] 9) ?_ ?_
   ·
    rintro g3 j
    refine wh_seq ?_
    refine wh_region ?_
    refine w_p Tb_ok 1 kr ?_
    refine wi_end kr ?_
    refine qh_then ?_
    refine wh_seq ?_
    refine h_cf (b := (decide ((((l2.length) : Nat) : Int) < ((l2.length : Nat) : Int)))) rgF kr ?_
    refine wh_exit ?_
    refine qh_then_exit ?_
    refine q_rzX ?_
    refine qh_block_exit ?_
    exact q_join (tw (th g3) (tg g3)) trivial aK (tH [(0, false), (0, true), (1, true), (2, true), (3, false), (3, true), (4, true), (6, false), (6, false), (6, false)] 6)
   ·
    rintro rem k1 l3 g1 o1 hk1 h6 hn1 j
    have h6 : reconstruct_Rows_L0 p_w p_at r1 k1 l3 = some o1 := h6
    unfold reconstruct_Rows_L0 at h6
    refine wh_seq ?_
    refine wh_region ?_
    refine w_p Tb_ok 1 kr ?_
    refine wi_end kr ?_
    refine qh_then ?_
    refine wh_seq ?_
    refine h_ct (b := (decide (((k1 : Nat) : Int) < ((l2.length : Nat) : Int)))) (rgT hk1) kr ?_
    refine wh_skip ?_
    refine qh_then ?_
    refine wh_seq ?_
    refine wh_block ?_
    refine wh_seq ?_
    refine wh_region ?_
    refine w_p Tb_ok 2 kr ?_
    refine wi_end kr ?_
    refine qh_then ?_
    refine wh_seq ?_
    refine wh_region ?_
    refine w_p Tb_ok 1 kr ?_
    refine w_len (rd_hd 6 rfl) kr ts_40 ?_
    refine w_p Tb_ok 1 kr ?_
    refine wi_end kr ?_
    refine qh_then ?_
    refine h_lenle (rd_lenle 6 rfl) (fun hN2 => ?_)
    obtain ⟨l6, el2, h7⟩ := bnd h6
    refine h_join (X := Value) (fun g => [(0, (.pointer (some ⟨bp_n, 0, none⟩))), (1, vp_w_1), (2, vp_at_1), (7, (.pointer (some ⟨b1, 0, none⟩))), (8, v1), (9, (th g)), (34, .int .i64 ((l2.length : Nat) : Int)), (35, .int .i64 ((k1 : Nat) : Int))]) (fun g => [blkP (.pointer (some ⟨bp_n, 0, none⟩)) 119 [.int .u64 p_n.zw.S.P, .int .i64 p_n.zw.S.N, .int .i64 p_n.zw.S.T, vp_n_1, vp_n_2, vp_n_3, .int .i64 p_n.zround, (th vp_n_4), vp_n_5], rdV Kd.i64 vp_n_1 p_n.zw.Corrupt, rdV K_api_Deviation vp_n_2 p_n.zw.Deviations, rdV (Kd.sl Kd.u64) vp_n_3 p_n.zw.Tapes, treeV (rowK K_api_Event 67) 46 (th vp_n_4) (tg vp_n_4) p_n.zviews, rdV Kd.any vp_n_5 p_n.ztapes, rdV (Kd.sl (Kd.sl Kd.u64)) vp_w_1 p_w, rdV Kd.i64 vp_at_1 p_at, blkP (.pointer (some ⟨b1, 0, none⟩)) 24 [.int .u64 r1.S.P, .int .i64 r1.S.N, .int .i64 r1.S.T], treeV (rowK (Kd.sl Kd.u64) 30) 27 v1 (List.replicate r1.S.N.toNat (.slice none 0 0)) l1, treeV (rowK Kd.u64 22) 30 (th g) (tg g) l6] ++ F) (fun _ => True) ?_ ?_
    ·
     refine wh_block ?_
     refine h_rs (fun (k2 : Nat) (st : (List (List Nat))) (g : Value) => [(0, (.pointer (some ⟨bp_n, 0, none⟩))), (1, vp_w_1), (2, vp_at_1), (7, (.pointer (some ⟨b1, 0, none⟩))), (8, v1), (9, (th g)), (10, .int .i64 ((k1 : Nat) : Int)), (34, .int .i64 ((l2.length : Nat) : Int)), (35, .int .i64 ((k1 : Nat) : Int)), (38, vp_w_1), (39, .int .i64 ((p_w.length : Nat) : Int)), (40, .int .i64 ((k2 : Nat) : Int))]) (fun (k2 : Nat) (st : (List (List Nat))) (g : Value) => [blkP (.pointer (some ⟨bp_n, 0, none⟩)) 119 [.int .u64 p_n.zw.S.P, .int .i64 p_n.zw.S.N, .int .i64 p_n.zw.S.T, vp_n_1, vp_n_2, vp_n_3, .int .i64 p_n.zround, (th vp_n_4), vp_n_5], rdV Kd.i64 vp_n_1 p_n.zw.Corrupt, rdV K_api_Deviation vp_n_2 p_n.zw.Deviations, rdV (Kd.sl Kd.u64) vp_n_3 p_n.zw.Tapes, treeV (rowK K_api_Event 67) 46 (th vp_n_4) (tg vp_n_4) p_n.zviews, rdV Kd.any vp_n_5 p_n.ztapes, rdV (Kd.sl (Kd.sl Kd.u64)) vp_w_1 p_w, rdV Kd.i64 vp_at_1 p_at, blkP (.pointer (some ⟨b1, 0, none⟩)) 24 [.int .u64 r1.S.P, .int .i64 r1.S.N, .int .i64 r1.S.T], treeV (rowK (Kd.sl Kd.u64) 30) 27 v1 (List.replicate r1.S.N.toNat (.slice none 0 0)) l1, treeV (rowK Kd.u64 22) 30 (th g) (tg g) st] ++ F) (tw (th g1) (tg g1)) el2 (Nat.zero_le _) aK (tH [(0, false), (0, true), (1, true), (2, true), (3, false), (3, true), (4, true), (5, true), (6, false), (6, false), (6, false)] 6) ?_ ?_
     ·
      rintro g6 j
      refine wh_seq ?_
      refine wh_region ?_
      refine w_p Tb_ok 1 kr ?_
      refine wi_end kr ?_
      refine qh_then ?_
      refine wh_seq ?_
      refine h_cf (b := (decide ((((p_w.length) : Nat) : Int) < ((p_w.length : Nat) : Int)))) rgF kr ?_
      refine wh_exit ?_
      refine qh_then_exit ?_
      refine q_rzX ?_
      refine qh_block_exit ?_
      exact q_join (tw (th g6) (tg g6)) trivial aK (tH [(0, false), (0, true), (1, true), (2, true), (3, false), (3, true), (4, true), (5, true), (6, false), (6, false), (6, false)] 6)
     ·
      rintro rem k2 l5 g4 o2 hk2 h8 hn2 j
      have h8 : reconstruct_Rows_L1 p_w p_at r1 k1 k2 l5 = some o2 := h8
      unfold reconstruct_Rows_L1 at h8
      refine wh_seq ?_
      refine wh_region ?_
      refine w_p Tb_ok 1 kr ?_
      refine wi_end kr ?_
      refine qh_then ?_
      refine wh_seq ?_
      refine h_ct (b := (decide (((k2 : Nat) : Int) < ((p_w.length : Nat) : Int)))) (rgT hk2) kr ?_
      refine wh_skip ?_
      refine qh_then ?_
      refine wh_seq ?_
      refine wh_block ?_
      refine wh_seq ?_
      refine wh_region ?_
      refine w_p Tb_ok 1 kr ?_
      obtain ⟨x3, ex3, h9⟩ := bnd h8
      refine w_ix (k := .i64) (rd_hd 6 rfl) (nbd ex3) rfl kr ts_40 ti_44 ?_
      refine w_ldR 6 0 rfl ex3 kr ti_44 rfl rfl ?_
      rintro v3
      refine w_p Tb_ok 2 kr ?_
      refine wi_end kr ?_
      refine qh_then ?_
      obtain ⟨x4, ex4, h10⟩ := bnd h9
      obtain ⟨x5, ex5, h11⟩ := bnd h10
      obtain ⟨x6, ex6, h12⟩ := bnd h11
      obtain ⟨x7, ex7, h13⟩ := bnd h12
      obtain ⟨r4, er4, h14⟩ := bnd h13
      refine WH.ent (hd_add (tree_hdI (inP 5 rfl))) ?_
      refine WH.ent (hd_add (tree_hdI (inP 11 rfl))) ?_
      refine WH.ent (hd_add (tree_hdI (inP 13 rfl))) ?_
      refine WH.row rs_row (inP 14 rfl) ex4 (fun g7 hg1 => ?_)
      refine WH.fact 0 rfl (fun hg2 => ?_)
      refine WH.ent (tr_out 16 rfl hg2 ex4) ?_
      obtain ⟨l7, el7, h15⟩ := bnd h14
      obtain ⟨l8, el8, h16⟩ := bnd h15
      refine h_flow [0, 0, 0, 0, 12, 28, 0, 64, 0, 0, 768, 1792, 0, 0, 12288, 28672, 61440, 131008, 262080, 524284, 1048575, 2097151] ⟨18, [0, 0, 0, 0, 0, 0, 0, 0, 0, 0, 0, 1, 0, 0, 0, 0, 0, 0, 1, 1, 0, 1], [(19, [(0, 0)]), (21, [(20, 0), (0, 1)])], [(5, [(0, 1)]), (7, [(0, 16)]), (19, [(19, 0), (0, 1)])], [(4, [(0, 4)]), (5, [(0, 2)]), (10, [(0, 7)]), (11, [(0, 7)]), (14, [(0, 15)]), (15, [(0, 15)]), (17, [(12, 0)]), (20, [(0, 4)])]⟩ (fun γ => [(th g4), .int .i64 ((k1 : Nat) : Int), (th g4), .int .i64 ((k1 : Nat) : Int), .pointer (some (elV (th g4) (k1 * 1))), g7, .pointer (some ⟨b1, 0, none⟩), .int .u64 r1.S.P, v3, .int .i64 ((k1 : Nat) : Int), .pointer (some (elV v3 (k1 * (Kd.sl Kd.u64).size))), (γ 11 0), vp_at_1, .int .i64 ((k2 : Nat) : Int), .pointer (some (elV vp_at_1 (k2 * Kd.i64.size))), .int .i64 x6, .int .u64 x7, .int .u64 r4, (γ 18 0), (γ 19 0), .pointer (some (elV (th g4) (k1 * 1))), undef]) (fun i γ => match i with | 11 => [rdV Kd.u64 (γ 11 0) x5] | 18 => [ownV Kd.u64 22 (γ 18 0) ([r4] : List Nat)] | 19 => [ownV Kd.u64 22 (γ 19 0) l7] | 21 => [treeV (rowK Kd.u64 22) 30 (th g4) ((tg g4).set k1 (γ 19 0)) l8] | _ => []) (fun γ => [fact ((tg g4)[k1]? = some g7), hdP g7 x4.length, hdP (th g4) l5.length, hdP v1 l1.length, hdP (th vp_n_4) p_n.zviews.length, rdV (Kd.sl Kd.u64) v3 x3, blkP (.pointer (some ⟨bp_n, 0, none⟩)) 119 [.int .u64 p_n.zw.S.P, .int .i64 p_n.zw.S.N, .int .i64 p_n.zw.S.T, vp_n_1, vp_n_2, vp_n_3, .int .i64 p_n.zround, (th vp_n_4), vp_n_5], rdV Kd.i64 vp_n_1 p_n.zw.Corrupt, rdV K_api_Deviation vp_n_2 p_n.zw.Deviations, rdV (Kd.sl Kd.u64) vp_n_3 p_n.zw.Tapes, treeV (rowK K_api_Event 67) 46 (th vp_n_4) (tg vp_n_4) p_n.zviews, rdV Kd.any vp_n_5 p_n.ztapes, rdV (Kd.sl (Kd.sl Kd.u64)) vp_w_1 p_w, rdV Kd.i64 vp_at_1 p_at, blkP (.pointer (some ⟨b1, 0, none⟩)) 24 [.int .u64 r1.S.P, .int .i64 r1.S.N, .int .i64 r1.S.T], treeV (rowK (Kd.sl Kd.u64) 30) 27 v1 (List.replicate r1.S.N.toNat (.slice none 0 0)) l1, rdV Kd.u64 (γ 11 0) x5, ownV Kd.u64 22 (γ 18 0) ([r4] : List Nat), treeV (rowK Kd.u64 22) 30 (th g4) ((tg g4).set k1 (γ 19 0)) l8] ++ F) [0, 1, 2, 3, 6, 8, 9, 12, 13] tryd_mix Tb_ok kr kr (fun _ => by kernel_rfl) (fun _ => by kernel_rfl) (fun _ => by kernel_rfl) (fun _ => by kernel_rfl) (fun _ => by kernel_rfl) (fun _ => by kernel_rfl) (fun _ => by kernel_rfl) ?_ ?_
      ·
       refine ⟨?_, ?_, ?_, ?_, ?_, ?_, ?_, ?_, ?_, ?_, ?_, ?_, ?_, trivial⟩
       ·
        intro γ F
        refine WI.reH (H' := [hdP (th g4) l5.length] ++ F) kr ?_
        refine w_ix (k := .i64) (hdI 0 rfl) (nbd ex4) rfl kr ts_27 ti_30 ?_
        exact wE (gl []) [] 1
       ·
        intro γ F
        refine WI.reH (H' := [holeV (rowK Kd.u64 22) 30 (th g4) (tg g4) l5 k1, fact ((tg g4)[k1]? = some g7)] ++ F) kr ?_
        refine WI.fact 1 rfl (fun hg3 => ?_)
        refine w_ldG (m := k1) (hOut (inP 0 rfl)) hg3 kr ti_30 ?_
        exact wE (gl []) [(0, false)] 1
       ·
        intro γ F
        refine WI.reH (H' := [blkP (.pointer (some ⟨b1, 0, none⟩)) 24 [.int .u64 r1.S.P, .int .i64 r1.S.N, .int .i64 r1.S.T]] ++ F) kr ?_
        refine w_ldB 0 0 rfl kr ti_22 rfl rfl ?_
        exact wE (gl []) [(0, false)] 0
       ·
        intro γ F
        refine WI.reH (H' := [rdV (Kd.sl Kd.u64) v3 x3] ++ F) kr ?_
        refine w_ix (k := .i64) (rd_hd 0 rfl) (nbd ex5) rfl kr ts_44 ti_30 ?_
        exact wE (gl []) [] 1
       ·
        intro γ F
        refine WI.reH (H' := [rdV (Kd.sl Kd.u64) v3 x3] ++ F) kr ?_
        refine w_ldR 0 0 rfl ex5 kr ti_30 rfl rfl ?_
        rintro v4
        exact wE (gl [v4]) [(0, true)] 2
       ·
        intro γ F
        refine WI.reH (H' := [rdV Kd.i64 vp_at_1 p_at] ++ F) kr ?_
        refine w_ix (k := .i64) (rd_hd 0 rfl) (nbd ex6) rfl kr ts_25 ti_3 ?_
        exact wE (gl []) [] 1
       ·
        intro γ F
        refine WI.reH (H' := [rdV Kd.i64 vp_at_1 p_at] ++ F) kr ?_
        refine w_ldR 0 0 rfl ex6 kr ti_3 rfl rfl ?_
        rintro _
        exact wE (gl []) [] 1
       ·
        intro γ F
        refine WI.reH (H' := [] ++ F) kr ?_
        refine w_cv Tb_ok (ecU ex7) kr ?_
        exact wE (gl []) [] 0
       ·
        intro γ F
        refine WI.reH (H' := [rdV Kd.u64 (γ 11 0) x5] ++ F) kr ?_
        refine w_fn [(0, true)] (c_poly_Eval er4) rfl fok_65 kr ?_
        rintro _ _ ⟨hv, rfl⟩; have hv := hv.symm; subst hv
        exact wE (gl []) [] 1
       ·
        intro γ F
        refine WI.reH (H' := [] ++ F) kr ?_
        refine w_lt (kd := Kd.u64) (t := 30) (len := 1) (ps0 := [(0, .int .u64 r4)]) (ps := [(0, .int .u64 r4)]) ([r4] : List Nat) _ (rowC (x := r4) (g := ()) (it0 rfl) row0) (scI sc0) kr ts_30 ti_22 kr rfl rfl (fun v5 => ?_)
        exact wE (gl [v5]) [(0, false)] 0
       ·
        intro γ F
        refine WI.reH (H' := [ownV Kd.u64 22 g7 x4, ownV Kd.u64 22 (γ 18 0) ([r4] : List Nat), holeV (rowK Kd.u64 22) 30 (th g4) (tg g4) l5 k1] ++ F) kr ?_
        refine w_app 0 rfl (own_src 1 rfl) el7 kr ts_30 ti_22 rfl (fun v6 => ?_)
        exact wE (gl [v6]) [(0, false), (0, false), (0, false)] 0
       ·
        intro γ F
        refine WI.reH (H' := [hdP (th g4) l5.length] ++ F) kr ?_
        refine w_ix (k := .i64) (hdI 0 rfl) (nbd ex4) rfl kr ts_27 ti_30 ?_
        exact wE (gl []) [] 1
       ·
        intro γ F
        refine WI.reH (H' := [ownV Kd.u64 22 (γ 19 0) l7, holeV (rowK Kd.u64 22) 30 (th g4) (tg g4) l5 k1] ++ F) kr ?_
        refine w_stH (R := (rowK Kd.u64 22)) (g' := (γ 19 0)) (m := k1) 0 0 rfl rfl (nbd ex4) (sinj el8) rfl (cvS (own_hd 0 rfl)) (sl_one (own_hd 0 rfl)) kr ti_30 ?_
        exact wE (gl []) [(0, false)] 0
      ·
       intro γ1
       refine qh_block_normal ?_
       refine qh_then ?_
       refine wh_region ?_
       refine w_bi (zinc hk2 hN2) kr ?_
       refine w_p Tb_ok 1 kr ?_
       refine wi_end kr ?_
       have h16 := Option.some.inj h16; subst h16
       exact q_rs (tw (th g4) ((tg g4).set k1 (γ1 19 0))) hn2 aK (tH [(6, false), (6, true), (7, true), (8, true), (9, false), (9, true), (10, true), (11, true), (12, false), (12, false), (14, false)] 14)
    ·
     rintro g5 - j
     refine qh_block_normal ?_
     refine qh_then ?_
     refine wh_region ?_
     refine w_bi (zinc hk1 hN1) kr ?_
     refine w_p Tb_ok 1 kr ?_
     refine wi_end kr ?_
     have h7 := Option.some.inj h7; subst h7
     exact q_rs (tw (th g5) (tg g5)) hn1 aK (tH [(0, false), (0, true), (1, true), (2, true), (3, false), (3, true), (4, true), (5, true), (6, false), (6, false), (6, false)] 6)
  ·
   rintro g2 - j
   refine qh_then ?_
   refine wh_seq ?_
   refine wh_seq ?_
   refine wh_region ?_
   refine w_p Tb_ok 3 kr ?_
   refine w_len (rd_hd 6 rfl) kr ts_40 ?_
   refine WI.ent (tr_frz fz_row 9 rfl) ?_
   obtain ⟨r5, er5, h17⟩ := bnd h5
   refine w_fn [(1, false), (1, true), (2, true), (3, true), (4, false), (4, true), (0, true)] (c_reconstruct_said er5) rfl fok_72 kr ?_
   rintro _ _ ⟨w3, w5, hv, rfl⟩; have hv := hv.symm; subst hv
   refine w_len (own_hd 0 rfl) kr ts_75 ?_
   refine w_p Tb_ok 1 kr ?_
   refine wi_end kr ?_
   refine qh_then ?_
   refine h_lenle (own_lenle 0 rfl) (fun hN3 => ?_)
   obtain ⟨l10, el3, h18⟩ := bnd h17
   refine h_join (X := Value) (fun g => [(8, (th g))]) (fun g => [treeV (rowK (Kd.sl Kd.u64) 30) 27 (th g) (tg g) l10, blkP (.pointer (some ⟨bp_n, 0, none⟩)) 119 [.int .u64 p_n.zw.S.P, .int .i64 p_n.zw.S.N, .int .i64 p_n.zw.S.T, vp_n_1, vp_n_2, vp_n_3, .int .i64 r5.2.1, (th w5), vp_n_5], rdV Kd.i64 vp_n_1 p_n.zw.Corrupt, rdV K_api_Deviation vp_n_2 p_n.zw.Deviations, rdV (Kd.sl Kd.u64) vp_n_3 p_n.zw.Tapes, treeV (rowK K_api_Event 67) 46 (th w5) (tg w5) r5.2.2, rdV Kd.any vp_n_5 p_n.ztapes] ++ F) (fun _ => True) ?_ ?_
   ·
    refine wh_block ?_
    refine h_rs (fun (k3 : Nat) (st : (List (List (List Nat)))) (g : Value) => [(7, (.pointer (some ⟨b1, 0, none⟩))), (8, (th g)), (72, w3), (73, .int .i64 ((r5.1.length : Nat) : Int)), (74, .int .i64 ((k3 : Nat) : Int))]) (fun (k3 : Nat) (st : (List (List (List Nat)))) (g : Value) => [blkP (.pointer (some ⟨b1, 0, none⟩)) 24 [.int .u64 r1.S.P, .int .i64 r1.S.N, .int .i64 r1.S.T], treeV (rowK (Kd.sl Kd.u64) 30) 27 (th g) (tg g) st, ownV (Kd.sl (Kd.sl Kd.u64)) 27 w3 r5.1, blkP (.pointer (some ⟨bp_n, 0, none⟩)) 119 [.int .u64 p_n.zw.S.P, .int .i64 p_n.zw.S.N, .int .i64 p_n.zw.S.T, vp_n_1, vp_n_2, vp_n_3, .int .i64 r5.2.1, (th w5), vp_n_5], rdV Kd.i64 vp_n_1 p_n.zw.Corrupt, rdV K_api_Deviation vp_n_2 p_n.zw.Deviations, rdV (Kd.sl Kd.u64) vp_n_3 p_n.zw.Tapes, treeV (rowK K_api_Event 67) 46 (th w5) (tg w5) r5.2.2, rdV Kd.any vp_n_5 p_n.ztapes] ++ F) (tw v1 (List.replicate r1.S.N.toNat (.slice none 0 0))) el3 (Nat.zero_le _) aK (tH [(9, false), (9, false), (0, false), (0, false), (2, true), (3, true), (4, true), (0, false), (4, true)] 6) ?_ ?_
    ·
     rintro g10 j
     refine wh_seq ?_
     refine wh_region ?_
     refine w_p Tb_ok 1 kr ?_
     refine wi_end kr ?_
     refine qh_then ?_
     refine wh_seq ?_
     refine h_cf (b := (decide ((((r5.1.length) : Nat) : Int) < ((r5.1.length : Nat) : Int)))) rgF kr ?_
     refine wh_exit ?_
     refine qh_then_exit ?_
     refine q_rzX ?_
     refine qh_block_exit ?_
     exact q_join (tw (th g10) (tg g10)) trivial aK (tH [(1, false), (2, false), (2, true), (3, true), (4, true), (5, false), (5, true)] 6)
    ·
     rintro rem k3 l9 g8 o3 hk3 h19 hn3 j
     have h19 : reconstruct_Rows_L2 r1 r5 k3 l9 = some o3 := h19
     unfold reconstruct_Rows_L2 at h19
     refine wh_seq ?_
     refine wh_region ?_
     refine w_p Tb_ok 1 kr ?_
     refine wi_end kr ?_
     refine qh_then ?_
     refine wh_seq ?_
     refine h_ct (b := (decide (((k3 : Nat) : Int) < ((r5.1.length : Nat) : Int)))) (rgT hk3) kr ?_
     refine wh_skip ?_
     refine qh_then ?_
     refine wh_seq ?_
     refine wh_block ?_
     refine wh_seq ?_
     refine wh_region ?_
     refine w_p Tb_ok 1 kr ?_
     obtain ⟨x9, ex9, h20⟩ := bnd h19
     refine w_ix (k := .i64) (own_hd 2 rfl) (nbd ex9) rfl kr ts_75 ti_27 ?_
     refine w_ldO 2 0 rfl ex9 kr ti_27 rfl rfl ?_
     rintro v7
     refine w_p Tb_ok 2 kr ?_
     refine wi_end kr ?_
     refine qh_then ?_
     refine wh_seq ?_
     refine wh_region ?_
     refine w_p Tb_ok 1 kr ?_
     refine w_len (rd_hd 0 rfl) kr ts_27 ?_
     refine w_p Tb_ok 1 kr ?_
     refine wi_end kr ?_
     refine qh_then ?_
     refine h_lenle (rd_lenle 0 rfl) (fun hN4 => ?_)
     obtain ⟨l12, el4, h21⟩ := bnd h20
     refine h_join (X := Value) (fun g => [(7, (.pointer (some ⟨b1, 0, none⟩))), (8, (th g)), (72, w3), (73, .int .i64 ((r5.1.length : Nat) : Int)), (74, .int .i64 ((k3 : Nat) : Int))]) (fun g => [blkP (.pointer (some ⟨b1, 0, none⟩)) 24 [.int .u64 r1.S.P, .int .i64 r1.S.N, .int .i64 r1.S.T], treeV (rowK (Kd.sl Kd.u64) 30) 27 (th g) (tg g) l12, ownV (Kd.sl (Kd.sl Kd.u64)) 27 w3 r5.1, blkP (.pointer (some ⟨bp_n, 0, none⟩)) 119 [.int .u64 p_n.zw.S.P, .int .i64 p_n.zw.S.N, .int .i64 p_n.zw.S.T, vp_n_1, vp_n_2, vp_n_3, .int .i64 r5.2.1, (th w5), vp_n_5], rdV Kd.i64 vp_n_1 p_n.zw.Corrupt, rdV K_api_Deviation vp_n_2 p_n.zw.Deviations, rdV (Kd.sl Kd.u64) vp_n_3 p_n.zw.Tapes, treeV (rowK K_api_Event 67) 46 (th w5) (tg w5) r5.2.2, rdV Kd.any vp_n_5 p_n.ztapes] ++ F) (fun _ => True) ?_ ?_
     ·
      refine wh_block ?_
      refine h_rs (fun (k4 : Nat) (st : (List (List (List Nat)))) (g : Value) => [(7, (.pointer (some ⟨b1, 0, none⟩))), (8, (th g)), (13, .int .i64 ((k3 : Nat) : Int)), (72, w3), (73, .int .i64 ((r5.1.length : Nat) : Int)), (74, .int .i64 ((k3 : Nat) : Int)), (79, v7), (80, .int .i64 ((x9.length : Nat) : Int)), (81, .int .i64 ((k4 : Nat) : Int))]) (fun (k4 : Nat) (st : (List (List (List Nat)))) (g : Value) => [blkP (.pointer (some ⟨b1, 0, none⟩)) 24 [.int .u64 r1.S.P, .int .i64 r1.S.N, .int .i64 r1.S.T], treeV (rowK (Kd.sl Kd.u64) 30) 27 (th g) (tg g) st, ownV (Kd.sl (Kd.sl Kd.u64)) 27 w3 r5.1, rdV (Kd.sl Kd.u64) v7 x9, blkP (.pointer (some ⟨bp_n, 0, none⟩)) 119 [.int .u64 p_n.zw.S.P, .int .i64 p_n.zw.S.N, .int .i64 p_n.zw.S.T, vp_n_1, vp_n_2, vp_n_3, .int .i64 r5.2.1, (th w5), vp_n_5], rdV Kd.i64 vp_n_1 p_n.zw.Corrupt, rdV K_api_Deviation vp_n_2 p_n.zw.Deviations, rdV (Kd.sl Kd.u64) vp_n_3 p_n.zw.Tapes, treeV (rowK K_api_Event 67) 46 (th w5) (tg w5) r5.2.2, rdV Kd.any vp_n_5 p_n.ztapes] ++ F) (tw (th g8) (tg g8)) el4 (Nat.zero_le _) aK (tH [(1, false), (1, false), (1, false), (0, true), (1, false), (1, true), (2, true), (3, true), (4, false), (4, true)] 5) ?_ ?_
      ·
       rintro g13 j
       refine wh_seq ?_
       refine wh_region ?_
       refine w_p Tb_ok 1 kr ?_
       refine wi_end kr ?_
       refine qh_then ?_
       refine wh_seq ?_
       refine h_cf (b := (decide ((((x9.length) : Nat) : Int) < ((x9.length : Nat) : Int)))) rgF kr ?_
       refine wh_exit ?_
       refine qh_then_exit ?_
       refine q_rzX ?_
       refine qh_block_exit ?_
       exact q_join (tw (th g13) (tg g13)) trivial aK (tH [(0, false), (0, false), (0, false), (1, false), (1, true), (2, true), (3, true), (4, false), (4, true)] 5)
      ·
       rintro rem k4 l11 g11 o4 hk4 h22 hn4 j
       have h22 : reconstruct_Rows_L3 r1 k3 x9 k4 l11 = some o4 := h22
       unfold reconstruct_Rows_L3 at h22
       refine wh_seq ?_
       refine wh_region ?_
       refine w_p Tb_ok 1 kr ?_
       refine wi_end kr ?_
       refine qh_then ?_
       refine wh_seq ?_
       refine h_ct (b := (decide (((k4 : Nat) : Int) < ((x9.length : Nat) : Int)))) (rgT hk4) kr ?_
       refine wh_skip ?_
       refine qh_then ?_
       refine wh_seq ?_
       refine wh_block ?_
       refine wh_seq ?_
       refine wh_region ?_
       obtain ⟨x11, ex11, h23⟩ := bnd h22
       refine w_ix (k := .i64) (rd_hd 3 rfl) (nbd ex11) rfl kr ts_27 ti_30 ?_
       refine w_ldR 3 0 rfl ex11 kr ti_30 rfl rfl ?_
       rintro v8
       refine w_p Tb_ok 1 kr ?_
       refine wi_end kr ?_
       refine qh_then ?_
       refine wh_seq ?_
       refine WH.ent (hd_add (tree_hdI (inP 2 rfl))) ?_
       refine WH.ent (hd_add (tree_hdI (inP 10 rfl))) ?_
       obtain ⟨r8, er8, h24⟩ := bnd h23
       obtain ⟨r9, er9, h25⟩ := bnd h24
       refine h_flow [0, 1, 0, 4, 0, 16, 0, 64, 255, 511, 1023, 1023, 1023, 2047, 12287, 32767] ⟨13, [0, 0, 0, 1, 0, 0, 0, 0, 2, 0, 0, 0, 0, 0, 0, 0], [], [(1, [(0, 3)]), (5, [(0, 3)]), (7, [(0, 3)])], [(3, [(0, 2)]), (8, [(4, 0)])]⟩ (fun γ => [.pointer (some ⟨b1, 0, none⟩), .int .u64 r1.S.P, v8, (γ 3 0), .pointer (some ⟨b1, 2, none⟩), .int .i64 r1.S.T, .pointer (some ⟨b1, 2, none⟩), .int .i64 r1.S.T, .tuple #[(γ 8 0), (γ 8 1), .int .i64 r9.2.2], .tuple #[(γ 8 0), (γ 8 1), .int .i64 r9.2.2], (γ 8 0), (γ 8 1), .int .i64 r9.2.2, (γ 8 0), (γ 8 1), .int .i64 r9.2.2]) (fun i γ => match i with | 3 => [rdV K_api_Point (γ 3 0) r8] | 8 => [rdV Kd.u64 (γ 8 0) r9.1, ownV Kd.i64 3 (γ 8 1) r9.2.1] | _ => []) (fun γ => [hdP (th w5) r5.2.2.length, hdP (th g11) l11.length, rdV Kd.u64 v8 x11, blkP (.pointer (some ⟨b1, 0, none⟩)) 24 [.int .u64 r1.S.P, .int .i64 r1.S.N, .int .i64 r1.S.T], treeV (rowK (Kd.sl Kd.u64) 30) 27 (th g11) (tg g11) l11, ownV (Kd.sl (Kd.sl Kd.u64)) 27 w3 r5.1, rdV (Kd.sl Kd.u64) v7 x9, blkP (.pointer (some ⟨bp_n, 0, none⟩)) 119 [.int .u64 p_n.zw.S.P, .int .i64 p_n.zw.S.N, .int .i64 p_n.zw.S.T, vp_n_1, vp_n_2, vp_n_3, .int .i64 r5.2.1, (th w5), vp_n_5], rdV Kd.i64 vp_n_1 p_n.zw.Corrupt, rdV K_api_Deviation vp_n_2 p_n.zw.Deviations, rdV (Kd.sl Kd.u64) vp_n_3 p_n.zw.Tapes, treeV (rowK K_api_Event 67) 46 (th w5) (tg w5) r5.2.2, rdV Kd.any vp_n_5 p_n.ztapes, rdV K_api_Point (γ 3 0) r8, rdV Kd.u64 (γ 8 0) r9.1, ownV Kd.i64 3 (γ 8 1) r9.2.1] ++ F) [0, 2, 4, 6, 9, 10, 11, 12, 13, 14, 15] tryd_mix Tb_ok kr kr (fun _ => by kernel_rfl) (fun _ => by kernel_rfl) (fun _ => by kernel_rfl) (fun _ => by kernel_rfl) (fun _ => by kernel_rfl) (fun _ => by kernel_rfl) (fun _ => by kernel_rfl) ?_ ?_
       ·
        refine ⟨?_, ?_, ?_, ?_, ?_, trivial⟩
        ·
         intro γ F
         refine WI.reH (H' := [blkP (.pointer (some ⟨b1, 0, none⟩)) 24 [.int .u64 r1.S.P, .int .i64 r1.S.N, .int .i64 r1.S.T]] ++ F) kr ?_
         refine w_ldB 0 0 rfl kr ti_22 rfl rfl ?_
         exact wE (gl []) [(0, false)] 0
        ·
         intro γ F
         refine WI.reH (H' := [rdV Kd.u64 v8 x11] ++ F) kr ?_
         refine w_fn [(0, true)] (c_reconstruct_points er8) rfl fok_73 kr ?_
         rintro _ _ ⟨w6, hv, rfl⟩; have hv := hv.symm; subst hv
         refine WI.ent (frzAt 0 rfl) ?_
         exact wE (gl [w6]) [(0, true)] 2
        ·
         intro γ F
         refine WI.reH (H' := [blkP (.pointer (some ⟨b1, 0, none⟩)) 24 [.int .u64 r1.S.P, .int .i64 r1.S.N, .int .i64 r1.S.T]] ++ F) kr ?_
         refine w_ldB 0 2 rfl kr ti_3 rfl rfl ?_
         exact wE (gl []) [(0, false)] 0
        ·
         intro γ F
         refine WI.reH (H' := [blkP (.pointer (some ⟨b1, 0, none⟩)) 24 [.int .u64 r1.S.P, .int .i64 r1.S.N, .int .i64 r1.S.T]] ++ F) kr ?_
         refine w_ldB 0 2 rfl kr ti_3 rfl rfl ?_
         exact wE (gl []) [(0, false)] 0
        ·
         intro γ F
         refine WI.reH (H' := [rdV K_api_Point (γ 3 0) r8] ++ F) kr ?_
         refine w_fn [(0, true)] (c_reedsolomon_Decode er9) rfl fok_68 kr ?_
         rintro _ _ ⟨w7, w8, hv, rfl⟩; have hv := hv.symm; subst hv
         exact wE (gl [w7, w8]) [(0, true), (1, false)] 2
       ·
        intro γ2
        refine qh_then ?_
        obtain ⟨x12, ex12, h26⟩ := bnd h25
        obtain ⟨x13, ex13, h27⟩ := bnd h26
        obtain ⟨x14, ex14, h28⟩ := bnd h27
        obtain ⟨l13, el13, h29⟩ := bnd h28
        obtain ⟨r10, er10, h30⟩ := bnd h29
        refine WH.ent (hd_add (tree_hdI (inP 4 rfl))) ?_
        refine WH.ent (hd_add (tree_hdI (inP 12 rfl))) ?_
        refine WH.row rs_row (inP 6 rfl) ex12 (fun g14 hg4 => ?_)
        refine WH.fact 0 rfl (fun hg5 => ?_)
        refine WH.ent (tr_out 8 rfl hg5 ex12) ?_
        obtain ⟨l14, el14, h31⟩ := bnd h30
        obtain ⟨l15, el15, h32⟩ := bnd h31
        refine h_flow [0, 0, 0, 0, 12, 28, 0, 0, 128, 384, 0, 1024, 3968, 8064, 16320, 32704, 65472, 131068, 262143, 524287] ⟨21, [0, 0, 0, 0, 0, 0, 0, 0, 0, 0, 0, 0, 0, 1, 1, 1, 1, 1, 0, 1], [(17, [(0, 0)]), (19, [(18, 0), (0, 1)])], [(5, [(0, 1)]), (8, [(0, 9)]), (17, [(17, 0), (0, 1)])], [(4, [(0, 5)]), (5, [(0, 2)]), (11, [(0, 19)]), (14, [(14, 0), (0, 19)]), (15, [(15, 0)]), (16, [(16, 0)]), (18, [(0, 5)])]⟩ (fun γ => [(th g11), .int .i64 ((k3 : Nat) : Int), (th g11), .int .i64 ((k3 : Nat) : Int), .pointer (some (elV (th g11) (k3 * 1))), g14, (γ2 8 0), .pointer (some ⟨b1, 2, none⟩), .int .i64 r1.S.T, .int .i64 x13, (γ2 8 0), .int .i64 ((r9.1.length : Nat) : Int), .int .i64 x14, (γ 13 0), (γ 14 0), (γ 15 0), (γ 16 0), (γ 17 0), .pointer (some (elV (th g11) (k3 * 1))), undef]) (fun i γ => match i with | 13 => [rdV Kd.u64 (γ 13 0) l13] | 14 => [rdV (Kd.sl Kd.u64) (γ 14 0) ([r9.1, l13] : List (List Nat))] | 15 => [rdV Kd.u64 (γ 15 0) r10] | 16 => [ownV (Kd.sl Kd.u64) 30 (γ 16 0) ([r10] : List (List Nat))] | 17 => [ownV (Kd.sl Kd.u64) 30 (γ 17 0) l14] | 19 => [treeV (rowK (Kd.sl Kd.u64) 30) 27 (th g11) ((tg g11).set k3 (γ 17 0)) l15] | _ => []) (fun γ => [fact ((tg g11)[k3]? = some g14), hdP g14 x12.length, hdP (th w5) r5.2.2.length, hdP (th g11) l11.length, hdP (th w5) r5.2.2.length, hdP (th g11) l11.length, rdV Kd.u64 v8 x11, blkP (.pointer (some ⟨b1, 0, none⟩)) 24 [.int .u64 r1.S.P, .int .i64 r1.S.N, .int .i64 r1.S.T], ownV (Kd.sl (Kd.sl Kd.u64)) 27 w3 r5.1, rdV (Kd.sl Kd.u64) v7 x9, blkP (.pointer (some ⟨bp_n, 0, none⟩)) 119 [.int .u64 p_n.zw.S.P, .int .i64 p_n.zw.S.N, .int .i64 p_n.zw.S.T, vp_n_1, vp_n_2, vp_n_3, .int .i64 r5.2.1, (th w5), vp_n_5], rdV Kd.i64 vp_n_1 p_n.zw.Corrupt, rdV K_api_Deviation vp_n_2 p_n.zw.Deviations, rdV (Kd.sl Kd.u64) vp_n_3 p_n.zw.Tapes, treeV (rowK K_api_Event 67) 46 (th w5) (tg w5) r5.2.2, rdV Kd.any vp_n_5 p_n.ztapes, rdV K_api_Point (γ2 3 0) r8, rdV Kd.u64 (γ2 8 0) r9.1, ownV Kd.i64 3 (γ2 8 1) r9.2.1, rdV Kd.u64 (γ 13 0) l13, rdV (Kd.sl Kd.u64) (γ 14 0) ([r9.1, l13] : List (List Nat)), rdV Kd.u64 (γ 15 0) r10, ownV (Kd.sl Kd.u64) 30 (γ 16 0) ([r10] : List (List Nat)), treeV (rowK (Kd.sl Kd.u64) 30) 27 (th g11) ((tg g11).set k3 (γ 17 0)) l15] ++ F) [0, 1, 2, 3, 6, 7, 10] tryd_mix Tb_ok kr kr (fun _ => by kernel_rfl) (fun _ => by kernel_rfl) (fun _ => by kernel_rfl) (fun _ => by kernel_rfl) (fun _ => by kernel_rfl) (fun _ => by kernel_rfl) (fun _ => by kernel_rfl) ?_ ?_
        ·
         refine ⟨?_, ?_, ?_, ?_, ?_, ?_, ?_, ?_, ?_, ?_, ?_, ?_, ?_, trivial⟩
         ·
          intro γ F
          refine WI.reH (H' := [hdP (th g11) l11.length] ++ F) kr ?_
          refine w_ix (k := .i64) (hdI 0 rfl) (nbd ex12) rfl kr ts_75 ti_27 ?_
          exact wE (gl []) [] 1
         ·
          intro γ F
          refine WI.reH (H' := [holeV (rowK (Kd.sl Kd.u64) 30) 27 (th g11) (tg g11) l11 k3, fact ((tg g11)[k3]? = some g14)] ++ F) kr ?_
          refine WI.fact 1 rfl (fun hg6 => ?_)
          refine w_ldG (m := k3) (hOut (inP 0 rfl)) hg6 kr ti_27 ?_
          exact wE (gl []) [(0, false)] 1
         ·
          intro γ F
          refine WI.reH (H' := [blkP (.pointer (some ⟨b1, 0, none⟩)) 24 [.int .u64 r1.S.P, .int .i64 r1.S.N, .int .i64 r1.S.T]] ++ F) kr ?_
          refine w_ldB 0 2 rfl kr ti_3 rfl rfl ?_
          exact wE (gl []) [(0, false)] 0
         ·
          intro γ F
          refine WI.reH (H' := [] ++ F) kr ?_
          refine w_bi (zaddI ex13) kr ?_
          exact wE (gl []) [] 0
         ·
          intro γ F
          refine WI.reH (H' := [rdV Kd.u64 (γ2 8 0) r9.1] ++ F) kr ?_
          refine w_len (rd_hd 0 rfl) kr ts_30 ?_
          exact wE (gl []) [] 1
         ·
          intro γ F
          refine WI.reH (H' := [] ++ F) kr ?_
          refine w_bi (zsubI ex14) kr ?_
          exact wE (gl []) [] 0
         ·
          intro γ F
          refine WI.reH (H' := [] ++ F) kr ?_
          refine w_mk (kd := Kd.u64) (kl := .i64) (kc := .i64) () el13 kr ts_30 ti_22 rfl kr (it0 rfl) (fun v9 => ?_)
          refine WI.ent (frzAt 0 rfl) ?_
          exact wE (gl [v9]) [(0, true)] 1
         ·
          intro γ F
          refine WI.reH (H' := [rdV Kd.u64 (γ 13 0) l13, rdV Kd.u64 (γ2 8 0) r9.1] ++ F) kr ?_
          refine w_lt (kd := (Kd.sl Kd.u64)) (t := 27) (len := 2) (ps0 := [(0, (γ2 8 0)), (1, (γ 13 0))]) (ps := [(0, .agg #[(γ2 8 0)]), (1, .agg #[(γ 13 0)])]) ([r9.1, l13] : List (List Nat)) _ (rowC (x := r9.1) (g := (γ2 8 0)) (itS 1 rfl) (rowC (x := l13) (g := (γ 13 0)) (itS 0 rfl) row0)) (scS (rd_hd 1 rfl) (scS (rd_hd 0 rfl) sc0)) kr ts_27 ti_30 kr rfl rfl (fun v10 => ?_)
          refine WI.ent (frzAt 0 rfl) ?_
          exact wE (gl [v10]) [(0, true)] 3
         ·
          intro γ F
          refine WI.reH (H' := [rdV (Kd.sl Kd.u64) (γ 14 0) ([r9.1, l13] : List (List Nat))] ++ F) kr ?_
          refine w_fn [(0, true)] (c_slices_Concat_Luint64_uint64 er10) rfl fok_76 kr ?_
          rintro _ _ ⟨w10, hv, rfl⟩; have hv := hv.symm; subst hv
          refine WI.ent (frzAt 0 rfl) ?_
          exact wE (gl [w10]) [(0, true)] 2
         ·
          intro γ F
          refine WI.reH (H' := [rdV Kd.u64 (γ 15 0) r10] ++ F) kr ?_
          refine w_lt (kd := (Kd.sl Kd.u64)) (t := 27) (len := 1) (ps0 := [(0, (γ 15 0))]) (ps := [(0, .agg #[(γ 15 0)])]) ([r10] : List (List Nat)) _ (rowC (x := r10) (g := (γ 15 0)) (itS 0 rfl) row0) (scS (rd_hd 0 rfl) sc0) kr ts_27 ti_30 kr rfl rfl (fun v11 => ?_)
          exact wE (gl [v11]) [(0, false)] 1
         ·
          intro γ F
          refine WI.reH (H' := [ownV (Kd.sl Kd.u64) 30 g14 x12, ownV (Kd.sl Kd.u64) 30 (γ 16 0) ([r10] : List (List Nat)), holeV (rowK (Kd.sl Kd.u64) 30) 27 (th g11) (tg g11) l11 k3] ++ F) kr ?_
          refine w_app 0 rfl (own_src 1 rfl) el14 kr ts_27 ti_30 rfl (fun v12 => ?_)
          exact wE (gl [v12]) [(0, false), (0, false), (0, false)] 0
         ·
          intro γ F
          refine WI.reH (H' := [hdP (th g11) l11.length] ++ F) kr ?_
          refine w_ix (k := .i64) (hdI 0 rfl) (nbd ex12) rfl kr ts_75 ti_27 ?_
          exact wE (gl []) [] 1
         ·
          intro γ F
          refine WI.reH (H' := [ownV (Kd.sl Kd.u64) 30 (γ 17 0) l14, holeV (rowK (Kd.sl Kd.u64) 30) 27 (th g11) (tg g11) l11 k3] ++ F) kr ?_
          refine w_stH (R := (rowK (Kd.sl Kd.u64) 30)) (g' := (γ 17 0)) (m := k3) 0 0 rfl rfl (nbd ex12) (sinj el15) rfl (cvS (own_hd 0 rfl)) (sl_one (own_hd 0 rfl)) kr ti_27 ?_
          exact wE (gl []) [(0, false)] 0
        ·
         intro γ3
         refine qh_block_normal ?_
         refine qh_then ?_
         refine wh_region ?_
         refine w_bi (zinc hk4 hN4) kr ?_
         refine w_p Tb_ok 1 kr ?_
         refine wi_end kr ?_
         have h32 := Option.some.inj h32; subst h32
         exact q_rs (tw (th g11) ((tg g11).set k3 (γ3 17 0))) hn4 aK (tH [(7, false), (22, false), (7, false), (7, true), (8, false), (8, true), (9, true), (10, true), (11, false), (11, true)] 19)
     ·
      rintro g12 - j
      refine qh_block_normal ?_
      refine qh_then ?_
      refine wh_region ?_
      refine w_bi (zinc hk3 hN3) kr ?_
      refine w_p Tb_ok 1 kr ?_
      refine wi_end kr ?_
      have h21 := Option.some.inj h21; subst h21
      exact q_rs (tw (th g12) (tg g12)) hn3 aK (tH [(0, false), (0, false), (0, false), (0, false), (0, true), (1, true), (2, true), (3, false), (3, true)] 4)
   ·
    rintro g9 - j
    refine qh_then ?_
    refine wh_seq ?_
    refine wh_region ?_
    refine w_p Tb_ok 2 kr ?_
    refine wi_end kr ?_
    refine qh_then ?_
    refine wh_ret ?_
    refine QH.ent (tr_own fz_row 0 rfl) ?_
    have h18 := Option.some.inj h18; subst h18
    exact q_end (l := [(th g9)]) [(0, false), (0, false), (3, false)] 4 ⟨(th g9), (tw (th w5) (tg w5)), rfl, rfl⟩ (.inl rfl) kr kr kr
theorem c_privityref14_Honest {p_w : T_api_Scenario} {p_i : Int} {vp_w_1 : Value} {vp_w_2 : Value} {vp_w_3 : Value} {r : Bool} (h : privityref14_Honest p_w p_i = some r) : Ct Tryd.prog 40 [.agg #[.int .u64 p_w.S.P, .int .i64 p_w.S.N, .int .i64 p_w.S.T, vp_w_1, vp_w_2, vp_w_3], .int .i64 p_i] [rdV Kd.i64 vp_w_1 p_w.Corrupt, rdV K_api_Deviation vp_w_2 p_w.Deviations, rdV (Kd.sl Kd.u64) vp_w_3 p_w.Tapes] (fun v L => v = .bool r ∧ L = []) := by
 refine ct_intro Tryd.func40 rfl kr (fun F => ?_)
 unfold privityref14_Honest at h
 refine wh_seq ?_
 refine wh_region ?_
 refine w_box (t := 29) (v := .agg #[.int .u64 p_w.S.P, .int .i64 p_w.S.N, .int .i64 p_w.S.T, vp_w_1, vp_w_2, vp_w_3]) (cs := [.int .u64 p_w.S.P, .int .i64 p_w.S.N, .int .i64 p_w.S.T, vp_w_1, vp_w_2, vp_w_3]) (cv0 kr) kr (fun q1 => ?_)
 refine WI.hd (y := blkP q1 29 [.int .u64 p_w.S.P, .int .i64 p_w.S.N, .int .i64 p_w.S.T, vp_w_1, vp_w_2, vp_w_3]) kr ?_
 refine w_opP 0 rfl (fun b1 hb => ?_)
 subst hb
 refine w_p Tb_ok 1 kr ?_
 refine wi_end kr ?_
 refine qh_then ?_
 refine wh_seq ?_
 refine wh_seq ?_
 refine wh_region ?_
 refine w_p Tb_ok 1 kr ?_
 refine wi_end kr ?_
 refine qh_then ?_
 refine h_lenle (rd_lenle 1 rfl) (fun hN1 => ?_)
 obtain ⟨r1, el1, h1⟩ := bnd h
 refine h_join (X := Unit × Unit) (fun g => []) (fun g => [] ++ F) (fun g => r1 = .go g.2) ?_ ?_
 ·
  refine wh_block ?_
  refine h_rg (fun (k1 : Nat) (st : Unit) (g : Unit) => [(1, .int .i64 p_i), (2, (.pointer (some ⟨b1, 0, none⟩))), (5, .int .i64 ((k1 : Nat) : Int))]) (fun (k1 : Nat) (st : Unit) (g : Unit) => [blkP (.pointer (some ⟨b1, 0, none⟩)) 29 [.int .u64 p_w.S.P, .int .i64 p_w.S.N, .int .i64 p_w.S.T, vp_w_1, vp_w_2, vp_w_3], rdV Kd.i64 vp_w_1 p_w.Corrupt, rdV K_api_Deviation vp_w_2 p_w.Deviations, rdV (Kd.sl Kd.u64) vp_w_3 p_w.Tapes] ++ F) () el1 (Nat.zero_le _) aK (tH [(0, false), (0, true), (1, true), (2, true)] 3) ?_ ?_
  ·
   rintro ⟨⟩ ⟨⟩ hr1 j
   refine wh_seq ?_
   refine wh_seq ?_
   refine wh_region ?_
   refine w_p Tb_ok 2 kr ?_
   refine w_ldB 0 3 rfl kr ti_25 rfl rfl ?_
   refine w_len (rd_hd 1 rfl) kr ts_25 ?_
   refine w_p Tb_ok 1 kr ?_
   refine wi_end kr ?_
   refine qh_then ?_
   refine h_cf (b := (decide ((((p_w.Corrupt.length) : Nat) : Int) < ((p_w.Corrupt.length : Nat) : Int)))) rgF kr ?_
   refine wh_exit ?_
   refine qh_then_exit ?_
   refine q_rzX ?_
   refine qh_block_exit ?_
   exact q_join ((), ()) hr1 aK (tH [] 4)
  ·
   rintro rem k1 ⟨⟩ ⟨⟩ o1 hk1 h2 hn1 j
   have h2 : privityref14_Honest_L0 p_w p_i k1 = some o1 := h2
   unfold privityref14_Honest_L0 at h2
   refine wh_seq ?_
   refine wh_seq ?_
   refine wh_region ?_
   refine w_p Tb_ok 2 kr ?_
   refine w_ldB 0 3 rfl kr ti_25 rfl rfl ?_
   refine w_len (rd_hd 1 rfl) kr ts_25 ?_
   refine w_p Tb_ok 1 kr ?_
   refine wi_end kr ?_
   refine qh_then ?_
   refine h_ct (b := (decide (((k1 : Nat) : Int) < ((p_w.Corrupt.length : Nat) : Int)))) (rgT hk1) kr ?_
   refine wh_skip ?_
   refine qh_then ?_
   refine wh_seq ?_
   refine wh_block ?_
   refine wh_seq ?_
   refine wh_region ?_
   refine w_p Tb_ok 1 kr ?_
   refine w_ldB 0 3 rfl kr ti_25 rfl rfl ?_
   refine w_p Tb_ok 1 kr ?_
   obtain ⟨x1, ex1, h3⟩ := bnd h2
   refine w_ix (k := .i64) (rd_hd 1 rfl) (nbd ex1) rfl kr ts_25 ti_3 ?_
   refine w_ldR 1 0 rfl ex1 kr ti_3 rfl rfl ?_
   rintro _
   refine w_p Tb_ok 2 kr ?_
   refine wi_end kr ?_
   refine qh_then ?_
   rcases bcase h3 with ⟨t1, h4⟩ | ⟨t1, h4⟩
   ·
    refine h_ct (b := (x1 == p_i)) t1 kr ?_
    refine wh_seq ?_
    refine wh_region ?_
    refine w_p Tb_ok 1 kr ?_
    refine wi_end kr ?_
    refine qh_then ?_
    refine wh_ret ?_
    refine qh_block_ret ?_
    refine qh_then_ret ?_
    refine q_rgR ?_
    refine qh_block_ret ?_
    refine q_joinR ?_
    refine qh_then_ret ?_
    have h4 := Option.some.inj h4; subst h4
    have hn := (show _ = _ from hn1); subst hn
    have h1 := Option.some.inj (show some _ = some _ from h1); subst h1
    exact q_end (l := [.bool false]) [] 4 ⟨rfl, rfl⟩ (.inl rfl) kr kr kr
   ·
    refine h_cf (b := (x1 == p_i)) t1 kr ?_
    refine wh_skip ?_
    refine qh_block_normal ?_
    refine qh_then ?_
    refine wh_region ?_
    refine w_p Tb_ok 1 kr ?_
    refine w_bi (zinc hk1 hN1) kr ?_
    refine w_p Tb_ok 1 kr ?_
    refine wi_end kr ?_
    have h4 := Option.some.inj h4; subst h4
    exact q_rgo () hn1 aK (tH [(0, false), (0, true), (1, true), (2, true)] 3)
 ·
  rintro ⟨⟨⟩, ⟨⟩⟩ hc j
  subst hc
  refine qh_then ?_
  refine wh_seq ?_
  refine wh_region ?_
  refine w_p Tb_ok 1 kr ?_
  refine wi_end kr ?_
  refine qh_then ?_
  refine wh_ret ?_
  have h1 := Option.some.inj h1; subst h1
  exact q_end (l := [.bool true]) [] 0 ⟨rfl, rfl⟩ (.inl rfl) kr kr kr
theorem c_privitylaw20_ReconstructRowsRobust {p_w : T_api_Scenario} {p_three : T_arr3_22} {p_at : Nat} {vp_w_1 : Value} {vp_w_2 : Value} {vp_w_3 : Value} {r : Bool} (h : privitylaw20_ReconstructRowsRobust p_w p_three p_at = some r) : Ct Tryd.prog 12 [.agg #[.int .u64 p_w.S.P, .int .i64 p_w.S.N, .int .i64 p_w.S.T, vp_w_1, vp_w_2, vp_w_3], .agg #[.int .u64 p_three.e0, .int .u64 p_three.e1, .int .u64 p_three.e2], .int .u8 p_at] [rdV Kd.i64 vp_w_1 p_w.Corrupt, rdV K_api_Deviation vp_w_2 p_w.Deviations, rdV (Kd.sl Kd.u64) vp_w_3 p_w.Tapes, exF] (fun v L => v = .bool r ∧ L = []) := by
 refine ct_intro Tryd.func12 rfl kr (fun F => ?_)
 unfold privitylaw20_ReconstructRowsRobust at h
 refine wh_seq ?_
 refine wh_region ?_
 refine w_box (t := 29) (v := .agg #[.int .u64 p_w.S.P, .int .i64 p_w.S.N, .int .i64 p_w.S.T, vp_w_1, vp_w_2, vp_w_3]) (cs := [.int .u64 p_w.S.P, .int .i64 p_w.S.N, .int .i64 p_w.S.T, vp_w_1, vp_w_2, vp_w_3]) (cv0 kr) kr (fun q1 => ?_)
 refine WI.hd (y := blkP q1 29 [.int .u64 p_w.S.P, .int .i64 p_w.S.N, .int .i64 p_w.S.T, vp_w_1, vp_w_2, vp_w_3]) kr ?_
 refine w_opP 0 rfl (fun b1 hb => ?_)
 subst hb
 refine w_box (t := 70) (v := .agg #[.int .u64 p_three.e0, .int .u64 p_three.e1, .int .u64 p_three.e2]) (cs := [.int .u64 p_three.e0, .int .u64 p_three.e1, .int .u64 p_three.e2]) (cv0 kr) kr (fun q2 => ?_)
 refine WI.hd (y := blkP q2 70 [.int .u64 p_three.e0, .int .u64 p_three.e1, .int .u64 p_three.e2]) kr ?_
 refine w_opP 0 rfl (fun b2 hb => ?_)
 subst hb
 refine w_p Tb_ok 1 kr ?_
 refine wi_end kr ?_
 refine qh_then ?_
 refine wh_seq ?_
 refine wh_seq ?_
 obtain ⟨x1, ej1, h1⟩ := bnd h
 refine h_join (X := Unit) (fun g => [(2, .int .u8 p_at), (3, (.pointer (some ⟨b1, 0, none⟩))), (4, (.pointer (some ⟨b2, 0, none⟩))), (28, .bool x1)]) (fun g => [blkP (.pointer (some ⟨b1, 0, none⟩)) 29 [.int .u64 p_w.S.P, .int .i64 p_w.S.N, .int .i64 p_w.S.T, vp_w_1, vp_w_2, vp_w_3], rdV Kd.i64 vp_w_1 p_w.Corrupt, rdV K_api_Deviation vp_w_2 p_w.Deviations, rdV (Kd.sl Kd.u64) vp_w_3 p_w.Tapes, blkP (.pointer (some ⟨b2, 0, none⟩)) 70 [.int .u64 p_three.e0, .int .u64 p_three.e1, .int .u64 p_three.e2], exF] ++ F) (fun _ => True) ?_ ?_
 ·
  refine wh_region ?_
  refine w_ldB 1 0 rfl kr ti_29 rfl rfl ?_
  obtain ⟨r1, er1, h2⟩ := bnd ej1
  refine w_fn [(2, true), (3, true), (4, true)] (c_privityref14_Fair er1) rfl fok_45 kr ?_
  rintro _ _ ⟨hv, rfl⟩; have hv := hv.symm; subst hv
  refine w_p Tb_ok 2 kr ?_
  rcases bcase h2 with ⟨t1, h3⟩ | ⟨t1, h3⟩
  ·
   refine w_kb (t := 23) t1 kr ?_
   refine w_p Tb_ok 5 kr ?_
   refine wi_end kr ?_
   cases h3
   exact q_join () trivial aK (tH [(1, false), (1, true), (2, true), (3, true), (0, false), (3, true)] 4)
  ·
   refine w_kb (t := 23) t1 kr ?_
   refine w_p Tb_ok 2 kr ?_
   refine w_ldB 1 2 rfl kr ti_3 rfl rfl ?_
   refine w_p Tb_ok 2 kr ?_
   refine wi_end kr ?_
   cases h3
   exact q_join () trivial aK (tH [(1, false), (1, true), (2, true), (3, true), (0, false), (3, true)] 4)
 ·
  rintro ⟨⟩ - j
  refine qh_then ?_
  rcases bcase h1 with ⟨t2, h4⟩ | ⟨t2, h4⟩
  ·
   refine h_ct (b := x1) t2 kr ?_
   refine wh_seq ?_
   refine wh_region ?_
   obtain ⟨r2, er2, h5⟩ := bnd h4
   refine w_fn [(5, true)] (c_privitylaw20_awake er2) rfl fok_36 kr ?_
   rintro _ _ ⟨hv, rfl⟩; have hv := hv.symm; subst hv
   refine w_p Tb_ok 1 kr ?_
   refine wi_end kr ?_
   refine qh_then ?_
   refine wh_ret ?_
   refine qh_then_ret ?_
   have h5 := Option.some.inj h5; subst h5
   exact q_end (l := [.bool r2]) [] 6 ⟨rfl, rfl⟩ (.inl rfl) kr kr kr
  ·
   refine h_cf (b := x1) t2 kr ?_
   refine wh_skip ?_
   refine qh_then ?_
   refine wh_seq ?_
   refine wh_region ?_
   refine w_p Tb_ok 2 kr ?_
   refine w_ldB 0 0 rfl kr ti_22 rfl rfl ?_
   refine w_p Tb_ok 1 kr ?_
   refine wi_end kr ?_
   refine qh_then ?_
   refine wh_seq ?_
   obtain ⟨x2, ex2, h6⟩ := bnd h4
   obtain ⟨x3, ex3, h7⟩ := bnd h6
   obtain ⟨x4, ex4, h8⟩ := bnd h7
   refine h_flow [0, 1, 0, 7, 0, 16, 0, 112, 0, 256, 0, 1792, 15, 4351, 16383] ⟨6, [0, 0, 0, 0, 0, 0, 0, 0, 0, 0, 0, 0, 0, 0, 0], [], [(1, [(0, 4)]), (5, [(0, 4)]), (9, [(0, 4)])], []⟩ (fun γ => [.pointer (some ⟨b2, 0, none⟩), .int .u64 p_three.e0, .int .u64 p_w.S.P, .int .u64 x2, .pointer (some ⟨b2, 1, none⟩), .int .u64 p_three.e1, .int .u64 p_w.S.P, .int .u64 x3, .pointer (some ⟨b2, 2, none⟩), .int .u64 p_three.e2, .int .u64 p_w.S.P, .int .u64 x4, .int .u64 x2, .int .u64 x3, .int .u64 x4]) (fun _ _ => []) (fun γ => [blkP (.pointer (some ⟨b1, 0, none⟩)) 29 [.int .u64 p_w.S.P, .int .i64 p_w.S.N, .int .i64 p_w.S.T, vp_w_1, vp_w_2, vp_w_3], rdV Kd.i64 vp_w_1 p_w.Corrupt, rdV K_api_Deviation vp_w_2 p_w.Deviations, rdV (Kd.sl Kd.u64) vp_w_3 p_w.Tapes, blkP (.pointer (some ⟨b2, 0, none⟩)) 70 [.int .u64 p_three.e0, .int .u64 p_three.e1, .int .u64 p_three.e2], exF] ++ F) [2, 6, 10, 12, 13, 14] tryd_mix Tb_ok kr kr (fun _ => by kernel_rfl) (fun _ => by kernel_rfl) (fun _ => by kernel_rfl) (fun _ => by kernel_rfl) (fun _ => by kernel_rfl) (fun _ => by kernel_rfl) (fun _ => by kernel_rfl) ?_ ?_
   ·
    refine ⟨?_, ?_, ?_, ?_, ?_, ?_, ?_, ?_, ?_, trivial⟩
    ·
     intro γ F
     refine WI.reH (H' := [] ++ F) kr ?_
     refine w_run (v := .pointer (some ⟨b2, 0, none⟩)) (fun w => by kernel_rfl) ?_
     exact wE (gl []) [] 0
    ·
     intro γ F
     refine WI.reH (H' := [blkP (.pointer (some ⟨b2, 0, none⟩)) 70 [.int .u64 p_three.e0, .int .u64 p_three.e1, .int .u64 p_three.e2]] ++ F) kr ?_
     refine w_ldB 0 0 rfl kr ti_22 rfl rfl ?_
     exact wE (gl []) [(0, false)] 0
    ·
     intro γ F
     refine WI.reH (H' := [] ++ F) kr ?_
     refine w_bi (zremU ex2) kr ?_
     exact wE (gl []) [] 0
    ·
     intro γ F
     refine WI.reH (H' := [] ++ F) kr ?_
     refine w_run (v := .pointer (some ⟨b2, 1, none⟩)) (fun w => by kernel_rfl) ?_
     exact wE (gl []) [] 0
    ·
     intro γ F
     refine WI.reH (H' := [blkP (.pointer (some ⟨b2, 0, none⟩)) 70 [.int .u64 p_three.e0, .int .u64 p_three.e1, .int .u64 p_three.e2]] ++ F) kr ?_
     refine w_ldB 0 1 rfl kr ti_22 rfl rfl ?_
     exact wE (gl []) [(0, false)] 0
    ·
     intro γ F
     refine WI.reH (H' := [] ++ F) kr ?_
     refine w_bi (zremU ex3) kr ?_
     exact wE (gl []) [] 0
    ·
     intro γ F
     refine WI.reH (H' := [] ++ F) kr ?_
     refine w_run (v := .pointer (some ⟨b2, 2, none⟩)) (fun w => by kernel_rfl) ?_
     exact wE (gl []) [] 0
    ·
     intro γ F
     refine WI.reH (H' := [blkP (.pointer (some ⟨b2, 0, none⟩)) 70 [.int .u64 p_three.e0, .int .u64 p_three.e1, .int .u64 p_three.e2]] ++ F) kr ?_
     refine w_ldB 0 2 rfl kr ti_22 rfl rfl ?_
     exact wE (gl []) [(0, false)] 0
    ·
     intro γ F
     refine WI.reH (H' := [] ++ F) kr ?_
     refine w_bi (zremU ex4) kr ?_
     exact wE (gl []) [] 0
   ·
    intro γ1
    refine qh_then ?_
    refine wh_seq ?_
    refine wh_region ?_
    refine w_p Tb_ok 4 kr ?_
    refine w_bd (v := .agg #[.int .u64 p_w.S.P, .int .u64 x2, .int .u64 x3, .int .u64 x4]) (t := 73) (ps0 := [(0, .int .u64 p_w.S.P), (1, .int .u64 x2), (2, .int .u64 x3), (3, .int .u64 x4)]) (ps := [(0, .int .u64 p_w.S.P), (1, .int .u64 x2), (2, .int .u64 x3), (3, .int .u64 x4)]) (scI (scI (scI (scI sc0)))) kr (fun w => by kernel_rfl) ?_
    refine w_al kr ti_73 (fun q3 => ?_)
    refine WI.hd (y := blkP q3 73 [.int .u64 ((0 : Nat) : Int), .int .u64 ((0 : Nat) : Int), .int .u64 ((0 : Nat) : Int), .int .u64 ((0 : Nat) : Int)]) kr ?_
    refine w_opP 0 rfl (fun b3 hb => ?_)
    subst hb
    refine w_stB (v := .agg #[.int .u64 p_w.S.P, .int .u64 x2, .int .u64 x3, .int .u64 x4]) (off := 0) (cs := [.int .u64 p_w.S.P, .int .u64 x2, .int .u64 x3, .int .u64 x4]) 0 rfl (cv0 kr) kr ti_73 rfl rfl (oC (fun _ _ => rfl) (oC (fun _ _ => rfl) (oC (fun _ _ => rfl) (oC (fun _ _ => rfl) oN)))) ?_
    refine WI.hd (y := blkP (.pointer (some ⟨b3, 0, none⟩)) 73 [.int .u64 p_w.S.P, .int .u64 x2, .int .u64 x3, .int .u64 x4]) kr ?_
    refine wi_end kr ?_
    refine qh_then ?_
    refine wh_seq ?_
    refine wh_region ?_
    refine w_p Tb_ok 1 kr ?_
    refine wi_end kr ?_
    refine qh_then ?_
    refine wh_seq ?_
    refine wh_seq ?_
    refine wh_region ?_
    refine w_p Tb_ok 1 kr ?_
    refine wi_end kr ?_
    refine qh_then ?_
    refine WH.ent (ownNil (kd := (Kd.sl Kd.u64)) (e := 30)) ?_
    obtain ⟨u1, eu1, h9⟩ := bnd h8
    have hN1 := ckN_some eu1
    obtain ⟨l2, el1, h10⟩ := bnd h9
    refine h_join (X := Value) (fun g => [(2, .int .u8 p_at), (3, (.pointer (some ⟨b1, 0, none⟩))), (11, (.pointer (some ⟨b3, 0, none⟩))), (12, g)]) (fun g => [blkP (.pointer (some ⟨b1, 0, none⟩)) 29 [.int .u64 p_w.S.P, .int .i64 p_w.S.N, .int .i64 p_w.S.T, vp_w_1, vp_w_2, vp_w_3], rdV Kd.i64 vp_w_1 p_w.Corrupt, rdV K_api_Deviation vp_w_2 p_w.Deviations, rdV (Kd.sl Kd.u64) vp_w_3 p_w.Tapes, blkP (.pointer (some ⟨b3, 0, none⟩)) 73 [.int .u64 p_w.S.P, .int .u64 x2, .int .u64 x3, .int .u64 x4], ownV (Kd.sl Kd.u64) 30 g l2, exF] ++ F) (fun _ => True) ?_ ?_
    ·
     refine wh_block ?_
     refine h_rs (fun (k1 : Nat) (st : (List (List Nat))) (g : Value) => [(2, .int .u8 p_at), (3, (.pointer (some ⟨b1, 0, none⟩))), (11, (.pointer (some ⟨b3, 0, none⟩))), (12, g), (13, .int .i64 ((k1 : Nat) : Int))]) (fun (k1 : Nat) (st : (List (List Nat))) (g : Value) => [blkP (.pointer (some ⟨b1, 0, none⟩)) 29 [.int .u64 p_w.S.P, .int .i64 p_w.S.N, .int .i64 p_w.S.T, vp_w_1, vp_w_2, vp_w_3], rdV Kd.i64 vp_w_1 p_w.Corrupt, rdV K_api_Deviation vp_w_2 p_w.Deviations, rdV (Kd.sl Kd.u64) vp_w_3 p_w.Tapes, blkP (.pointer (some ⟨b3, 0, none⟩)) 73 [.int .u64 p_w.S.P, .int .u64 x2, .int .u64 x3, .int .u64 x4], ownV (Kd.sl Kd.u64) 30 g st, exF] ++ F) (.slice none 0 0) el1 (Nat.le_max_left ..) aK (tH [(2, false), (2, true), (3, true), (4, true), (1, false), (0, false), (4, true)] 5) ?_ ?_
     ·
      rintro g3 j
      refine wh_seq ?_
      refine wh_seq ?_
      refine wh_region ?_
      refine w_p Tb_ok 3 kr ?_
      refine w_ldB 0 1 rfl kr ti_3 rfl rfl ?_
      refine w_p Tb_ok 1 kr ?_
      refine wi_end kr ?_
      refine qh_then ?_
      refine h_cf (b := (decide ((((max 1 (p_w.S.N + 1).toNat) : Nat) : Int) ≤ p_w.S.N))) rgEF kr ?_
      refine wh_exit ?_
      refine qh_then_exit ?_
      refine q_rzX ?_
      refine qh_block_exit ?_
      exact q_join g3 trivial aK (tH [(0, false), (0, true), (1, true), (2, true), (3, false), (3, false), (3, true)] 4)
     ·
      rintro rem k1 l1 g1 o1 hk1 h11 hn1 j
      have h11 : privitylaw20_ReconstructRowsRobust_L0 p_w x2 x3 x4 k1 l1 = some o1 := h11
      unfold privitylaw20_ReconstructRowsRobust_L0 at h11
      refine wh_seq ?_
      refine wh_seq ?_
      refine wh_region ?_
      refine w_p Tb_ok 3 kr ?_
      refine w_ldB 0 1 rfl kr ti_3 rfl rfl ?_
      refine w_p Tb_ok 1 kr ?_
      refine wi_end kr ?_
      refine qh_then ?_
      refine h_ct (b := (decide (((k1 : Nat) : Int) ≤ p_w.S.N))) (rgET hk1) kr ?_
      refine wh_skip ?_
      refine qh_then ?_
      refine wh_seq ?_
      refine wh_block ?_
      refine wh_region ?_
      refine w_p Tb_ok 1 kr ?_
      refine w_ldB 4 0 rfl kr ti_73 rfl rfl ?_
      refine w_p Tb_ok 1 kr ?_
      obtain ⟨x6, ex6, h12⟩ := bnd h11
      refine w_cv Tb_ok (ecU ex6) kr ?_
      obtain ⟨r4, er4, h13⟩ := bnd h12
      refine w_fn [] (c_privitylaw20_plane_at er4) rfl fok_46 kr ?_
      rintro _ _ ⟨w3, hv, rfl⟩; have hv := hv.symm; subst hv
      refine WI.ent (frzAt 0 rfl) ?_
      refine w_lt (kd := (Kd.sl Kd.u64)) (t := 44) (len := 1) (ps0 := [(0, w3)]) (ps := [(0, .agg #[w3])]) ([r4] : List (List Nat)) _ (rowC (x := r4) (g := w3) (itS 0 rfl) row0) (scS (rd_hd 0 rfl) sc0) kr ts_44 ti_30 kr rfl rfl (fun v1 => ?_)
      obtain ⟨l3, el3, h14⟩ := bnd h13
      refine w_app 7 rfl (own_src 0 rfl) el3 kr ts_44 ti_30 rfl (fun v2 => ?_)
      refine w_p Tb_ok 1 kr ?_
      refine wi_end kr ?_
      refine qh_block_normal ?_
      refine qh_then ?_
      refine wh_region ?_
      refine w_p Tb_ok 1 kr ?_
      refine w_bi (zinc hk1 hN1) kr ?_
      refine w_p Tb_ok 1 kr ?_
      refine wi_end kr ?_
      have h14 := Option.some.inj h14; subst h14
      exact q_rs v2 hn1 aK (tH [(3, false), (3, true), (4, true), (5, true), (6, false), (0, false), (5, true)] 6)
    ·
     rintro g2 - j
     refine qh_then ?_
     refine wh_seq ?_
     refine wh_region ?_
     refine w_p Tb_ok 1 kr ?_
     obtain ⟨x7, ex7, h15⟩ := bnd h10
     refine w_cv Tb_ok (ecI ex7) kr ?_
     refine w_p Tb_ok 2 kr ?_
     refine w_ldB 0 1 rfl kr ti_3 rfl rfl ?_
     obtain ⟨x8, ex8, h16⟩ := bnd h15
     refine w_bi (zremI ex8) kr ?_
     obtain ⟨x9, ex9, h17⟩ := bnd h16
     refine w_bi (zaddI ex9) kr ?_
     refine w_p Tb_ok 1 kr ?_
     refine wi_end kr ?_
     refine qh_then ?_
     refine wh_seq ?_
     refine wh_region ?_
     refine w_ldB 0 0 rfl kr ti_29 rfl rfl ?_
     obtain ⟨r5, er5, h18⟩ := bnd h17
     rcases r5 with r6 | r7
     ·
      have h19 := sumL h18
      refine w_fn [(1, true), (2, true), (3, true), (6, true)] (c_privitylaw20_nets er5) rfl fok_37 kr ?_
      rintro _ _ ⟨hv, rfl⟩; have hv := hv.symm; subst hv
      refine w_p Tb_ok 7 kr ?_
      refine wi_end kr ?_
      refine qh_then ?_
      refine wh_seq ?_
      refine wh_seq ?_
      refine wh_region ?_
      refine w_p Tb_ok 2 kr ?_
      refine wi_end kr ?_
      refine qh_then ?_
      refine h_ct (b := true) rfl kr ?_
      refine wh_seq ?_
      refine wh_region ?_
      refine w_p Tb_ok 1 kr ?_
      refine wi_end kr ?_
      refine qh_then ?_
      refine wh_ret ?_
      refine qh_then_ret ?_
      have h19 := Option.some.inj h19; subst h19
      exact q_end (l := [.bool false]) [] 7 ⟨rfl, rfl⟩ (.inl rfl) kr kr kr
     ·
      have h20 := sumR h18
      rcases r7 with r8 | r9
      ·
       have h21 := sumL h20
       refine w_fn [(1, true), (2, true), (3, true), (6, true)] (c_privitylaw20_nets er5) rfl fok_37 kr ?_
       rintro _ _ ⟨w8, w8__0_1, w8__0_2, w8__0_3, w8__2, w8__3, hv, rfl⟩; have hv := hv.symm; subst hv
       refine w_opP 0 rfl (fun b4 hb => ?_)
       subst hb
       refine w_p Tb_ok 7 kr ?_
       refine wi_end kr ?_
       refine qh_then ?_
       refine wh_seq ?_
       refine wh_seq ?_
       refine wh_region ?_
       refine w_p Tb_ok 2 kr ?_
       refine wi_end kr ?_
       refine qh_then ?_
       refine h_ct (b := true) rfl kr ?_
       refine wh_seq ?_
       refine wh_region ?_
       refine w_p Tb_ok 1 kr ?_
       refine wi_end kr ?_
       refine qh_then ?_
       refine wh_ret ?_
       refine qh_then_ret ?_
       have h21 := Option.some.inj h21; subst h21
       exact q_end (l := [.bool false]) [] 13 ⟨rfl, rfl⟩ (.inl rfl) kr kr kr
      ·
       have h22 := sumR h20
       rcases r9 with r10 | r11
       ·
        have h23 := sumL h22
        refine w_fn [(1, true), (2, true), (3, true), (6, true)] (c_privitylaw20_nets er5) rfl fok_37 kr ?_
        rintro _ _ ⟨w10, w10__0_1, w10__0_2, w10__0_3, w10__2, w10__3, hv, rfl⟩; have hv := hv.symm; subst hv
        refine w_opP 0 rfl (fun b5 hb => ?_)
        subst hb
        refine w_p Tb_ok 7 kr ?_
        refine wi_end kr ?_
        refine qh_then ?_
        refine wh_seq ?_
        refine wh_seq ?_
        refine wh_region ?_
        refine w_p Tb_ok 2 kr ?_
        refine wi_end kr ?_
        refine qh_then ?_
        refine h_ct (b := true) rfl kr ?_
        refine wh_seq ?_
        refine wh_region ?_
        refine w_p Tb_ok 1 kr ?_
        refine wi_end kr ?_
        refine qh_then ?_
        refine wh_ret ?_
        refine qh_then_ret ?_
        have h23 := Option.some.inj h23; subst h23
        exact q_end (l := [.bool false]) [] 13 ⟨rfl, rfl⟩ (.inl rfl) kr kr kr
       ·
        have h24 := sumR h22
        refine w_fn [(1, true), (2, true), (3, true), (6, true)] (c_privitylaw20_nets er5) rfl fok_37 kr ?_
        rintro _ _ ⟨w13, w13__0_1, w13__0_2, w13__0_3, w13__2, w13__3, w14, w14__0_1, w14__0_2, w14__0_3, w14__2, w14__3, hv, rfl⟩; have hv := hv.symm; subst hv
        refine w_opP 0 rfl (fun b6 hb => ?_)
        subst hb
        refine w_opP 6 rfl (fun b7 hb => ?_)
        subst hb
        refine w_p Tb_ok 7 kr ?_
        refine wi_end kr ?_
        refine qh_then ?_
        refine wh_seq ?_
        refine wh_seq ?_
        refine wh_region ?_
        refine w_p Tb_ok 2 kr ?_
        refine wi_end kr ?_
        refine qh_then ?_
        refine h_cf (b := false) rfl kr ?_
        refine wh_skip ?_
        refine qh_then ?_
        refine wh_seq ?_
        refine wh_region ?_
        refine w_p Tb_ok 2 kr ?_
        refine WI.ent (frzAt 17 rfl) ?_
        refine w_lt (kd := (Kd.sl (Kd.sl Kd.u64))) (t := 40) (len := 1) (ps0 := [(0, g2)]) (ps := [(0, .agg #[g2])]) ([l2] : List (List (List Nat))) _ (rowC (x := l2) (g := g2) (itS 0 rfl) row0) (scS (rd_hd 0 rfl) sc0) kr ts_40 ti_44 kr rfl rfl (fun v3 => ?_)
        refine w_p Tb_ok 1 kr ?_
        refine w_lt (kd := Kd.i64) (t := 25) (len := 1) (ps0 := [(0, .int .i64 x9)]) (ps := [(0, .int .i64 x9)]) ([x9] : List Int) _ (rowC (x := x9) (g := ()) (it0 rfl) row0) (scI sc0) kr ts_25 ti_3 kr rfl rfl (fun v4 => ?_)
        refine WI.ent (frzAt 8 rfl) ?_
        refine WI.ent (frzAt 2 rfl) ?_
        refine WI.ent (frzAt 2 rfl) ?_
        obtain ⟨r12, er12, h25⟩ := bnd h24
        refine w_fn [(4, false), (4, true), (5, true), (6, true), (7, false), (2, true), (1, true), (0, true)] (c_reconstruct_Rows er12) rfl fok_47 kr ?_
        rintro _ _ ⟨w16, w18, hv, rfl⟩; have hv := hv.symm; subst hv
        refine w_p Tb_ok 1 kr ?_
        refine wi_end kr ?_
        refine qh_then ?_
        refine wh_seq ?_
        refine wh_seq ?_
        refine wh_region ?_
        refine w_p Tb_ok 1 kr ?_
        refine w_len (own_hd 0 rfl) kr ts_75 ?_
        refine w_p Tb_ok 2 kr ?_
        refine w_ldB 16 1 rfl kr ti_3 rfl rfl ?_
        refine w_p Tb_ok 1 kr ?_
        refine wi_end kr ?_
        refine qh_then ?_
        rcases bcase h25 with ⟨t3, h26⟩ | ⟨t3, h26⟩
        ·
         refine h_ct (b := (((r12.1.length : Nat) : Int) != p_w.S.N)) t3 kr ?_
         refine wh_seq ?_
         refine wh_region ?_
         refine w_p Tb_ok 1 kr ?_
         refine wi_end kr ?_
         refine qh_then ?_
         refine wh_ret ?_
         refine qh_then_ret ?_
         have h26 := Option.some.inj h26; subst h26
         exact q_end (l := [.bool false]) [] 22 ⟨rfl, rfl⟩ (.inl rfl) kr kr kr
        ·
         refine h_cf (b := (((r12.1.length : Nat) : Int) != p_w.S.N)) t3 kr ?_
         refine wh_skip ?_
         refine qh_then ?_
         refine wh_seq ?_
         refine wh_seq ?_
         refine wh_region ?_
         refine w_p Tb_ok 1 kr ?_
         refine wi_end kr ?_
         refine qh_then ?_
         have hN2 := ckN_some eu1
         obtain ⟨r13, el2, h27⟩ := bnd h26
         refine h_join (X := Unit × Unit) (fun g => []) (fun g => [exF] ++ F) (fun g => r13 = .go g.2) ?_ ?_
         ·
          refine wh_block ?_
          refine h_rg (fun (k2 : Nat) (st : Unit) (g : Unit) => [(3, (.pointer (some ⟨b1, 0, none⟩))), (11, (.pointer (some ⟨b3, 0, none⟩))), (14, .int .i64 x9), (18, w16), (19, .int .i64 ((k2 : Nat) : Int))]) (fun (k2 : Nat) (st : Unit) (g : Unit) => [blkP (.pointer (some ⟨b1, 0, none⟩)) 29 [.int .u64 p_w.S.P, .int .i64 p_w.S.N, .int .i64 p_w.S.T, vp_w_1, vp_w_2, vp_w_3], rdV Kd.i64 vp_w_1 p_w.Corrupt, rdV K_api_Deviation vp_w_2 p_w.Deviations, rdV (Kd.sl Kd.u64) vp_w_3 p_w.Tapes, blkP (.pointer (some ⟨b3, 0, none⟩)) 73 [.int .u64 p_w.S.P, .int .u64 x2, .int .u64 x3, .int .u64 x4], ownV (Kd.sl (Kd.sl Kd.u64)) 27 w16 r12.1, exF] ++ F) () el2 (Nat.le_max_left ..) aK (tH [(16, false), (16, true), (17, true), (18, true), (19, false), (0, false), (18, true)] 19) ?_ ?_
          ·
           rintro ⟨⟩ ⟨⟩ hr2 j
           refine wh_seq ?_
           refine wh_seq ?_
           refine wh_region ?_
           refine w_p Tb_ok 3 kr ?_
           refine w_ldB 0 1 rfl kr ti_3 rfl rfl ?_
           refine w_p Tb_ok 1 kr ?_
           refine wi_end kr ?_
           refine qh_then ?_
           refine h_cf (b := (decide ((((max 1 (p_w.S.N + 1).toNat) : Nat) : Int) ≤ p_w.S.N))) rgEF kr ?_
           refine wh_exit ?_
           refine qh_then_exit ?_
           refine q_rzX ?_
           refine qh_block_exit ?_
           exact q_join ((), ()) hr2 aK (tH [(6, true)] 7)
          ·
           rintro rem k2 ⟨⟩ ⟨⟩ o2 hk2 h28 hn2 j
           have h28 : privitylaw20_ReconstructRowsRobust_L1 p_w x2 x3 x4 x9 r12 k2 = some o2 := h28
           unfold privitylaw20_ReconstructRowsRobust_L1 at h28
           refine wh_seq ?_
           refine wh_seq ?_
           refine wh_region ?_
           refine w_p Tb_ok 3 kr ?_
           refine w_ldB 0 1 rfl kr ti_3 rfl rfl ?_
           refine w_p Tb_ok 1 kr ?_
           refine wi_end kr ?_
           refine qh_then ?_
           refine h_ct (b := (decide (((k2 : Nat) : Int) ≤ p_w.S.N))) (rgET hk2) kr ?_
           refine wh_skip ?_
           refine qh_then ?_
           refine wh_seq ?_
           refine wh_block ?_
           refine wh_seq ?_
           obtain ⟨r14, er14, h29⟩ := bnd h28
           rcases bcase h29 with ⟨t4, h30⟩ | ⟨t4, h30⟩
           ·
            subst t4
            obtain ⟨x10, ex10, h31⟩ := bnd h30
            obtain ⟨x11, ex11, h32⟩ := bnd h31
            rcases bcase h32 with ⟨t5, h33⟩ | ⟨t5, h33⟩
            ·
             refine h_flow [0, 0, 3, 7, 15, 15, 47, 127, 255, 511, 1023, 2047, 4095, 4095, 12287, 32767, 65535, 131071, 262143, 4095, 4095, 1052671, 3674111, 8388607, 16777215, 33554431, 67108863] ⟨7, [0, 0, 0, 0, 0, 0, 0, 0, 1, 0, 0, 0, 0, 0, 0, 0, 0, 0, 0, 0, 0, 0, 0, 0, 0, 0, 0], [], [(0, [(0, 0)]), (7, [(0, 5)]), (8, [(0, 5)])], [(2, [(0, 1), (0, 2), (0, 3)]), (9, [(9, 0)])]⟩ (fun γ => [.agg #[.int .u64 p_w.S.P, .int .i64 p_w.S.N, .int .i64 p_w.S.T, vp_w_1, vp_w_2, vp_w_3], .int .i64 ((k2 : Nat) : Int), .bool true, .bool true, w16, .int .i64 ((k2 : Nat) : Int), .int .i64 x10, .pointer (some (elV w16 (x10.toNat * (Kd.sl (Kd.sl Kd.u64)).size))), (γ 8 0), .int .i64 ((x11.length : Nat) : Int), .bool (((x11.length : Nat) : Int) != (1 : Int)), .bool true, undef, undef, undef, undef, undef, undef, undef, undef, undef, undef, undef, undef, undef, .bool true, .bool true]) (fun i γ => match i with | 8 => [rdV (Kd.sl Kd.u64) (γ 8 0) x11] | _ => []) (fun γ => [blkP (.pointer (some ⟨b1, 0, none⟩)) 29 [.int .u64 p_w.S.P, .int .i64 p_w.S.N, .int .i64 p_w.S.T, vp_w_1, vp_w_2, vp_w_3], rdV Kd.i64 vp_w_1 p_w.Corrupt, rdV K_api_Deviation vp_w_2 p_w.Deviations, rdV (Kd.sl Kd.u64) vp_w_3 p_w.Tapes, blkP (.pointer (some ⟨b3, 0, none⟩)) 73 [.int .u64 p_w.S.P, .int .u64 x2, .int .u64 x3, .int .u64 x4], ownV (Kd.sl (Kd.sl Kd.u64)) 27 w16 r12.1, exF, rdV (Kd.sl Kd.u64) (γ 8 0) x11] ++ F) [1, 3, 4, 5, 10, 12, 13, 14, 15, 16, 17, 18, 19, 20, 21, 22, 23, 24, 25, 26] tryd_mix Tb_ok kr kr (fun _ => by kernel_rfl) (fun _ => by kernel_rfl) (fun _ => by kernel_rfl) (fun _ => by kernel_rfl) (fun _ => by kernel_rfl) (fun _ => by kernel_rfl) (fun _ => by kernel_rfl) ?_ ?_
             ·
              refine ⟨?_, ?_, ?_, ?_, ?_, ?_, ?_, trivial⟩
              ·
               intro γ F
               refine WI.reH (H' := [blkP (.pointer (some ⟨b1, 0, none⟩)) 29 [.int .u64 p_w.S.P, .int .i64 p_w.S.N, .int .i64 p_w.S.T, vp_w_1, vp_w_2, vp_w_3]] ++ F) kr ?_
               refine w_ldB 0 0 rfl kr ti_29 rfl rfl ?_
               exact wE (gl []) [(0, false)] 0
              ·
               intro γ F
               refine WI.reH (H' := [rdV Kd.i64 vp_w_1 p_w.Corrupt, rdV K_api_Deviation vp_w_2 p_w.Deviations, rdV (Kd.sl Kd.u64) vp_w_3 p_w.Tapes] ++ F) kr ?_
               refine w_fn [(0, true), (1, true), (2, true)] (c_privityref14_Honest er14) rfl fok_40 kr ?_
               rintro _ _ ⟨hv, rfl⟩; have hv := hv.symm; subst hv
               exact wE (gl []) [] 3
              ·
               intro γ F
               refine WI.reH (H' := [] ++ F) kr ?_
               refine w_bi (zsubI ex10) kr ?_
               exact wE (gl []) [] 0
              ·
               intro γ F
               refine WI.reH (H' := [ownV (Kd.sl (Kd.sl Kd.u64)) 27 w16 r12.1] ++ F) kr ?_
               refine w_ix (k := .i64) (own_hd 0 rfl) (ib ex11) (iz ex11) kr ts_75 ti_27 ?_
               exact wE (gl []) [(0, false)] 0
              ·
               intro γ F
               refine WI.reH (H' := [ownV (Kd.sl (Kd.sl Kd.u64)) 27 w16 r12.1] ++ F) kr ?_
               refine w_ldO 0 0 rfl (ig ex11) kr ti_27 rfl rfl ?_
               rintro v5
               exact wE (gl [v5]) [(0, true), (1, false)] 1
              ·
               intro γ F
               refine WI.reH (H' := [rdV (Kd.sl Kd.u64) (γ 8 0) x11] ++ F) kr ?_
               refine w_len (rd_hd 0 rfl) kr ts_27 ?_
               exact wE (gl []) [] 1
              ·
               intro γ F
               refine WI.reH (H' := [] ++ F) kr ?_
               refine w_pk Tb_ok (congrArg Value.bool t5) kr ?_
               exact wE (gl []) [] 0
             ·
              intro γ2
              refine qh_then ?_
              refine h_ct (b := true) rfl kr ?_
              refine wh_seq ?_
              refine wh_region ?_
              refine w_p Tb_ok 1 kr ?_
              refine wi_end kr ?_
              refine qh_then ?_
              refine wh_ret ?_
              refine qh_block_ret ?_
              refine qh_then_ret ?_
              refine q_rgR ?_
              refine qh_block_ret ?_
              refine q_joinR ?_
              refine qh_then_ret ?_
              have h33 := Option.some.inj h33; subst h33
              have hn := (show _ = _ from hn2); subst hn
              have h27 := Option.some.inj (show some _ = some _ from h27); subst h27
              exact q_end (l := [.bool false]) [] 8 ⟨rfl, rfl⟩ (.inl rfl) kr kr kr
            ·
             obtain ⟨x12, ex12, h34⟩ := bnd h33
             obtain ⟨x13, ex13, h35⟩ := bnd h34
             obtain ⟨r15, er15, h36⟩ := bnd h35
             obtain ⟨r16, er16, h37⟩ := bnd h36
             refine h_flow [0, 0, 3, 7, 15, 15, 47, 127, 255, 511, 1023, 2047, 4095, 4095, 12287, 32767, 65535, 131071, 262143, 4095, 4095, 1052671, 3674111, 8388607, 16777215, 33554431, 67108863] ⟨7, [0, 0, 0, 0, 0, 0, 0, 0, 1, 0, 0, 0, 0, 0, 0, 0, 1, 0, 1, 0, 0, 0, 1, 0, 0, 0, 0], [], [(0, [(0, 0)]), (7, [(0, 5)]), (8, [(0, 5)]), (15, [(0, 5)]), (16, [(0, 5)]), (19, [(0, 4)])], [(2, [(0, 1), (0, 2), (0, 3)]), (9, [(9, 0)]), (17, [(17, 0)]), (18, [(17, 0)]), (23, [(23, 0), (19, 0)])]⟩ (fun γ => [.agg #[.int .u64 p_w.S.P, .int .i64 p_w.S.N, .int .i64 p_w.S.T, vp_w_1, vp_w_2, vp_w_3], .int .i64 ((k2 : Nat) : Int), .bool true, .bool true, w16, .int .i64 ((k2 : Nat) : Int), .int .i64 x10, .pointer (some (elV w16 (x10.toNat * (Kd.sl (Kd.sl Kd.u64)).size))), (γ 8 0), .int .i64 ((x11.length : Nat) : Int), .bool (((x11.length : Nat) : Int) != (1 : Int)), .bool false, w16, .int .i64 ((k2 : Nat) : Int), .int .i64 x10, .pointer (some (elV w16 (x10.toNat * (Kd.sl (Kd.sl Kd.u64)).size))), (γ 16 0), .pointer (some (elV (γ 16 0) (0 * (Kd.sl Kd.u64).size))), (γ 18 0), .agg #[.int .u64 p_w.S.P, .int .u64 x2, .int .u64 x3, .int .u64 x4], .int .i64 x9, .int .u64 x13, (γ 22 0), .bool r16, .bool (!r16), .bool (!r16), .bool (!r16)]) (fun i γ => match i with | 8 => [rdV (Kd.sl Kd.u64) (γ 8 0) x11] | 16 => [rdV (Kd.sl Kd.u64) (γ 16 0) x11] | 18 => [rdV Kd.u64 (γ 18 0) x12] | 22 => [rdV Kd.u64 (γ 22 0) r15] | _ => []) (fun γ => [blkP (.pointer (some ⟨b1, 0, none⟩)) 29 [.int .u64 p_w.S.P, .int .i64 p_w.S.N, .int .i64 p_w.S.T, vp_w_1, vp_w_2, vp_w_3], rdV Kd.i64 vp_w_1 p_w.Corrupt, rdV K_api_Deviation vp_w_2 p_w.Deviations, rdV (Kd.sl Kd.u64) vp_w_3 p_w.Tapes, blkP (.pointer (some ⟨b3, 0, none⟩)) 73 [.int .u64 p_w.S.P, .int .u64 x2, .int .u64 x3, .int .u64 x4], ownV (Kd.sl (Kd.sl Kd.u64)) 27 w16 r12.1, exF, rdV (Kd.sl Kd.u64) (γ 8 0) x11, rdV (Kd.sl Kd.u64) (γ 16 0) x11, rdV Kd.u64 (γ 18 0) x12, rdV Kd.u64 (γ 22 0) r15] ++ F) [1, 3, 4, 5, 10, 12, 13, 20, 24, 25, 26] tryd_mix Tb_ok kr kr (fun _ => by kernel_rfl) (fun _ => by kernel_rfl) (fun _ => by kernel_rfl) (fun _ => by kernel_rfl) (fun _ => by kernel_rfl) (fun _ => by kernel_rfl) (fun _ => by kernel_rfl) ?_ ?_
             ·
              refine ⟨?_, ?_, ?_, ?_, ?_, ?_, ?_, ?_, ?_, ?_, ?_, ?_, ?_, ?_, ?_, ?_, trivial⟩
              ·
               intro γ F
               refine WI.reH (H' := [blkP (.pointer (some ⟨b1, 0, none⟩)) 29 [.int .u64 p_w.S.P, .int .i64 p_w.S.N, .int .i64 p_w.S.T, vp_w_1, vp_w_2, vp_w_3]] ++ F) kr ?_
               refine w_ldB 0 0 rfl kr ti_29 rfl rfl ?_
               exact wE (gl []) [(0, false)] 0
              ·
               intro γ F
               refine WI.reH (H' := [rdV Kd.i64 vp_w_1 p_w.Corrupt, rdV K_api_Deviation vp_w_2 p_w.Deviations, rdV (Kd.sl Kd.u64) vp_w_3 p_w.Tapes] ++ F) kr ?_
               refine w_fn [(0, true), (1, true), (2, true)] (c_privityref14_Honest er14) rfl fok_40 kr ?_
               rintro _ _ ⟨hv, rfl⟩; have hv := hv.symm; subst hv
               exact wE (gl []) [] 3
              ·
               intro γ F
               refine WI.reH (H' := [] ++ F) kr ?_
               refine w_bi (zsubI ex10) kr ?_
               exact wE (gl []) [] 0
              ·
               intro γ F
               refine WI.reH (H' := [ownV (Kd.sl (Kd.sl Kd.u64)) 27 w16 r12.1] ++ F) kr ?_
               refine w_ix (k := .i64) (own_hd 0 rfl) (ib ex11) (iz ex11) kr ts_75 ti_27 ?_
               exact wE (gl []) [(0, false)] 0
              ·
               intro γ F
               refine WI.reH (H' := [ownV (Kd.sl (Kd.sl Kd.u64)) 27 w16 r12.1] ++ F) kr ?_
               refine w_ldO 0 0 rfl (ig ex11) kr ti_27 rfl rfl ?_
               rintro v5
               exact wE (gl [v5]) [(0, true), (1, false)] 1
              ·
               intro γ F
               refine WI.reH (H' := [rdV (Kd.sl Kd.u64) (γ 8 0) x11] ++ F) kr ?_
               refine w_len (rd_hd 0 rfl) kr ts_27 ?_
               exact wE (gl []) [] 1
              ·
               intro γ F
               refine WI.reH (H' := [] ++ F) kr ?_
               refine w_pk Tb_ok (congrArg Value.bool t5) kr ?_
               exact wE (gl []) [] 0
              ·
               intro γ F
               refine WI.reH (H' := [] ++ F) kr ?_
               refine w_bi (zsubI ex10) kr ?_
               exact wE (gl []) [] 0
              ·
               intro γ F
               refine WI.reH (H' := [ownV (Kd.sl (Kd.sl Kd.u64)) 27 w16 r12.1] ++ F) kr ?_
               refine w_ix (k := .i64) (own_hd 0 rfl) (ib ex11) (iz ex11) kr ts_75 ti_27 ?_
               exact wE (gl []) [(0, false)] 0
              ·
               intro γ F
               refine WI.reH (H' := [ownV (Kd.sl (Kd.sl Kd.u64)) 27 w16 r12.1] ++ F) kr ?_
               refine w_ldO 0 0 rfl (ig ex11) kr ti_27 rfl rfl ?_
               rintro v6
               exact wE (gl [v6]) [(0, true), (1, false)] 1
              ·
               intro γ F
               refine WI.reH (H' := [rdV (Kd.sl Kd.u64) (γ 16 0) x11] ++ F) kr ?_
               refine w_ix (k := .i64) (rd_hd 0 rfl) (nbd ex12) rfl kr ts_27 ti_30 ?_
               exact wE (gl []) [] 1
              ·
               intro γ F
               refine WI.reH (H' := [rdV (Kd.sl Kd.u64) (γ 16 0) x11] ++ F) kr ?_
               refine w_ldR 0 0 rfl ex12 kr ti_30 rfl rfl ?_
               rintro v7
               exact wE (gl [v7]) [(0, true)] 2
              ·
               intro γ F
               refine WI.reH (H' := [blkP (.pointer (some ⟨b3, 0, none⟩)) 73 [.int .u64 p_w.S.P, .int .u64 x2, .int .u64 x3, .int .u64 x4]] ++ F) kr ?_
               refine w_ldB 0 0 rfl kr ti_73 rfl rfl ?_
               exact wE (gl []) [(0, false)] 0
              ·
               intro γ F
               refine WI.reH (H' := [] ++ F) kr ?_
               refine w_cv Tb_ok (ecU ex13) kr ?_
               exact wE (gl []) [] 0
              ·
               intro γ F
               refine WI.reH (H' := [] ++ F) kr ?_
               refine w_fn [] (c_privitylaw20_plane_at er15) rfl fok_46 kr ?_
               rintro _ _ ⟨w20, hv, rfl⟩; have hv := hv.symm; subst hv
               refine WI.ent (frzAt 0 rfl) ?_
               exact wE (gl [w20]) [(0, true)] 1
              ·
               intro γ F
               refine WI.reH (H' := [rdV Kd.u64 (γ 22 0) r15, rdV Kd.u64 (γ 18 0) x12] ++ F) kr ?_
               refine w_fn [(1, true), (0, true)] (c_privityref04_Equal er16) rfl fok_48 kr ?_
               rintro _ _ ⟨hv, rfl⟩; have hv := hv.symm; subst hv
               exact wE (gl []) [] 2
             ·
              intro γ3
              refine qh_then ?_
              rcases bcase h37 with ⟨t6, h38⟩ | ⟨t6, h38⟩
              ·
               refine h_ct (b := (!r16)) t6 kr ?_
               refine wh_seq ?_
               refine wh_region ?_
               refine w_p Tb_ok 1 kr ?_
               refine wi_end kr ?_
               refine qh_then ?_
               refine wh_ret ?_
               refine qh_block_ret ?_
               refine qh_then_ret ?_
               refine q_rgR ?_
               refine qh_block_ret ?_
               refine q_joinR ?_
               refine qh_then_ret ?_
               have h38 := Option.some.inj h38; subst h38
               have hn := (show _ = _ from hn2); subst hn
               have h27 := Option.some.inj (show some _ = some _ from h27); subst h27
               exact q_end (l := [.bool false]) [] 11 ⟨rfl, rfl⟩ (.inl rfl) kr kr kr
              ·
               refine h_cf (b := (!r16)) t6 kr ?_
               refine wh_skip ?_
               refine qh_block_normal ?_
               refine qh_then ?_
               refine wh_region ?_
               refine w_p Tb_ok 1 kr ?_
               refine w_bi (zinc hk2 hN2) kr ?_
               refine w_p Tb_ok 1 kr ?_
               refine wi_end kr ?_
               have h38 := Option.some.inj h38; subst h38
               exact q_rgo () hn2 aK (tH [(0, false), (0, true), (1, true), (2, true), (3, false), (3, false), (3, true)] 8)
           ·
            subst t4
            refine h_flow [0, 0, 3, 7, 15, 15, 47, 127, 255, 511, 1023, 2047, 4095, 4095, 12287, 32767, 65535, 131071, 262143, 4095, 4095, 1052671, 3674111, 8388607, 16777215, 33554431, 67108863] ⟨7, [0, 0, 0, 0, 0, 0, 0, 0, 0, 0, 0, 0, 0, 0, 0, 0, 0, 0, 0, 0, 0, 0, 0, 0, 0, 0, 0], [], [(0, [(0, 0)])], [(2, [(0, 1), (0, 2), (0, 3)])]⟩ (fun γ => [.agg #[.int .u64 p_w.S.P, .int .i64 p_w.S.N, .int .i64 p_w.S.T, vp_w_1, vp_w_2, vp_w_3], .int .i64 ((k2 : Nat) : Int), .bool false, .bool false, undef, undef, undef, undef, undef, undef, undef, undef, undef, undef, undef, undef, undef, undef, undef, undef, undef, undef, undef, undef, undef, undef, .bool false]) (fun _ _ => []) (fun γ => [blkP (.pointer (some ⟨b1, 0, none⟩)) 29 [.int .u64 p_w.S.P, .int .i64 p_w.S.N, .int .i64 p_w.S.T, vp_w_1, vp_w_2, vp_w_3], rdV Kd.i64 vp_w_1 p_w.Corrupt, rdV K_api_Deviation vp_w_2 p_w.Deviations, rdV (Kd.sl Kd.u64) vp_w_3 p_w.Tapes, blkP (.pointer (some ⟨b3, 0, none⟩)) 73 [.int .u64 p_w.S.P, .int .u64 x2, .int .u64 x3, .int .u64 x4], ownV (Kd.sl (Kd.sl Kd.u64)) 27 w16 r12.1, exF] ++ F) [1, 3, 4, 5, 6, 7, 8, 9, 10, 11, 12, 13, 14, 15, 16, 17, 18, 19, 20, 21, 22, 23, 24, 25, 26] tryd_mix Tb_ok kr kr (fun _ => by kernel_rfl) (fun _ => by kernel_rfl) (fun _ => by kernel_rfl) (fun _ => by kernel_rfl) (fun _ => by kernel_rfl) (fun _ => by kernel_rfl) (fun _ => by kernel_rfl) ?_ ?_
            ·
             refine ⟨?_, ?_, trivial⟩
             ·
              intro γ F
              refine WI.reH (H' := [blkP (.pointer (some ⟨b1, 0, none⟩)) 29 [.int .u64 p_w.S.P, .int .i64 p_w.S.N, .int .i64 p_w.S.T, vp_w_1, vp_w_2, vp_w_3]] ++ F) kr ?_
              refine w_ldB 0 0 rfl kr ti_29 rfl rfl ?_
              exact wE (gl []) [(0, false)] 0
             ·
              intro γ F
              refine WI.reH (H' := [rdV Kd.i64 vp_w_1 p_w.Corrupt, rdV K_api_Deviation vp_w_2 p_w.Deviations, rdV (Kd.sl Kd.u64) vp_w_3 p_w.Tapes] ++ F) kr ?_
              refine w_fn [(0, true), (1, true), (2, true)] (c_privityref14_Honest er14) rfl fok_40 kr ?_
              rintro _ _ ⟨hv, rfl⟩; have hv := hv.symm; subst hv
              exact wE (gl []) [] 3
            ·
             intro γ4
             refine qh_then ?_
             refine h_cf (b := false) rfl kr ?_
             refine wh_skip ?_
             refine qh_block_normal ?_
             refine qh_then ?_
             refine wh_region ?_
             refine w_p Tb_ok 1 kr ?_
             refine w_bi (zinc hk2 hN2) kr ?_
             refine w_p Tb_ok 1 kr ?_
             refine wi_end kr ?_
             have h30 := Option.some.inj h30; subst h30
             exact q_rgo () hn2 aK (tH [(0, false), (0, true), (1, true), (2, true), (3, false), (3, false), (3, true)] 4)
         ·
          rintro ⟨⟨⟩, ⟨⟩⟩ hc j
          subst hc
          refine qh_then ?_
          refine wh_seq ?_
          refine wh_region ?_
          obtain ⟨r17, er17, h39⟩ := bnd h27
          refine w_fn [(0, true)] (c_privitylaw20_awake er17) rfl fok_36 kr ?_
          rintro _ _ ⟨hv, rfl⟩; have hv := hv.symm; subst hv
          refine w_p Tb_ok 1 kr ?_
          refine wi_end kr ?_
          refine qh_then ?_
          refine wh_ret ?_
          have h39 := Option.some.inj h39; subst h39
          exact q_end (l := [.bool r17]) [] 1 ⟨rfl, rfl⟩ (.inl rfl) kr kr kr
end Go.Proofs.YtclhpomlfadohaaDoor
