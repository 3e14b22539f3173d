/- Contracts of Go functions, one theorem each: the call returns just what the plain function says. Printed by a program of this claim. -/
import Derived.Test.YtclhpomlfadohaaDoorKCc1
set_option linter.unusedVariables false
namespace Go.Proofs.YtclhpomlfadohaaDoor
open Go Gv Gw Pu
set_option maxHeartbeats 4000000
theorem c_privitylaw20_awake  {r : Bool} (h : privitylaw20_awake = some r) : Ct Tryd.prog 36 [] [exF] (fun v L => v = .bool r ∧ L = []) := by
 refine ct_intro Tryd.func36 rfl kr (fun F => ?_)
 unfold privitylaw20_awake at h
 refine wh_seq ?_
 refine wh_region ?_
 refine w_p Tb_ok 1 kr ?_
 refine wi_end kr ?_
 refine qh_then ?_
 refine wh_seq ?_
 refine wh_region ?_
 refine w_bd (v := .agg #[.int .u64 ((31 : Nat) : Int), .int .i64 ((4 : Nat) : Int), .int .i64 ((1 : Nat) : Int)]) (t := 24) (ps0 := [(0, .int .u64 ((31 : Nat) : Int)), (1, .int .i64 ((4 : Nat) : Int)), (2, .int .i64 ((1 : Nat) : Int))]) (ps := [(0, .int .u64 ((31 : Nat) : Int)), (1, .int .i64 ((4 : Nat) : Int)), (2, .int .i64 ((1 : Nat) : Int))]) (scI (scI (scI sc0))) kr (fun w => by kernel_rfl) ?_
 refine w_lt (kd := Kd.i64) (t := 25) (len := 1) (ps0 := [(0, .int .i64 ((2 : Nat) : Int))]) (ps := [(0, .int .i64 ((2 : Nat) : Int))]) ([((2 : Nat) : Int)] : List Int) _ (rowC (x := ((2 : Nat) : Int)) (g := ()) (it0 rfl) row0) (scI sc0) kr ts_25 ti_3 kr rfl rfl (fun v1 => ?_)
 refine w_bd (v := .agg #[.int .i64 ((0 : Nat) : Int), .int .i64 ((2 : Nat) : Int), .int .i64 ((0 : Nat) : Int), .int .i64 ((0 : Nat) : Int), .int .i64 ((1 : Nat) : Int), .int .u64 ((0 : Nat) : Int), .int .i64 ((1 : Nat) : Int), .int .i64 ((0 : Nat) : Int)]) (t := 124) (ps0 := [(1, .int .i64 ((2 : Nat) : Int)), (4, .int .i64 ((1 : Nat) : Int)), (6, .int .i64 ((1 : Nat) : Int))]) (ps := [(1, .int .i64 ((2 : Nat) : Int)), (4, .int .i64 ((1 : Nat) : Int)), (6, .int .i64 ((1 : Nat) : Int))]) (scI (scI (scI sc0))) kr (fun w => by kernel_rfl) ?_
 refine w_lt (kd := K_api_Deviation) (t := 26) (len := 1) (ps0 := [(0, .agg #[.int .i64 ((0 : Nat) : Int), .int .i64 ((2 : Nat) : Int), .int .i64 ((0 : Nat) : Int), .int .i64 ((0 : Nat) : Int), .int .i64 ((1 : Nat) : Int), .int .u64 ((0 : Nat) : Int), .int .i64 ((1 : Nat) : Int), .int .i64 ((0 : Nat) : Int)])]) (ps := [(0, .agg #[.int .i64 ((0 : Nat) : Int), .int .i64 ((2 : Nat) : Int), .int .i64 ((0 : Nat) : Int), .int .i64 ((0 : Nat) : Int), .int .i64 ((1 : Nat) : Int), .int .u64 ((0 : Nat) : Int), .int .i64 ((1 : Nat) : Int), .int .i64 ((0 : Nat) : Int)])]) ([(⟨((0 : Nat) : Int), ((2 : Nat) : Int), ((0 : Nat) : Int), ((0 : Nat) : Int), ((1 : Nat) : Int), 0, ((1 : Nat) : Int), ((0 : Nat) : Int)⟩ : T_api_Deviation)] : List T_api_Deviation) _ (rowC (x := (⟨((0 : Nat) : Int), ((2 : Nat) : Int), ((0 : Nat) : Int), ((0 : Nat) : Int), ((1 : Nat) : Int), 0, ((1 : Nat) : Int), ((0 : Nat) : Int)⟩ : T_api_Deviation)) (g := ((), (), (), (), (), (), (), ())) (itC (itA (it0 rfl) (itA (it0 rfl) (itA (it0 rfl) (itA (it0 rfl) (itA (it0 rfl) (itA (it0 rfl) (itA (it0 rfl) (it0 rfl))))))))) row0) (scI sc0) kr ts_26 ti_124 kr rfl rfl (fun v2 => ?_)
 refine WI.ent (rdNil (kd := Kd.u64)) ?_
 obtain ⟨l1, el1, h1⟩ := bnd h
 refine w_mk (kd := (Kd.sl Kd.u64)) (kl := .i64) (kc := .i64) (.slice none 0 0) el1 kr ts_27 ti_30 rfl kr (itS 0 rfl) (fun v3 => ?_)
 refine w_bd (v := .agg #[.int .u64 ((31 : Nat) : Int), .int .i64 ((4 : Nat) : Int), .int .i64 ((1 : Nat) : Int), v1, v2, v3]) (t := 29) (ps0 := [(0, .agg #[.int .u64 ((31 : Nat) : Int), .int .i64 ((4 : Nat) : Int), .int .i64 ((1 : Nat) : Int)]), (1, v1), (2, v2), (3, v3)]) (ps := [(0, .agg #[.int .u64 ((31 : Nat) : Int), .int .i64 ((4 : Nat) : Int), .int .i64 ((1 : Nat) : Int)]), (1, .agg #[v1]), (2, .agg #[v2]), (3, .agg #[v3])]) (scI (scS (own_hd 3 rfl) (scS (own_hd 2 rfl) (scS (own_hd 0 rfl) sc0)))) kr (fun w => by kernel_rfl) ?_
 refine w_al kr ti_29 (fun q1 => ?_)
 refine WI.hd (y := blkP q1 29 [.int .u64 ((0 : Nat) : Int), .int .i64 ((0 : Nat) : Int), .int .i64 ((0 : Nat) : Int), (.slice none 0 0), (.slice none 0 0), (.slice none 0 0)]) kr ?_
 refine w_opP 0 rfl (fun b1 hb => ?_)
 subst hb
 refine w_stB (v := .agg #[.int .u64 ((31 : Nat) : Int), .int .i64 ((4 : Nat) : Int), .int .i64 ((1 : Nat) : Int), v1, v2, v3]) (off := 0) (cs := [.int .u64 ((31 : Nat) : Int), .int .i64 ((4 : Nat) : Int), .int .i64 ((1 : Nat) : Int), v1, v2, v3]) 0 rfl (cv0 kr) kr ti_29 rfl rfl (oC (fun _ _ => rfl) (oC (fun _ _ => rfl) (oC (fun _ _ => rfl) (oC (sl_one (own_hd 4 rfl)) (oC (sl_one (own_hd 3 rfl)) (oC (sl_one (own_hd 1 rfl)) oN)))))) ?_
 refine WI.hd (y := blkP (.pointer (some ⟨b1, 0, none⟩)) 29 [.int .u64 ((31 : Nat) : Int), .int .i64 ((4 : Nat) : Int), .int .i64 ((1 : Nat) : Int), v1, v2, v3]) kr ?_
 refine wi_end kr ?_
 refine qh_then ?_
 refine wh_seq ?_
 refine wh_region ?_
 refine w_ldB 0 0 rfl kr ti_29 rfl rfl ?_
 refine WI.ent (frzAt 4 rfl) ?_
 refine WI.ent (frzAt 4 rfl) ?_
 refine WI.ent (frzAt 3 rfl) ?_
 obtain ⟨r1, er1, h2⟩ := bnd h1
 rcases r1 with r2 | r3
 ·
  have h3 := sumL h2
  refine w_fn [(2, true), (1, true), (0, true), (5, true)] (c_privitylaw20_nets er1) rfl fok_37 kr ?_
  rintro _ _ ⟨hv, rfl⟩; have hv := hv.symm; subst hv
  refine w_p Tb_ok 7 kr ?_
  refine wi_end kr ?_
  refine qh_then ?_
  refine wh_seq ?_
  refine wh_seq ?_
  refine wh_region ?_
  refine w_p Tb_ok 2 kr ?_
  refine wi_end kr ?_
  refine qh_then ?_
  refine h_ct (b := true) rfl kr ?_
  refine wh_seq ?_
  refine wh_region ?_
  refine w_p Tb_ok 1 kr ?_
  refine wi_end kr ?_
  refine qh_then ?_
  refine wh_ret ?_
  refine qh_then_ret ?_
  have h3 := Option.some.inj h3; subst h3
  exact q_end (l := [.bool false]) [] 6 ⟨rfl, rfl⟩ (.inl rfl) kr kr kr
 ·
  have h4 := sumR h2
  rcases r3 with r4 | r5
  ·
   have h5 := sumL h4
   refine w_fn [(2, true), (1, true), (0, true), (5, true)] (c_privitylaw20_nets er1) rfl fok_37 kr ?_
   rintro _ _ ⟨w5, w5__0_1, w5__0_2, w5__0_3, w5__2, w5__3, hv, rfl⟩; have hv := hv.symm; subst hv
   refine w_opP 0 rfl (fun b2 hb => ?_)
   subst hb
   refine w_p Tb_ok 7 kr ?_
   refine wi_end kr ?_
   refine qh_then ?_
   refine wh_seq ?_
   refine wh_seq ?_
   refine wh_region ?_
   refine w_p Tb_ok 2 kr ?_
   refine wi_end kr ?_
   refine qh_then ?_
   refine h_ct (b := true) rfl kr ?_
   refine wh_seq ?_
   refine wh_region ?_
   refine w_p Tb_ok 1 kr ?_
   refine wi_end kr ?_
   refine qh_then ?_
   refine wh_ret ?_
   refine qh_then_ret ?_
   have h5 := Option.some.inj h5; subst h5
   exact q_end (l := [.bool false]) [] 12 ⟨rfl, rfl⟩ (.inl rfl) kr kr kr
  ·
   have h6 := sumR h4
   rcases r5 with r6 | r7
   ·
    have h7 := sumL h6
    refine w_fn [(2, true), (1, true), (0, true), (5, true)] (c_privitylaw20_nets er1) rfl fok_37 kr ?_
    rintro _ _ ⟨w7, w7__0_1, w7__0_2, w7__0_3, w7__2, w7__3, hv, rfl⟩; have hv := hv.symm; subst hv
    refine w_opP 0 rfl (fun b3 hb => ?_)
    subst hb
    refine w_p Tb_ok 7 kr ?_
    refine wi_end kr ?_
    refine qh_then ?_
    refine wh_seq ?_
    refine wh_seq ?_
    refine wh_region ?_
    refine w_p Tb_ok 2 kr ?_
    refine wi_end kr ?_
    refine qh_then ?_
    refine h_ct (b := true) rfl kr ?_
    refine wh_seq ?_
    refine wh_region ?_
    refine w_p Tb_ok 1 kr ?_
    refine wi_end kr ?_
    refine qh_then ?_
    refine wh_ret ?_
    refine qh_then_ret ?_
    have h7 := Option.some.inj h7; subst h7
    exact q_end (l := [.bool false]) [] 12 ⟨rfl, rfl⟩ (.inl rfl) kr kr kr
   ·
    have h8 := sumR h6
    refine w_fn [(2, true), (1, true), (0, true), (5, true)] (c_privitylaw20_nets er1) rfl fok_37 kr ?_
    rintro _ _ ⟨w10, w10__0_1, w10__0_2, w10__0_3, w10__2, w10__3, w11, w11__0_1, w11__0_2, w11__0_3, w11__2, w11__3, hv, rfl⟩; have hv := hv.symm; subst hv
    refine w_opP 0 rfl (fun b4 hb => ?_)
    subst hb
    refine w_opP 6 rfl (fun b5 hb => ?_)
    subst hb
    refine w_p Tb_ok 7 kr ?_
    refine wi_end kr ?_
    refine qh_then ?_
    refine wh_seq ?_
    refine wh_seq ?_
    refine wh_region ?_
    refine w_p Tb_ok 2 kr ?_
    refine wi_end kr ?_
    refine qh_then ?_
    refine h_cf (b := false) rfl kr ?_
    refine wh_skip ?_
    refine qh_then ?_
    refine wh_seq ?_
    refine wh_region ?_
    refine w_p Tb_ok 1 kr ?_
    refine w_lt (kd := Kd.u64) (t := 30) (len := 1) (ps0 := [(0, .int .u64 ((4 : Nat) : Int))]) (ps := [(0, .int .u64 ((4 : Nat) : Int))]) ([4] : List Nat) _ (rowC (x := 4) (g := ()) (it0 rfl) row0) (scI sc0) kr ts_30 ti_22 kr rfl rfl (fun v4 => ?_)
    refine w_lt (kd := Kd.u64) (t := 30) (len := 1) (ps0 := [(0, .int .u64 ((5 : Nat) : Int))]) (ps := [(0, .int .u64 ((5 : Nat) : Int))]) ([5] : List Nat) _ (rowC (x := 5) (g := ()) (it0 rfl) row0) (scI sc0) kr ts_30 ti_22 kr rfl rfl (fun v5 => ?_)
    refine w_lt (kd := Kd.u64) (t := 30) (len := 1) (ps0 := [(0, .int .u64 ((6 : Nat) : Int))]) (ps := [(0, .int .u64 ((6 : Nat) : Int))]) ([6] : List Nat) _ (rowC (x := 6) (g := ()) (it0 rfl) row0) (scI sc0) kr ts_30 ti_22 kr rfl rfl (fun v6 => ?_)
    refine w_lt (kd := Kd.u64) (t := 30) (len := 1) (ps0 := [(0, .int .u64 ((7 : Nat) : Int))]) (ps := [(0, .int .u64 ((7 : Nat) : Int))]) ([7] : List Nat) _ (rowC (x := 7) (g := ()) (it0 rfl) row0) (scI sc0) kr ts_30 ti_22 kr rfl rfl (fun v7 => ?_)
    refine WI.ent (frzAt 3 rfl) ?_
    refine WI.ent (frzAt 3 rfl) ?_
    refine WI.ent (frzAt 3 rfl) ?_
    refine WI.ent (frzAt 3 rfl) ?_
    refine w_lt (kd := (Kd.sl Kd.u64)) (t := 27) (len := 4) (ps0 := [(0, v4), (1, v5), (2, v6), (3, v7)]) (ps := [(0, .agg #[v4]), (1, .agg #[v5]), (2, .agg #[v6]), (3, .agg #[v7])]) ([([4] : List Nat), ([5] : List Nat), ([6] : List Nat), ([7] : List Nat)] : List (List Nat)) _ (rowC (x := ([4] : List Nat)) (g := v4) (itS 3 rfl) (rowC (x := ([5] : List Nat)) (g := v5) (itS 2 rfl) (rowC (x := ([6] : List Nat)) (g := v6) (itS 1 rfl) (rowC (x := ([7] : List Nat)) (g := v7) (itS 0 rfl) row0)))) (scS (rd_hd 3 rfl) (scS (rd_hd 2 rfl) (scS (rd_hd 1 rfl) (scS (rd_hd 0 rfl) sc0)))) kr ts_27 ti_30 kr rfl rfl (fun v8 => ?_)
    refine WI.ent (frzAt 10 rfl) ?_
    refine WI.ent (frzAt 1 rfl) ?_
    obtain ⟨r8, er8, h9⟩ := bnd h8
    refine w_fn [(6, false), (6, true), (7, true), (8, true), (9, false), (1, true), (0, true)] (c_reconstruct_Values er8) rfl fok_38 kr ?_
    rintro _ _ ⟨w13, w14, w16, hv, rfl⟩; have hv := hv.symm; subst hv
    refine w_p Tb_ok 5 kr ?_
    refine wi_end kr ?_
    refine qh_then ?_
    refine wh_seq ?_
    refine wh_region ?_
    refine w_p Tb_ok 1 kr ?_
    refine w_len (own_hd 0 rfl) kr ts_27 ?_
    refine w_p Tb_ok 2 kr ?_
    rcases bcase h9 with ⟨t1, h10⟩ | ⟨t1, h10⟩
    ·
     refine w_kb (t := 34) t1 kr ?_
     refine w_p Tb_ok 1 kr ?_
     refine w_len (own_hd 1 rfl) kr ts_58 ?_
     refine w_p Tb_ok 3 kr ?_
     rcases bcase h10 with ⟨t2, h11⟩ | ⟨t2, h11⟩
     ·
      refine w_kb (t := 39) t2 kr ?_
      refine w_p Tb_ok 1 kr ?_
      obtain ⟨x1, ex1, h12⟩ := bnd h11
      refine w_ix (k := .i64) (own_hd 0 rfl) (nbd ex1) rfl kr ts_27 ti_30 ?_
      refine w_ldO 0 0 rfl ex1 kr ti_30 rfl rfl ?_
      rintro v9
      refine w_lt (kd := Kd.u64) (t := 30) (len := 1) (ps0 := [(0, .int .u64 ((3 : Nat) : Int))]) (ps := [(0, .int .u64 ((3 : Nat) : Int))]) ([3] : List Nat) _ (rowC (x := 3) (g := ()) (it0 rfl) row0) (scI sc0) kr ts_30 ti_22 kr rfl rfl (fun v10 => ?_)
      refine WI.ent (frzAt 0 rfl) ?_
      obtain ⟨r9, er9, h13⟩ := bnd h12
      refine w_fn [(1, true), (0, true)] (c_privityref04_Equal er9) rfl fok_48 kr ?_
      rintro _ _ ⟨hv, rfl⟩; have hv := hv.symm; subst hv
      refine w_p Tb_ok 2 kr ?_
      rcases bcase h13 with ⟨t3, h14⟩ | ⟨t3, h14⟩
      ·
       refine w_kb (t := 46) t3 kr ?_
       refine w_p Tb_ok 1 kr ?_
       obtain ⟨x2, ex2, h15⟩ := bnd h14
       refine w_ix (k := .i64) (own_hd 3 rfl) (nbd ex2) rfl kr ts_58 ti_25 ?_
       refine w_ldO 3 0 rfl ex2 kr ti_25 rfl rfl ?_
       rintro v11
       refine w_lt (kd := Kd.i64) (t := 25) (len := 1) (ps0 := [(0, .int .i64 ((2 : Nat) : Int))]) (ps := [(0, .int .i64 ((2 : Nat) : Int))]) ([((2 : Nat) : Int)] : List Int) _ (rowC (x := ((2 : Nat) : Int)) (g := ()) (it0 rfl) row0) (scI sc0) kr ts_25 ti_3 kr rfl rfl (fun v12 => ?_)
       refine WI.ent (frzAt 0 rfl) ?_
       obtain ⟨r10, er10, h16⟩ := bnd h15
       refine w_fn [(1, true), (0, true)] (c_privityref20_Numbers er10) rfl fok_71 kr ?_
       rintro _ _ ⟨hv, rfl⟩; have hv := hv.symm; subst hv
       refine w_p Tb_ok 2 kr ?_
       rcases bcase h16 with ⟨t4, h17⟩ | ⟨t4, h17⟩
       ·
        refine w_kb (t := 53) t4 kr ?_
        refine w_p Tb_ok 1 kr ?_
        obtain ⟨x3, ex3, h18⟩ := bnd h17
        refine w_ix (k := .i64) (own_hd 4 rfl) (nbd ex3) rfl kr ts_27 ti_30 ?_
        refine w_ldO 4 0 rfl ex3 kr ti_30 rfl rfl ?_
        rintro v13
        refine w_lt (kd := Kd.u64) (t := 30) (len := 1) (ps0 := [(0, .int .u64 ((3 : Nat) : Int))]) (ps := [(0, .int .u64 ((3 : Nat) : Int))]) ([3] : List Nat) _ (rowC (x := 3) (g := ()) (it0 rfl) row0) (scI sc0) kr ts_30 ti_22 kr rfl rfl (fun v14 => ?_)
        refine WI.ent (frzAt 0 rfl) ?_
        obtain ⟨r11, er11, h19⟩ := bnd h18
        refine w_fn [(1, true), (0, true)] (c_privityref04_Equal er11) rfl fok_48 kr ?_
        rintro _ _ ⟨hv, rfl⟩; have hv := hv.symm; subst hv
        refine w_p Tb_ok 2 kr ?_
        rcases bcase h19 with ⟨t5, h20⟩ | ⟨t5, h20⟩
        ·
         refine w_kb (t := 60) t5 kr ?_
         refine w_p Tb_ok 1 kr ?_
         obtain ⟨x4, ex4, h21⟩ := bnd h20
         refine w_ix (k := .i64) (own_hd 7 rfl) (nbd ex4) rfl kr ts_58 ti_25 ?_
         refine w_ldO 7 0 rfl ex4 kr ti_25 rfl rfl ?_
         rintro v15
         refine WI.ent (rdNil (kd := Kd.i64)) ?_
         obtain ⟨r12, er12, h22⟩ := bnd h21
         refine w_fn [(1, true), (0, true)] (c_privityref20_Numbers er12) rfl fok_71 kr ?_
         rintro _ _ ⟨hv, rfl⟩; have hv := hv.symm; subst hv
         refine w_p Tb_ok 2 kr ?_
         refine wi_end kr ?_
         refine qh_then ?_
         refine wh_ret ?_
         have h22 := Option.some.inj h22; subst h22
         exact q_end (l := [.bool r12]) [] 33 ⟨rfl, rfl⟩ (.inl rfl) kr kr kr
        ·
         refine w_kb (t := 60) t5 kr ?_
         refine w_p Tb_ok 6 kr ?_
         refine wi_end kr ?_
         refine qh_then ?_
         refine wh_ret ?_
         have h20 := Option.some.inj h20; subst h20
         exact q_end (l := [.bool false]) [] 31 ⟨rfl, rfl⟩ (.inl rfl) kr kr kr
       ·
        refine w_kb (t := 53) t4 kr ?_
        refine w_p Tb_ok 13 kr ?_
        refine wi_end kr ?_
        refine qh_then ?_
        refine wh_ret ?_
        have h17 := Option.some.inj h17; subst h17
        exact q_end (l := [.bool false]) [] 29 ⟨rfl, rfl⟩ (.inl rfl) kr kr kr
      ·
       refine w_kb (t := 46) t3 kr ?_
       refine w_p Tb_ok 20 kr ?_
       refine wi_end kr ?_
       refine qh_then ?_
       refine wh_ret ?_
       have h14 := Option.some.inj h14; subst h14
       exact q_end (l := [.bool false]) [] 27 ⟨rfl, rfl⟩ (.inl rfl) kr kr kr
     ·
      refine w_kb (t := 39) t2 kr ?_
      refine w_p Tb_ok 27 kr ?_
      refine wi_end kr ?_
      refine qh_then ?_
      refine wh_ret ?_
      have h11 := Option.some.inj h11; subst h11
      exact q_end (l := [.bool false]) [] 25 ⟨rfl, rfl⟩ (.inl rfl) kr kr kr
    ·
     refine w_kb (t := 34) t1 kr ?_
     refine w_p Tb_ok 32 kr ?_
     refine wi_end kr ?_
     refine qh_then ?_
     refine wh_ret ?_
     have h10 := Option.some.inj h10; subst h10
     exact q_end (l := [.bool false]) [] 25 ⟨rfl, rfl⟩ (.inl rfl) kr kr kr
theorem c_privityref04_Words {p_p : Nat} {p_l : List Nat} {p_most : Int} {vp_l_1 : Value} {r : (List Nat)} (h : privityref04_Words p_p p_l p_most = some r) : Ct Tryd.prog 42 [.int .u64 p_p, vp_l_1, .int .i64 p_most] [rdV Kd.u64 vp_l_1 p_l] (fun v L => ∃ w0 : Value, v = w0 ∧ L = [ownV Kd.u64 22 w0 r]) := by
 refine ct_intro Tryd.func42 rfl kr (fun F => ?_)
 unfold privityref04_Words at h
 refine wh_seq ?_
 refine wh_region ?_
 refine w_p Tb_ok 1 kr ?_
 refine wi_end kr ?_
 refine qh_then ?_
 refine wh_seq ?_
 refine wh_region ?_
 refine w_p Tb_ok 1 kr ?_
 refine wi_end kr ?_
 refine qh_then ?_
 refine wh_seq ?_
 refine wh_seq ?_
 refine wh_region ?_
 refine w_p Tb_ok 1 kr ?_
 refine wi_end kr ?_
 refine qh_then ?_
 refine WH.ent (ownNil (kd := Kd.u64) (e := 22)) ?_
 obtain ⟨l3, el1, h1⟩ := bnd h
 refine h_join (X := Value) (fun g => [(7, g)]) (fun g => [ownV Kd.u64 22 g l3] ++ F) (fun _ => True) ?_ ?_
 ·
  refine wh_block ?_
  refine h_lp (fun (st : (List Nat) × Int) (g : Value) => [(0, .int .u64 p_p), (1, vp_l_1), (2, .int .i64 p_most), (7, g), (8, .int .i64 st.2)]) (fun (st : (List Nat) × Int) (g : Value) => [rdV Kd.u64 vp_l_1 p_l, ownV Kd.u64 22 g st.1] ++ F) (.slice none 0 0) el1 aK (tH [(1, true), (0, false)] 1) ?_
  rintro kk ⟨l1, x1⟩ g1 o1 h2 hn1 j
  have h2 : privityref04_Words_L0 p_p p_l p_most l1 x1 = some o1 := h2
  unfold privityref04_Words_L0 at h2
  refine wh_seq ?_
  refine wh_seq ?_
  obtain ⟨x2, ej1, h3⟩ := bnd h2
  refine h_join (X := Unit) (fun g => [(0, .int .u64 p_p), (1, vp_l_1), (2, .int .i64 p_most), (7, g1), (8, .int .i64 x1), (17, .bool x2)]) (fun g => [rdV Kd.u64 vp_l_1 p_l, ownV Kd.u64 22 g1 l1] ++ F) (fun _ => True) ?_ ?_
  ·
   refine wh_region ?_
   refine w_p Tb_ok 2 kr ?_
   refine w_len (rd_hd 0 rfl) kr ts_30 ?_
   refine w_p Tb_ok 2 kr ?_
   rcases bcase ej1 with ⟨t1, h4⟩ | ⟨t1, h4⟩
   ·
    refine w_kb (t := 13) t1 kr ?_
    refine w_p Tb_ok 4 kr ?_
    refine wi_end kr ?_
    cases h4
    exact q_join () trivial aK (tH [(0, true), (1, false)] 1)
   ·
    refine w_kb (t := 13) t1 kr ?_
    refine w_p Tb_ok 4 kr ?_
    refine wi_end kr ?_
    cases h4
    exact q_join () trivial aK (tH [(0, true), (1, false)] 1)
  ·
   rintro ⟨⟩ - j
   refine qh_then ?_
   rcases bcase h3 with ⟨t2, h5⟩ | ⟨t2, h5⟩
   ·
    refine h_ct (b := x2) t2 kr ?_
    refine wh_skip ?_
    refine qh_then ?_
    refine wh_seq ?_
    refine wh_block ?_
    refine wh_region ?_
    refine w_p Tb_ok 3 kr ?_
    obtain ⟨x3, ex3, h6⟩ := bnd h5
    refine w_ix (k := .i64) (rd_hd 0 rfl) (ib ex3) (iz ex3) kr ts_30 ti_22 ?_
    refine w_ldR 0 0 rfl (ig ex3) kr ti_22 rfl rfl ?_
    rintro _
    refine w_p Tb_ok 1 kr ?_
    obtain ⟨x4, ex4, h7⟩ := bnd h6
    refine w_bi (zremU ex4) kr ?_
    refine w_lt (kd := Kd.u64) (t := 30) (len := 1) (ps0 := [(0, .int .u64 x4)]) (ps := [(0, .int .u64 x4)]) ([x4] : List Nat) _ (rowC (x := x4) (g := ()) (it0 rfl) row0) (scI sc0) kr ts_30 ti_22 kr rfl rfl (fun v1 => ?_)
    obtain ⟨l4, el4, h8⟩ := bnd h7
    refine w_app 2 rfl (own_src 0 rfl) el4 kr ts_30 ti_22 rfl (fun v2 => ?_)
    refine w_p Tb_ok 1 kr ?_
    refine wi_end kr ?_
    refine qh_block_normal ?_
    refine qh_then ?_
    refine wh_region ?_
    refine w_p Tb_ok 1 kr ?_
    obtain ⟨x5, ex5, h9⟩ := bnd h8
    refine w_bi (zaddI ex5) kr ?_
    refine w_p Tb_ok 1 kr ?_
    refine wi_end kr ?_
    have h9 := Option.some.inj h9; subst h9
    exact q_go v2 hn1 aK (tH [(2, true), (0, false)] 2)
   ·
    refine h_cf (b := x2) t2 kr ?_
    refine wh_exit ?_
    refine qh_then_exit ?_
    refine q_lpX ?_
    refine qh_block_exit ?_
    have h5 := Option.some.inj h5; subst h5
    cases (show _ = _ from hn1)
    exact q_join g1 trivial aK (tH [(1, false)] 1)
 ·
  rintro g3 - j
  refine qh_then ?_
  refine wh_seq ?_
  refine wh_region ?_
  refine w_p Tb_ok 2 kr ?_
  refine wi_end kr ?_
  refine qh_then ?_
  refine wh_ret ?_
  have h1 := Option.some.inj h1; subst h1
  exact q_end (l := [g3]) [(0, false)] 0 ⟨g3, rfl, rfl⟩ (.inl rfl) kr kr kr
theorem c_privityref14_Honest {p_w : T_api_Scenario} {p_i : Int} {vp_w_1 : Value} {vp_w_2 : Value} {vp_w_3 : Value} {r : Bool} (h : privityref14_Honest p_w p_i = some r) : Ct Tryd.prog 40 [.agg #[.int .u64 p_w.S.P, .int .i64 p_w.S.N, .int .i64 p_w.S.T, vp_w_1, vp_w_2, vp_w_3], .int .i64 p_i] [rdV Kd.i64 vp_w_1 p_w.Corrupt, rdV K_api_Deviation vp_w_2 p_w.Deviations, rdV (Kd.sl Kd.u64) vp_w_3 p_w.Tapes] (fun v L => v = .bool r ∧ L = []) := by
 refine ct_intro Tryd.func40 rfl kr (fun F => ?_)
 unfold privityref14_Honest at h
 refine wh_seq ?_
 refine wh_region ?_
 refine w_box (t := 29) (v := .agg #[.int .u64 p_w.S.P, .int .i64 p_w.S.N, .int .i64 p_w.S.T, vp_w_1, vp_w_2, vp_w_3]) (cs := [.int .u64 p_w.S.P, .int .i64 p_w.S.N, .int .i64 p_w.S.T, vp_w_1, vp_w_2, vp_w_3]) (cv0 kr) kr (fun q1 => ?_)
 refine WI.hd (y := blkP q1 29 [.int .u64 p_w.S.P, .int .i64 p_w.S.N, .int .i64 p_w.S.T, vp_w_1, vp_w_2, vp_w_3]) kr ?_
 refine w_opP 0 rfl (fun b1 hb => ?_)
 subst hb
 refine w_p Tb_ok 1 kr ?_
 refine wi_end kr ?_
 refine qh_then ?_
 refine wh_seq ?_
 refine wh_seq ?_
 refine wh_region ?_
 refine w_p Tb_ok 1 kr ?_
 refine wi_end kr ?_
 refine qh_then ?_
 refine h_lenle (rd_lenle 1 rfl) (fun hN1 => ?_)
 obtain ⟨r1, el1, h1⟩ := bnd h
 refine h_join (X := Unit × Unit) (fun g => []) (fun g => [] ++ F) (fun g => r1 = .go g.2) ?_ ?_
 ·
  refine wh_block ?_
  refine h_rg (fun (k1 : Nat) (st : Unit) (g : Unit) => [(1, .int .i64 p_i), (2, (.pointer (some ⟨b1, 0, none⟩))), (5, .int .i64 ((k1 : Nat) : Int))]) (fun (k1 : Nat) (st : Unit) (g : Unit) => [blkP (.pointer (some ⟨b1, 0, none⟩)) 29 [.int .u64 p_w.S.P, .int .i64 p_w.S.N, .int .i64 p_w.S.T, vp_w_1, vp_w_2, vp_w_3], rdV Kd.i64 vp_w_1 p_w.Corrupt, rdV K_api_Deviation vp_w_2 p_w.Deviations, rdV (Kd.sl Kd.u64) vp_w_3 p_w.Tapes] ++ F) () el1 (Nat.zero_le _) aK (tH [(0, false), (0, true), (1, true), (2, true)] 3) ?_ ?_
  ·
   rintro ⟨⟩ ⟨⟩ hr1 j
   refine wh_seq ?_
   refine wh_seq ?_
   refine wh_region ?_
   refine w_p Tb_ok 2 kr ?_
   refine w_ldB 0 3 rfl kr ti_25 rfl rfl ?_
   refine w_len (rd_hd 1 rfl) kr ts_25 ?_
   refine w_p Tb_ok 1 kr ?_
   refine wi_end kr ?_
   refine qh_then ?_
   refine h_cf (b := (decide ((((p_w.Corrupt.length) : Nat) : Int) < ((p_w.Corrupt.length : Nat) : Int)))) rgF kr ?_
   refine wh_exit ?_
   refine qh_then_exit ?_
   refine q_rzX ?_
   refine qh_block_exit ?_
   exact q_join ((), ()) hr1 aK (tH [] 4)
  ·
   rintro rem k1 ⟨⟩ ⟨⟩ o1 hk1 h2 hn1 j
   have h2 : privityref14_Honest_L0 p_w p_i k1 = some o1 := h2
   unfold privityref14_Honest_L0 at h2
   refine wh_seq ?_
   refine wh_seq ?_
   refine wh_region ?_
   refine w_p Tb_ok 2 kr ?_
   refine w_ldB 0 3 rfl kr ti_25 rfl rfl ?_
   refine w_len (rd_hd 1 rfl) kr ts_25 ?_
   refine w_p Tb_ok 1 kr ?_
   refine wi_end kr ?_
   refine qh_then ?_
   refine h_ct (b := (decide (((k1 : Nat) : Int) < ((p_w.Corrupt.length : Nat) : Int)))) (rgT hk1) kr ?_
   refine wh_skip ?_
   refine qh_then ?_
   refine wh_seq ?_
   refine wh_block ?_
   refine wh_seq ?_
   refine wh_region ?_
   refine w_p Tb_ok 1 kr ?_
   refine w_ldB 0 3 rfl kr ti_25 rfl rfl ?_
   refine w_p Tb_ok 1 kr ?_
   obtain ⟨x1, ex1, h3⟩ := bnd h2
   refine w_ix (k := .i64) (rd_hd 1 rfl) (nbd ex1) rfl kr ts_25 ti_3 ?_
   refine w_ldR 1 0 rfl ex1 kr ti_3 rfl rfl ?_
   rintro _
   refine w_p Tb_ok 2 kr ?_
   refine wi_end kr ?_
   refine qh_then ?_
   rcases bcase h3 with ⟨t1, h4⟩ | ⟨t1, h4⟩
   ·
    refine h_ct (b := (x1 == p_i)) t1 kr ?_
    refine wh_seq ?_
    refine wh_region ?_
    refine w_p Tb_ok 1 kr ?_
    refine wi_end kr ?_
    refine qh_then ?_
    refine wh_ret ?_
    refine qh_block_ret ?_
    refine qh_then_ret ?_
    refine q_rgR ?_
    refine qh_block_ret ?_
    refine q_joinR ?_
    refine qh_then_ret ?_
    have h4 := Option.some.inj h4; subst h4
    have hn := (show _ = _ from hn1); subst hn
    have h1 := Option.some.inj (show some _ = some _ from h1); subst h1
    exact q_end (l := [.bool false]) [] 4 ⟨rfl, rfl⟩ (.inl rfl) kr kr kr
   ·
    refine h_cf (b := (x1 == p_i)) t1 kr ?_
    refine wh_skip ?_
    refine qh_block_normal ?_
    refine qh_then ?_
    refine wh_region ?_
    refine w_p Tb_ok 1 kr ?_
    refine w_bi (zinc hk1 hN1) kr ?_
    refine w_p Tb_ok 1 kr ?_
    refine wi_end kr ?_
    have h4 := Option.some.inj h4; subst h4
    exact q_rgo () hn1 aK (tH [(0, false), (0, true), (1, true), (2, true)] 3)
 ·
  rintro ⟨⟨⟩, ⟨⟩⟩ hc j
  subst hc
  refine qh_then ?_
  refine wh_seq ?_
  refine wh_region ?_
  refine w_p Tb_ok 1 kr ?_
  refine wi_end kr ?_
  refine qh_then ?_
  refine wh_ret ?_
  have h1 := Option.some.inj h1; subst h1
  exact q_end (l := [.bool true]) [] 0 ⟨rfl, rfl⟩ (.inl rfl) kr kr kr
theorem c_privitylaw20_shared {p_z : T_privitylaw20_Poly} {vp_z_1 : Value} {vp_z_2 : Value} {vp_z_3 : Value} {vp_z_4 : Value} {vp_z_5 : Value} {r : (List (List Nat))} (h : privitylaw20_shared p_z = some r) : Ct Tryd.prog 39 [.agg #[.int .u64 p_z.W.S.P, .int .i64 p_z.W.S.N, .int .i64 p_z.W.S.T, vp_z_1, vp_z_2, vp_z_3, vp_z_4, vp_z_5]] [rdV Kd.i64 vp_z_1 p_z.W.Corrupt, rdV K_api_Deviation vp_z_2 p_z.W.Deviations, rdV (Kd.sl Kd.u64) vp_z_3 p_z.W.Tapes, rdV (Kd.sl Kd.u64) vp_z_4 p_z.F, rdV Kd.u64 vp_z_5 p_z.Other] (fun v L => ∃ w0 : Value, v = w0 ∧ L = [ownV (Kd.sl Kd.u64) 30 w0 r]) := by
 refine ct_intro Tryd.func39 rfl kr (fun F => ?_)
 unfold privitylaw20_shared at h
 refine wh_seq ?_
 refine wh_region ?_
 refine w_box (t := 56) (v := .agg #[.int .u64 p_z.W.S.P, .int .i64 p_z.W.S.N, .int .i64 p_z.W.S.T, vp_z_1, vp_z_2, vp_z_3, vp_z_4, vp_z_5]) (cs := [.int .u64 p_z.W.S.P, .int .i64 p_z.W.S.N, .int .i64 p_z.W.S.T, vp_z_1, vp_z_2, vp_z_3, vp_z_4, vp_z_5]) (cv0 kr) kr (fun q1 => ?_)
 refine WI.hd (y := blkP q1 56 [.int .u64 p_z.W.S.P, .int .i64 p_z.W.S.N, .int .i64 p_z.W.S.T, vp_z_1, vp_z_2, vp_z_3, vp_z_4, vp_z_5]) kr ?_
 refine w_opP 0 rfl (fun b1 hb => ?_)
 subst hb
 refine w_p Tb_ok 1 kr ?_
 refine wi_end kr ?_
 refine qh_then ?_
 refine wh_seq ?_
 refine wh_region ?_
 refine w_p Tb_ok 2 kr ?_
 refine w_ldB 0 0 rfl kr ti_24 rfl rfl ?_
 refine w_al kr ti_24 (fun q2 => ?_)
 refine WI.hd (y := blkP q2 24 [.int .u64 ((0 : Nat) : Int), .int .i64 ((0 : Nat) : Int), .int .i64 ((0 : Nat) : Int)]) kr ?_
 refine w_opP 0 rfl (fun b2 hb => ?_)
 subst hb
 refine w_stB (v := .agg #[.int .u64 p_z.W.S.P, .int .i64 p_z.W.S.N, .int .i64 p_z.W.S.T]) (off := 0) (cs := [.int .u64 p_z.W.S.P, .int .i64 p_z.W.S.N, .int .i64 p_z.W.S.T]) 0 rfl (cv0 kr) kr ti_24 rfl rfl (oC (fun _ _ => rfl) (oC (fun _ _ => rfl) (oC (fun _ _ => rfl) oN))) ?_
 refine WI.hd (y := blkP (.pointer (some ⟨b2, 0, none⟩)) 24 [.int .u64 p_z.W.S.P, .int .i64 p_z.W.S.N, .int .i64 p_z.W.S.T]) kr ?_
 refine wi_end kr ?_
 refine qh_then ?_
 refine wh_seq ?_
 refine wh_region ?_
 refine w_p Tb_ok 1 kr ?_
 refine wi_end kr ?_
 refine qh_then ?_
 refine wh_seq ?_
 refine wh_seq ?_
 refine wh_region ?_
 refine w_p Tb_ok 1 kr ?_
 refine wi_end kr ?_
 refine qh_then ?_
 refine WH.ent (ownNil (kd := (Kd.sl Kd.u64)) (e := 30)) ?_
 obtain ⟨u1, eu1, h1⟩ := bnd h
 have hN1 := ckN_some eu1
 obtain ⟨l2, el1, h2⟩ := bnd h1
 refine h_join (X := Value) (fun g => [(4, g)]) (fun g => [ownV (Kd.sl Kd.u64) 30 g l2] ++ F) (fun _ => True) ?_ ?_
 ·
  refine wh_block ?_
  refine h_rs (fun (k1 : Nat) (st : (List (List Nat))) (g : Value) => [(1, (.pointer (some ⟨b1, 0, none⟩))), (3, (.pointer (some ⟨b2, 0, none⟩))), (4, g), (5, .int .i64 ((k1 : Nat) : Int))]) (fun (k1 : Nat) (st : (List (List Nat))) (g : Value) => [blkP (.pointer (some ⟨b1, 0, none⟩)) 56 [.int .u64 p_z.W.S.P, .int .i64 p_z.W.S.N, .int .i64 p_z.W.S.T, vp_z_1, vp_z_2, vp_z_3, vp_z_4, vp_z_5], rdV Kd.i64 vp_z_1 p_z.W.Corrupt, rdV K_api_Deviation vp_z_2 p_z.W.Deviations, rdV (Kd.sl Kd.u64) vp_z_3 p_z.W.Tapes, rdV (Kd.sl Kd.u64) vp_z_4 p_z.F, rdV Kd.u64 vp_z_5 p_z.Other, blkP (.pointer (some ⟨b2, 0, none⟩)) 24 [.int .u64 p_z.W.S.P, .int .i64 p_z.W.S.N, .int .i64 p_z.W.S.T], ownV (Kd.sl Kd.u64) 30 g st] ++ F) (.slice none 0 0) el1 (Nat.le_max_left ..) aK (tH [(2, false), (2, true), (3, true), (4, true), (5, true), (6, true), (1, false), (0, false)] 5) ?_ ?_
  ·
   rintro g3 j
   refine wh_seq ?_
   refine wh_seq ?_
   refine wh_region ?_
   refine w_p Tb_ok 2 kr ?_
   refine w_ldB 6 1 rfl kr ti_3 rfl rfl ?_
   refine w_p Tb_ok 1 kr ?_
   refine wi_end kr ?_
   refine qh_then ?_
   refine h_cf (b := (decide ((((max 1 (p_z.W.S.N + 1).toNat) : Nat) : Int) ≤ p_z.W.S.N))) rgEF kr ?_
   refine wh_exit ?_
   refine qh_then_exit ?_
   refine q_rzX ?_
   refine qh_block_exit ?_
   exact q_join g3 trivial aK (tH [(7, false)] 7)
  ·
   rintro rem k1 l1 g1 o1 hk1 h3 hn1 j
   have h3 : privitylaw20_shared_L0 p_z k1 l1 = some o1 := h3
   unfold privitylaw20_shared_L0 at h3
   refine wh_seq ?_
   refine wh_seq ?_
   refine wh_region ?_
   refine w_p Tb_ok 2 kr ?_
   refine w_ldB 6 1 rfl kr ti_3 rfl rfl ?_
   refine w_p Tb_ok 1 kr ?_
   refine wi_end kr ?_
   refine qh_then ?_
   refine h_ct (b := (decide (((k1 : Nat) : Int) ≤ p_z.W.S.N))) (rgET hk1) kr ?_
   refine wh_skip ?_
   refine qh_then ?_
   refine wh_seq ?_
   refine wh_block ?_
   refine wh_seq ?_
   refine wh_region ?_
   refine w_p Tb_ok 1 kr ?_
   refine wi_end kr ?_
   refine qh_then ?_
   refine wh_seq ?_
   refine wh_seq ?_
   refine wh_region ?_
   refine w_p Tb_ok 1 kr ?_
   refine wi_end kr ?_
   refine qh_then ?_
   refine WH.ent (ownNil (kd := Kd.u64) (e := 22)) ?_
   refine h_lenle (rd_lenle 5 rfl) (fun hN2 => ?_)
   obtain ⟨l4, el2, h4⟩ := bnd h3
   refine h_join (X := Value) (fun g => [(1, (.pointer (some ⟨b1, 0, none⟩))), (3, (.pointer (some ⟨b2, 0, none⟩))), (4, g1), (5, .int .i64 ((k1 : Nat) : Int)), (6, g)]) (fun g => [blkP (.pointer (some ⟨b1, 0, none⟩)) 56 [.int .u64 p_z.W.S.P, .int .i64 p_z.W.S.N, .int .i64 p_z.W.S.T, vp_z_1, vp_z_2, vp_z_3, vp_z_4, vp_z_5], rdV Kd.i64 vp_z_1 p_z.W.Corrupt, rdV K_api_Deviation vp_z_2 p_z.W.Deviations, rdV (Kd.sl Kd.u64) vp_z_3 p_z.W.Tapes, rdV (Kd.sl Kd.u64) vp_z_4 p_z.F, rdV Kd.u64 vp_z_5 p_z.Other, blkP (.pointer (some ⟨b2, 0, none⟩)) 24 [.int .u64 p_z.W.S.P, .int .i64 p_z.W.S.N, .int .i64 p_z.W.S.T], ownV (Kd.sl Kd.u64) 30 g1 l1, ownV Kd.u64 22 g l4] ++ F) (fun _ => True) ?_ ?_
   ·
    refine wh_block ?_
    refine h_rs (fun (k2 : Nat) (st : (List Nat)) (g : Value) => [(1, (.pointer (some ⟨b1, 0, none⟩))), (3, (.pointer (some ⟨b2, 0, none⟩))), (4, g1), (5, .int .i64 ((k1 : Nat) : Int)), (6, g), (7, .int .i64 ((k2 : Nat) : Int))]) (fun (k2 : Nat) (st : (List Nat)) (g : Value) => [blkP (.pointer (some ⟨b1, 0, none⟩)) 56 [.int .u64 p_z.W.S.P, .int .i64 p_z.W.S.N, .int .i64 p_z.W.S.T, vp_z_1, vp_z_2, vp_z_3, vp_z_4, vp_z_5], rdV Kd.i64 vp_z_1 p_z.W.Corrupt, rdV K_api_Deviation vp_z_2 p_z.W.Deviations, rdV (Kd.sl Kd.u64) vp_z_3 p_z.W.Tapes, rdV (Kd.sl Kd.u64) vp_z_4 p_z.F, rdV Kd.u64 vp_z_5 p_z.Other, blkP (.pointer (some ⟨b2, 0, none⟩)) 24 [.int .u64 p_z.W.S.P, .int .i64 p_z.W.S.N, .int .i64 p_z.W.S.T], ownV (Kd.sl Kd.u64) 30 g1 l1, ownV Kd.u64 22 g st] ++ F) (.slice none 0 0) el2 (Nat.zero_le _) aK (tH [(1, false), (1, true), (2, true), (3, true), (4, true), (5, true), (6, false), (6, false), (0, false)] 5) ?_ ?_
    ·
     rintro g6 j
     refine wh_seq ?_
     refine wh_seq ?_
     refine wh_region ?_
     refine w_p Tb_ok 2 kr ?_
     refine w_ldB 0 6 rfl kr ti_27 rfl rfl ?_
     refine w_len (rd_hd 4 rfl) kr ts_27 ?_
     refine w_p Tb_ok 1 kr ?_
     refine wi_end kr ?_
     refine qh_then ?_
     refine h_cf (b := (decide ((((p_z.F.length) : Nat) : Int) < ((p_z.F.length : Nat) : Int)))) rgF kr ?_
     refine wh_exit ?_
     refine qh_then_exit ?_
     refine q_rzX ?_
     refine qh_block_exit ?_
     exact q_join g6 trivial aK (tH [(0, false), (0, true), (1, true), (2, true), (3, true), (4, true), (5, false), (5, false), (5, false)] 5)
    ·
     rintro rem k2 l3 g4 o2 hk2 h5 hn2 j
     have h5 : privitylaw20_shared_L1 p_z k1 k2 l3 = some o2 := h5
     unfold privitylaw20_shared_L1 at h5
     refine wh_seq ?_
     refine wh_seq ?_
     refine wh_region ?_
     refine w_p Tb_ok 2 kr ?_
     refine w_ldB 0 6 rfl kr ti_27 rfl rfl ?_
     refine w_len (rd_hd 4 rfl) kr ts_27 ?_
     refine w_p Tb_ok 1 kr ?_
     refine wi_end kr ?_
     refine qh_then ?_
     refine h_ct (b := (decide (((k2 : Nat) : Int) < ((p_z.F.length : Nat) : Int)))) (rgT hk2) kr ?_
     refine wh_skip ?_
     refine qh_then ?_
     refine wh_seq ?_
     refine wh_block ?_
     refine wh_seq ?_
     obtain ⟨x3, ex3, h6⟩ := bnd h5
     obtain ⟨x4, ex4, h7⟩ := bnd h6
     obtain ⟨r3, er3, h8⟩ := bnd h7
     obtain ⟨x5, ex5, h9⟩ := bnd h8
     obtain ⟨r4, er4, h10⟩ := bnd h9
     refine h_flow [0, 1, 0, 4, 0, 16, 0, 112, 240, 0, 512, 1536, 4092, 0, 8192, 32767, 65535] ⟨9, [0, 0, 0, 0, 0, 0, 0, 0, 1, 0, 0, 0, 1, 0, 0, 0, 0], [], [(1, [(0, 6)]), (3, [(0, 6)]), (5, [(0, 0)]), (10, [(0, 6)])], [(7, [(0, 4)]), (8, [(0, 4)]), (12, [(9, 0)]), (15, [(13, 0)])]⟩ (fun γ => [.pointer (some ⟨b2, 0, none⟩), .int .u64 p_z.W.S.P, .pointer (some ⟨b2, 0, none⟩), .int .u64 p_z.W.S.P, .pointer (some ⟨b1, 6, none⟩), vp_z_4, .int .i64 ((k2 : Nat) : Int), .pointer (some (elV vp_z_4 (k2 * (Kd.sl Kd.u64).size))), (γ 8 0), .pointer (some ⟨b2, 2, none⟩), .int .i64 p_z.W.S.T, .int .i64 x4, (γ 12 0), .int .i64 ((k1 : Nat) : Int), .int .u64 x5, .int .u64 r4, .int .u64 r4]) (fun i γ => match i with | 8 => [rdV Kd.u64 (γ 8 0) x3] | 12 => [rdV Kd.u64 (γ 12 0) r3] | _ => []) (fun γ => [blkP (.pointer (some ⟨b1, 0, none⟩)) 56 [.int .u64 p_z.W.S.P, .int .i64 p_z.W.S.N, .int .i64 p_z.W.S.T, vp_z_1, vp_z_2, vp_z_3, vp_z_4, vp_z_5], rdV Kd.i64 vp_z_1 p_z.W.Corrupt, rdV K_api_Deviation vp_z_2 p_z.W.Deviations, rdV (Kd.sl Kd.u64) vp_z_3 p_z.W.Tapes, rdV (Kd.sl Kd.u64) vp_z_4 p_z.F, rdV Kd.u64 vp_z_5 p_z.Other, blkP (.pointer (some ⟨b2, 0, none⟩)) 24 [.int .u64 p_z.W.S.P, .int .i64 p_z.W.S.N, .int .i64 p_z.W.S.T], ownV (Kd.sl Kd.u64) 30 g1 l1, ownV Kd.u64 22 g4 l3, rdV Kd.u64 (γ 8 0) x3, rdV Kd.u64 (γ 12 0) r3] ++ F) [0, 2, 4, 6, 9, 13, 16] tryd_mix Tb_ok kr kr (fun _ => by kernel_rfl) (fun _ => by kernel_rfl) (fun _ => by kernel_rfl) (fun _ => by kernel_rfl) (fun _ => by kernel_rfl) (fun _ => by kernel_rfl) (fun _ => by kernel_rfl) ?_ ?_
     ·
      refine ⟨?_, ?_, ?_, ?_, ?_, ?_, ?_, ?_, ?_, ?_, trivial⟩
      ·
       intro γ F
       refine WI.reH (H' := [blkP (.pointer (some ⟨b2, 0, none⟩)) 24 [.int .u64 p_z.W.S.P, .int .i64 p_z.W.S.N, .int .i64 p_z.W.S.T]] ++ F) kr ?_
       refine w_ldB 0 0 rfl kr ti_22 rfl rfl ?_
       exact wE (gl []) [(0, false)] 0
      ·
       intro γ F
       refine WI.reH (H' := [blkP (.pointer (some ⟨b2, 0, none⟩)) 24 [.int .u64 p_z.W.S.P, .int .i64 p_z.W.S.N, .int .i64 p_z.W.S.T]] ++ F) kr ?_
       refine w_ldB 0 0 rfl kr ti_22 rfl rfl ?_
       exact wE (gl []) [(0, false)] 0
      ·
       intro γ F
       refine WI.reH (H' := [blkP (.pointer (some ⟨b1, 0, none⟩)) 56 [.int .u64 p_z.W.S.P, .int .i64 p_z.W.S.N, .int .i64 p_z.W.S.T, vp_z_1, vp_z_2, vp_z_3, vp_z_4, vp_z_5]] ++ F) kr ?_
       refine w_ldB 0 6 rfl kr ti_27 rfl rfl ?_
       exact wE (gl []) [(0, false)] 0
      ·
       intro γ F
       refine WI.reH (H' := [rdV (Kd.sl Kd.u64) vp_z_4 p_z.F] ++ F) kr ?_
       refine w_ix (k := .i64) (rd_hd 0 rfl) (nbd ex3) rfl kr ts_27 ti_30 ?_
       exact wE (gl []) [] 1
      ·
       intro γ F
       refine WI.reH (H' := [rdV (Kd.sl Kd.u64) vp_z_4 p_z.F] ++ F) kr ?_
       refine w_ldR 0 0 rfl ex3 kr ti_30 rfl rfl ?_
       rintro v1
       exact wE (gl [v1]) [(0, true)] 2
      ·
       intro γ F
       refine WI.reH (H' := [blkP (.pointer (some ⟨b2, 0, none⟩)) 24 [.int .u64 p_z.W.S.P, .int .i64 p_z.W.S.N, .int .i64 p_z.W.S.T]] ++ F) kr ?_
       refine w_ldB 0 2 rfl kr ti_3 rfl rfl ?_
       exact wE (gl []) [(0, false)] 0
      ·
       intro γ F
       refine WI.reH (H' := [] ++ F) kr ?_
       refine w_bi (zaddI ex4) kr ?_
       exact wE (gl []) [] 0
      ·
       intro γ F
       refine WI.reH (H' := [rdV Kd.u64 (γ 8 0) x3] ++ F) kr ?_
       refine w_fn [(0, true)] (c_privityref04_Words er3) rfl fok_42 kr ?_
       rintro _ _ ⟨w1, hv, rfl⟩; have hv := hv.symm; subst hv
       refine WI.ent (frzAt 0 rfl) ?_
       exact wE (gl [w1]) [(0, true)] 2
      ·
       intro γ F
       refine WI.reH (H' := [] ++ F) kr ?_
       refine w_cv Tb_ok (ecU ex5) kr ?_
       exact wE (gl []) [] 0
      ·
       intro γ F
       refine WI.reH (H' := [rdV Kd.u64 (γ 12 0) r3] ++ F) kr ?_
       refine w_fn [(0, true)] (c_privityref04_Eval er4) rfl fok_44 kr ?_
       rintro _ _ ⟨hv, rfl⟩; have hv := hv.symm; subst hv
       exact wE (gl []) [] 1
     ·
      intro γ1
      refine qh_then ?_
      refine wh_seq ?_
      refine wh_seq ?_
      obtain ⟨x6, ej1, h11⟩ := bnd h10
      refine h_join (X := Unit) (fun g => [(1, (.pointer (some ⟨b1, 0, none⟩))), (3, (.pointer (some ⟨b2, 0, none⟩))), (4, g1), (5, .int .i64 ((k1 : Nat) : Int)), (6, g4), (7, .int .i64 ((k2 : Nat) : Int)), (8, .int .u64 r4), (51, .bool x6)]) (fun g => [blkP (.pointer (some ⟨b1, 0, none⟩)) 56 [.int .u64 p_z.W.S.P, .int .i64 p_z.W.S.N, .int .i64 p_z.W.S.T, vp_z_1, vp_z_2, vp_z_3, vp_z_4, vp_z_5], rdV Kd.i64 vp_z_1 p_z.W.Corrupt, rdV K_api_Deviation vp_z_2 p_z.W.Deviations, rdV (Kd.sl Kd.u64) vp_z_3 p_z.W.Tapes, rdV (Kd.sl Kd.u64) vp_z_4 p_z.F, rdV Kd.u64 vp_z_5 p_z.Other, blkP (.pointer (some ⟨b2, 0, none⟩)) 24 [.int .u64 p_z.W.S.P, .int .i64 p_z.W.S.N, .int .i64 p_z.W.S.T], ownV (Kd.sl Kd.u64) 30 g1 l1, ownV Kd.u64 22 g4 l3] ++ F) (fun _ => True) ?_ ?_
      ·
       refine wh_region ?_
       refine w_p Tb_ok 1 kr ?_
       refine w_ldB 0 0 rfl kr ti_29 rfl rfl ?_
       refine w_p Tb_ok 1 kr ?_
       obtain ⟨r5, er5, h12⟩ := bnd ej1
       refine w_fn [(1, true), (2, true), (3, true)] (c_privityref14_Honest er5) rfl fok_40 kr ?_
       rintro _ _ ⟨hv, rfl⟩; have hv := hv.symm; subst hv
       refine w_p Tb_ok 2 kr ?_
       rcases bcase h12 with ⟨t1, h13⟩ | ⟨t1, h13⟩
       ·
        refine w_kb (t := 46) t1 kr ?_
        refine w_p Tb_ok 1 kr ?_
        refine w_ldB 0 7 rfl kr ti_30 rfl rfl ?_
        refine w_len (rd_hd 5 rfl) kr ts_30 ?_
        refine w_p Tb_ok 2 kr ?_
        refine wi_end kr ?_
        cases h13
        exact q_join () trivial aK (tH [(0, false), (0, true), (1, true), (2, true), (3, true), (4, true), (5, false), (5, false), (5, false)] 7)
       ·
        refine w_kb (t := 46) t1 kr ?_
        refine w_p Tb_ok 5 kr ?_
        refine wi_end kr ?_
        cases h13
        exact q_join () trivial aK (tH [(0, false), (0, true), (1, true), (2, true), (3, true), (4, true), (5, false), (5, false), (5, false)] 7)
      ·
       rintro ⟨⟩ - j
       refine qh_then ?_
       rcases bcase h11 with ⟨t2, h14⟩ | ⟨t2, h14⟩
       ·
        refine h_ct (b := x6) t2 kr ?_
        obtain ⟨x7, ex7, h15⟩ := bnd h14
        obtain ⟨x8, ex8, h16⟩ := bnd h15
        obtain ⟨x9, ex9, h17⟩ := bnd h16
        obtain ⟨x10, ex10, h18⟩ := bnd h17
        refine h_flow [0, 1, 0, 0, 12, 0, 32, 96, 252, 511, 1023, 0, 2048, 8191, 16383] ⟨9, [0, 0, 0, 0, 0, 0, 0, 0, 0, 0, 0, 0, 0, 0, 0], [], [(1, [(0, 0)]), (6, [(0, 0)]), (12, [(0, 6)])], [(7, [(0, 5)]), (9, [(0, 5)]), (10, [(0, 5)])]⟩ (fun γ => [.pointer (some ⟨b1, 7, none⟩), vp_z_5, .int .i64 ((k1 : Nat) : Int), .int .i64 ((k2 : Nat) : Int), .int .i64 x7, .pointer (some ⟨b1, 7, none⟩), vp_z_5, .int .i64 ((p_z.Other.length : Nat) : Int), .int .i64 x8, .pointer (some (elV vp_z_5 (x8.toNat * Kd.u64.size))), .int .u64 x9, .pointer (some ⟨b2, 0, none⟩), .int .u64 p_z.W.S.P, .int .u64 x10, .int .u64 x10]) (fun _ _ => []) (fun γ => [blkP (.pointer (some ⟨b1, 0, none⟩)) 56 [.int .u64 p_z.W.S.P, .int .i64 p_z.W.S.N, .int .i64 p_z.W.S.T, vp_z_1, vp_z_2, vp_z_3, vp_z_4, vp_z_5], rdV Kd.i64 vp_z_1 p_z.W.Corrupt, rdV K_api_Deviation vp_z_2 p_z.W.Deviations, rdV (Kd.sl Kd.u64) vp_z_3 p_z.W.Tapes, rdV (Kd.sl Kd.u64) vp_z_4 p_z.F, rdV Kd.u64 vp_z_5 p_z.Other, blkP (.pointer (some ⟨b2, 0, none⟩)) 24 [.int .u64 p_z.W.S.P, .int .i64 p_z.W.S.N, .int .i64 p_z.W.S.T], ownV (Kd.sl Kd.u64) 30 g1 l1, ownV Kd.u64 22 g4 l3] ++ F) [0, 2, 3, 5, 11, 14] tryd_mix Tb_ok kr kr (fun _ => by kernel_rfl) (fun _ => by kernel_rfl) (fun _ => by kernel_rfl) (fun _ => by kernel_rfl) (fun _ => by kernel_rfl) (fun _ => by kernel_rfl) (fun _ => by kernel_rfl) ?_ ?_
        ·
         refine ⟨?_, ?_, ?_, ?_, ?_, ?_, ?_, ?_, ?_, trivial⟩
         ·
          intro γ F
          refine WI.reH (H' := [blkP (.pointer (some ⟨b1, 0, none⟩)) 56 [.int .u64 p_z.W.S.P, .int .i64 p_z.W.S.N, .int .i64 p_z.W.S.T, vp_z_1, vp_z_2, vp_z_3, vp_z_4, vp_z_5]] ++ F) kr ?_
          refine w_ldB 0 7 rfl kr ti_30 rfl rfl ?_
          exact wE (gl []) [(0, false)] 0
         ·
          intro γ F
          refine WI.reH (H' := [] ++ F) kr ?_
          refine w_bi (zaddI ex7) kr ?_
          exact wE (gl []) [] 0
         ·
          intro γ F
          refine WI.reH (H' := [blkP (.pointer (some ⟨b1, 0, none⟩)) 56 [.int .u64 p_z.W.S.P, .int .i64 p_z.W.S.N, .int .i64 p_z.W.S.T, vp_z_1, vp_z_2, vp_z_3, vp_z_4, vp_z_5]] ++ F) kr ?_
          refine w_ldB 0 7 rfl kr ti_30 rfl rfl ?_
          exact wE (gl []) [(0, false)] 0
         ·
          intro γ F
          refine WI.reH (H' := [rdV Kd.u64 vp_z_5 p_z.Other] ++ F) kr ?_
          refine w_len (rd_hd 0 rfl) kr ts_30 ?_
          exact wE (gl []) [] 1
         ·
          intro γ F
          refine WI.reH (H' := [] ++ F) kr ?_
          refine w_bi (zremI ex8) kr ?_
          exact wE (gl []) [] 0
         ·
          intro γ F
          refine WI.reH (H' := [rdV Kd.u64 vp_z_5 p_z.Other] ++ F) kr ?_
          refine w_ix (k := .i64) (rd_hd 0 rfl) (ib ex9) (iz ex9) kr ts_30 ti_22 ?_
          exact wE (gl []) [] 1
         ·
          intro γ F
          refine WI.reH (H' := [rdV Kd.u64 vp_z_5 p_z.Other] ++ F) kr ?_
          refine w_ldR 0 0 rfl (ig ex9) kr ti_22 rfl rfl ?_
          rintro _
          exact wE (gl []) [] 1
         ·
          intro γ F
          refine WI.reH (H' := [blkP (.pointer (some ⟨b2, 0, none⟩)) 24 [.int .u64 p_z.W.S.P, .int .i64 p_z.W.S.N, .int .i64 p_z.W.S.T]] ++ F) kr ?_
          refine w_ldB 0 0 rfl kr ti_22 rfl rfl ?_
          exact wE (gl []) [(0, false)] 0
         ·
          intro γ F
          refine WI.reH (H' := [] ++ F) kr ?_
          refine w_bi (zremU ex10) kr ?_
          exact wE (gl []) [] 0
        ·
         intro γ2
         refine qh_then ?_
         refine wh_region ?_
         refine w_p Tb_ok 2 kr ?_
         refine w_lt (kd := Kd.u64) (t := 30) (len := 1) (ps0 := [(0, .int .u64 x10)]) (ps := [(0, .int .u64 x10)]) ([x10] : List Nat) _ (rowC (x := x10) (g := ()) (it0 rfl) row0) (scI sc0) kr ts_30 ti_22 kr rfl rfl (fun v2 => ?_)
         obtain ⟨l5, el5, h19⟩ := bnd h18
         refine w_app 9 rfl (own_src 0 rfl) el5 kr ts_30 ti_22 rfl (fun v3 => ?_)
         refine w_p Tb_ok 1 kr ?_
         refine wi_end kr ?_
         refine qh_block_normal ?_
         refine qh_then ?_
         refine wh_region ?_
         refine w_p Tb_ok 1 kr ?_
         refine w_bi (zinc hk2 hN2) kr ?_
         refine w_p Tb_ok 1 kr ?_
         refine wi_end kr ?_
         have h19 := Option.some.inj h19; subst h19
         exact q_rs v3 hn2 aK (tH [(2, false), (2, true), (3, true), (4, true), (5, true), (6, true), (7, false), (7, false), (0, false)] 6)
       ·
        refine h_cf (b := x6) t2 kr ?_
        refine wh_skip ?_
        refine qh_then ?_
        refine wh_region ?_
        refine w_p Tb_ok 2 kr ?_
        refine w_lt (kd := Kd.u64) (t := 30) (len := 1) (ps0 := [(0, .int .u64 r4)]) (ps := [(0, .int .u64 r4)]) ([r4] : List Nat) _ (rowC (x := r4) (g := ()) (it0 rfl) row0) (scI sc0) kr ts_30 ti_22 kr rfl rfl (fun v4 => ?_)
        obtain ⟨l6, el6, h20⟩ := bnd h14
        refine w_app 9 rfl (own_src 0 rfl) el6 kr ts_30 ti_22 rfl (fun v5 => ?_)
        refine w_p Tb_ok 1 kr ?_
        refine wi_end kr ?_
        refine qh_block_normal ?_
        refine qh_then ?_
        refine wh_region ?_
        refine w_p Tb_ok 1 kr ?_
        refine w_bi (zinc hk2 hN2) kr ?_
        refine w_p Tb_ok 1 kr ?_
        refine wi_end kr ?_
        have h20 := Option.some.inj h20; subst h20
        exact q_rs v5 hn2 aK (tH [(2, false), (2, true), (3, true), (4, true), (5, true), (6, true), (7, false), (7, false), (0, false)] 6)
   ·
    rintro g5 - j
    refine qh_then ?_
    refine wh_region ?_
    refine w_p Tb_ok 2 kr ?_
    refine WI.ent (frzAt 8 rfl) ?_
    refine w_lt (kd := (Kd.sl Kd.u64)) (t := 27) (len := 1) (ps0 := [(0, g5)]) (ps := [(0, .agg #[g5])]) ([l4] : List (List Nat)) _ (rowC (x := l4) (g := g5) (itS 0 rfl) row0) (scS (rd_hd 0 rfl) sc0) kr ts_27 ti_30 kr rfl rfl (fun v6 => ?_)
    obtain ⟨l7, el7, h21⟩ := bnd h4
    refine w_app 9 rfl (own_src 0 rfl) el7 kr ts_27 ti_30 rfl (fun v7 => ?_)
    refine w_p Tb_ok 1 kr ?_
    refine wi_end kr ?_
    refine qh_block_normal ?_
    refine qh_then ?_
    refine wh_region ?_
    refine w_p Tb_ok 1 kr ?_
    refine w_bi (zinc hk1 hN1) kr ?_
    refine w_p Tb_ok 1 kr ?_
    refine wi_end kr ?_
    have h21 := Option.some.inj h21; subst h21
    exact q_rs v7 hn1 aK (tH [(3, false), (3, true), (4, true), (5, true), (6, true), (7, true), (8, false), (0, false)] 7)
 ·
  rintro g2 - j
  refine qh_then ?_
  refine wh_seq ?_
  refine wh_region ?_
  refine w_p Tb_ok 2 kr ?_
  refine wi_end kr ?_
  refine qh_then ?_
  refine wh_ret ?_
  have h2 := Option.some.inj h2; subst h2
  exact q_end (l := [g2]) [(0, false)] 0 ⟨g2, rfl, rfl⟩ (.inl rfl) kr kr kr
theorem c_privitylaw20_ReconstructLinear {p_z : T_privitylaw20_Poly} {p_g : List (List Nat)} {vp_z_1 : Value} {vp_z_2 : Value} {vp_z_3 : Value} {vp_z_4 : Value} {vp_z_5 : Value} {vp_g_1 : Value} {r : Bool} (h : privitylaw20_ReconstructLinear p_z p_g = some r) : Ct Tryd.prog 9 [.agg #[.int .u64 p_z.W.S.P, .int .i64 p_z.W.S.N, .int .i64 p_z.W.S.T, vp_z_1, vp_z_2, vp_z_3, vp_z_4, vp_z_5], vp_g_1] [rdV Kd.i64 vp_z_1 p_z.W.Corrupt, rdV K_api_Deviation vp_z_2 p_z.W.Deviations, rdV (Kd.sl Kd.u64) vp_z_3 p_z.W.Tapes, rdV (Kd.sl Kd.u64) vp_z_4 p_z.F, rdV Kd.u64 vp_z_5 p_z.Other, rdV (Kd.sl Kd.u64) vp_g_1 p_g, exF] (fun v L => v = .bool r ∧ L = []) := by
 refine ct_intro Tryd.func9 rfl kr (fun F => ?_)
 unfold privitylaw20_ReconstructLinear at h
 refine wh_seq ?_
 refine wh_region ?_
 refine w_box (t := 56) (v := .agg #[.int .u64 p_z.W.S.P, .int .i64 p_z.W.S.N, .int .i64 p_z.W.S.T, vp_z_1, vp_z_2, vp_z_3, vp_z_4, vp_z_5]) (cs := [.int .u64 p_z.W.S.P, .int .i64 p_z.W.S.N, .int .i64 p_z.W.S.T, vp_z_1, vp_z_2, vp_z_3, vp_z_4, vp_z_5]) (cv0 kr) kr (fun q1 => ?_)
 refine WI.hd (y := blkP q1 56 [.int .u64 p_z.W.S.P, .int .i64 p_z.W.S.N, .int .i64 p_z.W.S.T, vp_z_1, vp_z_2, vp_z_3, vp_z_4, vp_z_5]) kr ?_
 refine w_opP 0 rfl (fun b1 hb => ?_)
 subst hb
 refine w_p Tb_ok 1 kr ?_
 refine wi_end kr ?_
 refine qh_then ?_
 refine wh_seq ?_
 refine wh_seq ?_
 obtain ⟨x1, ej1, h1⟩ := bnd h
 refine h_join (X := Unit) (fun g => [(1, vp_g_1), (2, (.pointer (some ⟨b1, 0, none⟩))), (33, .bool x1)]) (fun g => [rdV (Kd.sl Kd.u64) vp_g_1 p_g, blkP (.pointer (some ⟨b1, 0, none⟩)) 56 [.int .u64 p_z.W.S.P, .int .i64 p_z.W.S.N, .int .i64 p_z.W.S.T, vp_z_1, vp_z_2, vp_z_3, vp_z_4, vp_z_5], rdV Kd.i64 vp_z_1 p_z.W.Corrupt, rdV K_api_Deviation vp_z_2 p_z.W.Deviations, rdV (Kd.sl Kd.u64) vp_z_3 p_z.W.Tapes, rdV (Kd.sl Kd.u64) vp_z_4 p_z.F, rdV Kd.u64 vp_z_5 p_z.Other, exF] ++ F) (fun _ => True) ?_ ?_
 ·
  refine wh_region ?_
  refine w_ldB 0 0 rfl kr ti_56 rfl rfl ?_
  obtain ⟨r1, er1, h2⟩ := bnd ej1
  refine w_fn [(1, true), (2, true), (3, true), (4, true), (5, true)] (c_privitylaw20_small er1) rfl fok_35 kr ?_
  rintro _ _ ⟨hv, rfl⟩; have hv := hv.symm; subst hv
  refine w_p Tb_ok 2 kr ?_
  rcases bcase h2 with ⟨t1, h3⟩ | ⟨t1, h3⟩
  ·
   refine w_kb (t := 26) t1 kr ?_
   refine w_p Tb_ok 7 kr ?_
   refine wi_end kr ?_
   cases h3
   exact q_join () trivial aK (tH [(6, true), (0, false), (0, true), (1, true), (2, true), (3, true), (4, true), (6, true)] 7)
  ·
   refine w_kb (t := 26) t1 kr ?_
   refine w_p Tb_ok 1 kr ?_
   refine w_len (rd_hd 6 rfl) kr ts_27 ?_
   refine w_p Tb_ok 1 kr ?_
   refine w_ldB 0 6 rfl kr ti_27 rfl rfl ?_
   refine w_len (rd_hd 4 rfl) kr ts_27 ?_
   refine w_p Tb_ok 2 kr ?_
   refine wi_end kr ?_
   cases h3
   exact q_join () trivial aK (tH [(6, true), (0, false), (0, true), (1, true), (2, true), (3, true), (4, true), (6, true)] 7)
 ·
  rintro ⟨⟩ - j
  refine qh_then ?_
  rcases bcase h1 with ⟨t2, h4⟩ | ⟨t2, h4⟩
  ·
   refine h_ct (b := x1) t2 kr ?_
   refine wh_seq ?_
   refine wh_region ?_
   obtain ⟨r2, er2, h5⟩ := bnd h4
   refine w_fn [(7, true)] (c_privitylaw20_awake er2) rfl fok_36 kr ?_
   rintro _ _ ⟨hv, rfl⟩; have hv := hv.symm; subst hv
   refine w_p Tb_ok 1 kr ?_
   refine wi_end kr ?_
   refine qh_then ?_
   refine wh_ret ?_
   refine qh_then_ret ?_
   have h5 := Option.some.inj h5; subst h5
   exact q_end (l := [.bool r2]) [] 8 ⟨rfl, rfl⟩ (.inl rfl) kr kr kr
  ·
   refine h_cf (b := x1) t2 kr ?_
   refine wh_skip ?_
   refine qh_then ?_
   refine wh_seq ?_
   refine wh_region ?_
   refine w_p Tb_ok 1 kr ?_
   refine w_ldB 1 0 rfl kr ti_29 rfl rfl ?_
   refine w_al kr ti_29 (fun q2 => ?_)
   refine WI.hd (y := blkP q2 29 [.int .u64 ((0 : Nat) : Int), .int .i64 ((0 : Nat) : Int), .int .i64 ((0 : Nat) : Int), (.slice none 0 0), (.slice none 0 0), (.slice none 0 0)]) kr ?_
   refine w_opP 0 rfl (fun b2 hb => ?_)
   subst hb
   refine w_stB (v := .agg #[.int .u64 p_z.W.S.P, .int .i64 p_z.W.S.N, .int .i64 p_z.W.S.T, vp_z_1, vp_z_2, vp_z_3]) (off := 0) (cs := [.int .u64 p_z.W.S.P, .int .i64 p_z.W.S.N, .int .i64 p_z.W.S.T, vp_z_1, vp_z_2, vp_z_3]) 0 rfl (cv0 kr) kr ti_29 rfl rfl (oC (fun _ _ => rfl) (oC (fun _ _ => rfl) (oC (fun _ _ => rfl) (oC (sl_one (rd_hd 3 rfl)) (oC (sl_one (rd_hd 4 rfl)) (oC (sl_one (rd_hd 5 rfl)) oN)))))) ?_
   refine WI.hd (y := blkP (.pointer (some ⟨b2, 0, none⟩)) 29 [.int .u64 p_z.W.S.P, .int .i64 p_z.W.S.N, .int .i64 p_z.W.S.T, vp_z_1, vp_z_2, vp_z_3]) kr ?_
   refine wi_end kr ?_
   refine qh_then ?_
   refine wh_seq ?_
   refine wh_region ?_
   refine w_p Tb_ok 1 kr ?_
   refine w_stB (v := (.slice none 0 0)) (off := 3) (cs := [(.slice none 0 0)]) 0 rfl (cv0 kr) kr ti_25 rfl rfl (oC (fun _ _ => rfl) oN) ?_
   refine WI.hd (y := blkP (.pointer (some ⟨b2, 0, none⟩)) 29 [.int .u64 p_z.W.S.P, .int .i64 p_z.W.S.N, .int .i64 p_z.W.S.T, (.slice none 0 0), vp_z_2, vp_z_3]) kr ?_
   refine w_p Tb_ok 1 kr ?_
   refine w_stB (v := (.slice none 0 0)) (off := 4) (cs := [(.slice none 0 0)]) 0 rfl (cv0 kr) kr ti_26 rfl rfl (oC (fun _ _ => rfl) oN) ?_
   refine WI.hd (y := blkP (.pointer (some ⟨b2, 0, none⟩)) 29 [.int .u64 p_z.W.S.P, .int .i64 p_z.W.S.N, .int .i64 p_z.W.S.T, (.slice none 0 0), (.slice none 0 0), vp_z_3]) kr ?_
   refine wi_end kr ?_
   refine qh_then ?_
   refine wh_seq ?_
   refine wh_region ?_
   refine w_ldB 0 0 rfl kr ti_29 rfl rfl ?_
   refine w_p Tb_ok 1 kr ?_
   refine w_ldB 2 6 rfl kr ti_27 rfl rfl ?_
   refine w_bd (v := .agg #[.int .u64 p_z.W.S.P, .int .i64 p_z.W.S.N, .int .i64 p_z.W.S.T, (.slice none 0 0), (.slice none 0 0), vp_z_3, vp_z_4, (.slice none 0 0)]) (t := 56) (ps0 := [(0, .agg #[.int .u64 p_z.W.S.P, .int .i64 p_z.W.S.N, .int .i64 p_z.W.S.T, (.slice none 0 0), (.slice none 0 0), vp_z_3]), (1, vp_z_4)]) (ps := [(0, .agg #[.int .u64 p_z.W.S.P, .int .i64 p_z.W.S.N, .int .i64 p_z.W.S.T, (.slice none 0 0), (.slice none 0 0), vp_z_3]), (1, .agg #[vp_z_4])]) (scI (scS (rd_hd 6 rfl) sc0)) kr (fun w => by kernel_rfl) ?_
   refine WI.ent (rdNil (kd := Kd.i64)) ?_
   refine WI.ent (rdNil (kd := K_api_Deviation)) ?_
   refine WI.ent (rdNil (kd := Kd.u64)) ?_
   obtain ⟨r3, er3, h6⟩ := bnd h4
   refine w_fn [(2, true), (1, true), (8, true), (9, true), (0, true)] (c_privitylaw20_shared er3) rfl fok_39 kr ?_
   rintro _ _ ⟨w3, hv, rfl⟩; have hv := hv.symm; subst hv
   refine w_p Tb_ok 1 kr ?_
   refine wi_end kr ?_
   refine qh_then ?_
   refine wh_seq ?_
   refine wh_region ?_
   refine w_ldB 4 0 rfl kr ti_29 rfl rfl ?_
   refine w_p Tb_ok 1 kr ?_
   refine w_bd (v := .agg #[.int .u64 p_z.W.S.P, .int .i64 p_z.W.S.N, .int .i64 p_z.W.S.T, (.slice none 0 0), (.slice none 0 0), vp_z_3, vp_g_1, (.slice none 0 0)]) (t := 56) (ps0 := [(0, .agg #[.int .u64 p_z.W.S.P, .int .i64 p_z.W.S.N, .int .i64 p_z.W.S.T, (.slice none 0 0), (.slice none 0 0), vp_z_3]), (1, vp_g_1)]) (ps := [(0, .agg #[.int .u64 p_z.W.S.P, .int .i64 p_z.W.S.N, .int .i64 p_z.W.S.T, (.slice none 0 0), (.slice none 0 0), vp_z_3]), (1, .agg #[vp_g_1])]) (scI (scS (rd_hd 5 rfl) sc0)) kr (fun w => by kernel_rfl) ?_
   refine WI.ent (rdNil (kd := Kd.u64)) ?_
   obtain ⟨r4, er4, h7⟩ := bnd h6
   refine w_fn [(4, true), (3, true), (10, true), (6, true), (0, true)] (c_privitylaw20_shared er4) rfl fok_39 kr ?_
   rintro _ _ ⟨w4, hv, rfl⟩; have hv := hv.symm; subst hv
   refine w_p Tb_ok 1 kr ?_
   refine wi_end kr ?_
   refine qh_then ?_
   refine wh_seq ?_
   refine wh_region ?_
   refine w_p Tb_ok 1 kr ?_
   refine wi_end kr ?_
   refine qh_then ?_
   refine wh_seq ?_
   refine wh_seq ?_
   refine wh_region ?_
   refine w_p Tb_ok 1 kr ?_
   refine wi_end kr ?_
   refine qh_then ?_
   refine WH.ent (ownNil (kd := (Kd.sl Kd.u64)) (e := 30)) ?_
   obtain ⟨u1, eu1, h8⟩ := bnd h7
   have hN1 := ckN_some eu1
   obtain ⟨l2, el1, h9⟩ := bnd h8
   refine h_join (X := Value) (fun g => [(2, (.pointer (some ⟨b1, 0, none⟩))), (5, (.pointer (some ⟨b2, 0, none⟩))), (6, w3), (7, w4), (8, g)]) (fun g => [blkP (.pointer (some ⟨b1, 0, none⟩)) 56 [.int .u64 p_z.W.S.P, .int .i64 p_z.W.S.N, .int .i64 p_z.W.S.T, vp_z_1, vp_z_2, vp_z_3, vp_z_4, vp_z_5], rdV Kd.i64 vp_z_1 p_z.W.Corrupt, rdV K_api_Deviation vp_z_2 p_z.W.Deviations, rdV (Kd.sl Kd.u64) vp_z_3 p_z.W.Tapes, rdV (Kd.sl Kd.u64) vp_z_4 p_z.F, rdV Kd.u64 vp_z_5 p_z.Other, blkP (.pointer (some ⟨b2, 0, none⟩)) 29 [.int .u64 p_z.W.S.P, .int .i64 p_z.W.S.N, .int .i64 p_z.W.S.T, (.slice none 0 0), (.slice none 0 0), vp_z_3], rdV Kd.i64 (.slice none 0 0) ([] : List Int), rdV K_api_Deviation (.slice none 0 0) ([] : List T_api_Deviation), ownV (Kd.sl Kd.u64) 30 w3 r3, ownV (Kd.sl Kd.u64) 30 w4 r4, ownV (Kd.sl Kd.u64) 30 g l2, exF] ++ F) (fun _ => True) ?_ ?_
   ·
    refine wh_block ?_
    refine h_rs (fun (k1 : Nat) (st : (List (List Nat))) (g : Value) => [(2, (.pointer (some ⟨b1, 0, none⟩))), (5, (.pointer (some ⟨b2, 0, none⟩))), (6, w3), (7, w4), (8, g), (9, .int .i64 ((k1 : Nat) : Int))]) (fun (k1 : Nat) (st : (List (List Nat))) (g : Value) => [blkP (.pointer (some ⟨b1, 0, none⟩)) 56 [.int .u64 p_z.W.S.P, .int .i64 p_z.W.S.N, .int .i64 p_z.W.S.T, vp_z_1, vp_z_2, vp_z_3, vp_z_4, vp_z_5], rdV Kd.i64 vp_z_1 p_z.W.Corrupt, rdV K_api_Deviation vp_z_2 p_z.W.Deviations, rdV (Kd.sl Kd.u64) vp_z_3 p_z.W.Tapes, rdV (Kd.sl Kd.u64) vp_z_4 p_z.F, rdV Kd.u64 vp_z_5 p_z.Other, blkP (.pointer (some ⟨b2, 0, none⟩)) 29 [.int .u64 p_z.W.S.P, .int .i64 p_z.W.S.N, .int .i64 p_z.W.S.T, (.slice none 0 0), (.slice none 0 0), vp_z_3], rdV Kd.i64 (.slice none 0 0) ([] : List Int), rdV K_api_Deviation (.slice none 0 0) ([] : List T_api_Deviation), ownV (Kd.sl Kd.u64) 30 w3 r3, ownV (Kd.sl Kd.u64) 30 w4 r4, ownV (Kd.sl Kd.u64) 30 g st, exF] ++ F) (.slice none 0 0) el1 (Nat.le_max_left ..) aK (tH [(9, false), (9, true), (10, true), (11, true), (12, true), (13, true), (7, false), (6, true), (5, true), (3, false), (1, false), (0, false), (10, true)] 11) ?_ ?_
    ·
     rintro g3 j
     refine wh_seq ?_
     refine wh_seq ?_
     refine wh_region ?_
     refine w_p Tb_ok 3 kr ?_
     refine w_ldB 6 1 rfl kr ti_3 rfl rfl ?_
     refine w_p Tb_ok 1 kr ?_
     refine wi_end kr ?_
     refine qh_then ?_
     refine h_cf (b := (decide ((((max 0 (p_z.W.S.N).toNat) : Nat) : Int) < p_z.W.S.N))) rgLF kr ?_
     refine wh_exit ?_
     refine qh_then_exit ?_
     refine q_rzX ?_
     refine qh_block_exit ?_
     exact q_join g3 trivial aK (tH [(0, false), (0, true), (1, true), (2, true), (3, true), (4, true), (5, false), (5, true), (6, true), (7, false), (7, false), (7, false), (7, true)] 8)
    ·
     rintro rem k1 l1 g1 o1 hk1 h10 hn1 j
     have h10 : privitylaw20_ReconstructLinear_L0 p_z r3 r4 k1 l1 = some o1 := h10
     unfold privitylaw20_ReconstructLinear_L0 at h10
     refine wh_seq ?_
     refine wh_seq ?_
     refine wh_region ?_
     refine w_p Tb_ok 3 kr ?_
     refine w_ldB 6 1 rfl kr ti_3 rfl rfl ?_
     refine w_p Tb_ok 1 kr ?_
     refine wi_end kr ?_
     refine qh_then ?_
     refine h_ct (b := (decide (((k1 : Nat) : Int) < p_z.W.S.N))) (rgLT hk1) kr ?_
     refine wh_skip ?_
     refine qh_then ?_
     refine wh_seq ?_
     refine wh_block ?_
     refine wh_seq ?_
     refine wh_region ?_
     refine w_p Tb_ok 1 kr ?_
     refine wi_end kr ?_
     refine qh_then ?_
     refine wh_seq ?_
     refine wh_seq ?_
     refine wh_region ?_
     refine w_p Tb_ok 1 kr ?_
     refine wi_end kr ?_
     refine qh_then ?_
     refine WH.ent (ownNil (kd := Kd.u64) (e := 22)) ?_
     refine h_lenle (rd_lenle 5 rfl) (fun hN2 => ?_)
     obtain ⟨l4, el2, h11⟩ := bnd h10
     refine h_join (X := Value) (fun g => [(2, (.pointer (some ⟨b1, 0, none⟩))), (5, (.pointer (some ⟨b2, 0, none⟩))), (6, w3), (7, w4), (8, g1), (9, .int .i64 ((k1 : Nat) : Int)), (10, g)]) (fun g => [blkP (.pointer (some ⟨b1, 0, none⟩)) 56 [.int .u64 p_z.W.S.P, .int .i64 p_z.W.S.N, .int .i64 p_z.W.S.T, vp_z_1, vp_z_2, vp_z_3, vp_z_4, vp_z_5], rdV Kd.i64 vp_z_1 p_z.W.Corrupt, rdV K_api_Deviation vp_z_2 p_z.W.Deviations, rdV (Kd.sl Kd.u64) vp_z_3 p_z.W.Tapes, rdV (Kd.sl Kd.u64) vp_z_4 p_z.F, rdV Kd.u64 vp_z_5 p_z.Other, blkP (.pointer (some ⟨b2, 0, none⟩)) 29 [.int .u64 p_z.W.S.P, .int .i64 p_z.W.S.N, .int .i64 p_z.W.S.T, (.slice none 0 0), (.slice none 0 0), vp_z_3], rdV Kd.i64 (.slice none 0 0) ([] : List Int), rdV K_api_Deviation (.slice none 0 0) ([] : List T_api_Deviation), ownV (Kd.sl Kd.u64) 30 w3 r3, ownV (Kd.sl Kd.u64) 30 w4 r4, ownV (Kd.sl Kd.u64) 30 g1 l1, ownV Kd.u64 22 g l4, exF] ++ F) (fun _ => True) ?_ ?_
     ·
      refine wh_block ?_
      refine h_rs (fun (k2 : Nat) (st : (List Nat)) (g : Value) => [(2, (.pointer (some ⟨b1, 0, none⟩))), (5, (.pointer (some ⟨b2, 0, none⟩))), (6, w3), (7, w4), (8, g1), (9, .int .i64 ((k1 : Nat) : Int)), (10, g), (11, .int .i64 ((k2 : Nat) : Int))]) (fun (k2 : Nat) (st : (List Nat)) (g : Value) => [blkP (.pointer (some ⟨b1, 0, none⟩)) 56 [.int .u64 p_z.W.S.P, .int .i64 p_z.W.S.N, .int .i64 p_z.W.S.T, vp_z_1, vp_z_2, vp_z_3, vp_z_4, vp_z_5], rdV Kd.i64 vp_z_1 p_z.W.Corrupt, rdV K_api_Deviation vp_z_2 p_z.W.Deviations, rdV (Kd.sl Kd.u64) vp_z_3 p_z.W.Tapes, rdV (Kd.sl Kd.u64) vp_z_4 p_z.F, rdV Kd.u64 vp_z_5 p_z.Other, blkP (.pointer (some ⟨b2, 0, none⟩)) 29 [.int .u64 p_z.W.S.P, .int .i64 p_z.W.S.N, .int .i64 p_z.W.S.T, (.slice none 0 0), (.slice none 0 0), vp_z_3], rdV Kd.i64 (.slice none 0 0) ([] : List Int), rdV K_api_Deviation (.slice none 0 0) ([] : List T_api_Deviation), ownV (Kd.sl Kd.u64) 30 w3 r3, ownV (Kd.sl Kd.u64) 30 w4 r4, ownV (Kd.sl Kd.u64) 30 g1 l1, ownV Kd.u64 22 g st, exF] ++ F) (.slice none 0 0) el2 (Nat.zero_le _) aK (tH [(1, false), (1, true), (2, true), (3, true), (4, true), (5, true), (6, false), (6, true), (7, true), (8, false), (8, false), (8, false), (0, false), (7, true)] 8) ?_ ?_
      ·
       rintro g6 j
       refine wh_seq ?_
       refine wh_seq ?_
       refine wh_region ?_
       refine w_p Tb_ok 2 kr ?_
       refine w_ldB 0 6 rfl kr ti_27 rfl rfl ?_
       refine w_len (rd_hd 4 rfl) kr ts_27 ?_
       refine w_p Tb_ok 1 kr ?_
       refine wi_end kr ?_
       refine qh_then ?_
       refine h_cf (b := (decide ((((p_z.F.length) : Nat) : Int) < ((p_z.F.length : Nat) : Int)))) rgF kr ?_
       refine wh_exit ?_
       refine qh_then_exit ?_
       refine q_rzX ?_
       refine qh_block_exit ?_
       exact q_join g6 trivial aK (tH [(0, false), (0, true), (1, true), (2, true), (3, true), (4, true), (5, false), (5, true), (6, true), (7, false), (7, false), (7, false), (7, false), (7, true)] 8)
      ·
       rintro rem k2 l3 g4 o2 hk2 h12 hn2 j
       have h12 : privitylaw20_ReconstructLinear_L1 p_z r3 r4 k1 k2 l3 = some o2 := h12
       unfold privitylaw20_ReconstructLinear_L1 at h12
       refine wh_seq ?_
       refine wh_seq ?_
       refine wh_region ?_
       refine w_p Tb_ok 2 kr ?_
       refine w_ldB 0 6 rfl kr ti_27 rfl rfl ?_
       refine w_len (rd_hd 4 rfl) kr ts_27 ?_
       refine w_p Tb_ok 1 kr ?_
       refine wi_end kr ?_
       refine qh_then ?_
       refine h_ct (b := (decide (((k2 : Nat) : Int) < ((p_z.F.length : Nat) : Int)))) (rgT hk2) kr ?_
       refine wh_skip ?_
       refine qh_then ?_
       refine wh_seq ?_
       refine wh_block ?_
       obtain ⟨x4, ex4, h13⟩ := bnd h12
       obtain ⟨x5, ex5, h14⟩ := bnd h13
       obtain ⟨x6, ex6, h15⟩ := bnd h14
       obtain ⟨x7, ex7, h16⟩ := bnd h15
       obtain ⟨x8, ex8, h17⟩ := bnd h16
       obtain ⟨x9, ex9, h18⟩ := bnd h17
       obtain ⟨l5, el5, h19⟩ := bnd h18
       refine h_flow [0, 0, 0, 6, 14, 0, 62, 126, 0, 0, 768, 1792, 0, 7936, 16128, 32766, 0, 65536, 196608, 524286, 1048574, 2097151, 4194303] ⟨14, [0, 0, 0, 0, 1, 0, 0, 0, 0, 0, 0, 1, 0, 0, 0, 0, 0, 0, 0, 0, 1, 1, 0], [(21, [(0, 12)])], [(3, [(0, 9)]), (4, [(0, 9)]), (10, [(0, 10)]), (11, [(0, 10)]), (18, [(0, 6)]), (21, [(21, 0)])], [(6, [(5, 0)]), (7, [(5, 0)]), (13, [(12, 0)]), (14, [(12, 0)])]⟩ (fun γ => [g4, w3, .int .i64 ((k1 : Nat) : Int), .pointer (some (elV w3 (k1 * (Kd.sl Kd.u64).size))), (γ 4 0), .int .i64 ((k2 : Nat) : Int), .pointer (some (elV (γ 4 0) (k2 * Kd.u64.size))), .int .u64 x5, w4, .int .i64 ((k1 : Nat) : Int), .pointer (some (elV w4 (k1 * (Kd.sl Kd.u64).size))), (γ 11 0), .int .i64 ((k2 : Nat) : Int), .pointer (some (elV (γ 11 0) (k2 * Kd.u64.size))), .int .u64 x7, .int .u64 x8, .pointer (some ⟨b2, 0, none⟩), .pointer (some ⟨b2, 0, none⟩), .int .u64 p_z.W.S.P, .int .u64 x9, (γ 20 0), (γ 21 0), (γ 21 0)]) (fun i γ => match i with | 4 => [rdV Kd.u64 (γ 4 0) x4] | 11 => [rdV Kd.u64 (γ 11 0) x6] | 20 => [ownV Kd.u64 22 (γ 20 0) ([x9] : List Nat)] | 21 => [ownV Kd.u64 22 (γ 21 0) l5] | _ => []) (fun γ => [blkP (.pointer (some ⟨b1, 0, none⟩)) 56 [.int .u64 p_z.W.S.P, .int .i64 p_z.W.S.N, .int .i64 p_z.W.S.T, vp_z_1, vp_z_2, vp_z_3, vp_z_4, vp_z_5], rdV Kd.i64 vp_z_1 p_z.W.Corrupt, rdV K_api_Deviation vp_z_2 p_z.W.Deviations, rdV (Kd.sl Kd.u64) vp_z_3 p_z.W.Tapes, rdV (Kd.sl Kd.u64) vp_z_4 p_z.F, rdV Kd.u64 vp_z_5 p_z.Other, blkP (.pointer (some ⟨b2, 0, none⟩)) 29 [.int .u64 p_z.W.S.P, .int .i64 p_z.W.S.N, .int .i64 p_z.W.S.T, (.slice none 0 0), (.slice none 0 0), vp_z_3], rdV Kd.i64 (.slice none 0 0) ([] : List Int), rdV K_api_Deviation (.slice none 0 0) ([] : List T_api_Deviation), ownV (Kd.sl Kd.u64) 30 w3 r3, ownV (Kd.sl Kd.u64) 30 w4 r4, ownV (Kd.sl Kd.u64) 30 g1 l1, exF, rdV Kd.u64 (γ 4 0) x4, rdV Kd.u64 (γ 11 0) x6, ownV Kd.u64 22 (γ 20 0) ([x9] : List Nat), ownV Kd.u64 22 (γ 21 0) l5] ++ F) [0, 1, 2, 5, 8, 9, 12, 16, 17, 22] tryd_mix Tb_ok kr kr (fun _ => by kernel_rfl) (fun _ => by kernel_rfl) (fun _ => by kernel_rfl) (fun _ => by kernel_rfl) (fun _ => by kernel_rfl) (fun _ => by kernel_rfl) (fun _ => by kernel_rfl) ?_ ?_
       ·
        refine ⟨?_, ?_, ?_, ?_, ?_, ?_, ?_, ?_, ?_, ?_, ?_, ?_, ?_, trivial⟩
        ·
         intro γ F
         refine WI.reH (H' := [ownV (Kd.sl Kd.u64) 30 w3 r3] ++ F) kr ?_
         refine w_ix (k := .i64) (own_hd 0 rfl) (nbd ex4) rfl kr ts_27 ti_30 ?_
         exact wE (gl []) [(0, false)] 0
        ·
         intro γ F
         refine WI.reH (H' := [ownV (Kd.sl Kd.u64) 30 w3 r3] ++ F) kr ?_
         refine w_ldO 0 0 rfl ex4 kr ti_30 rfl rfl ?_
         rintro v1
         exact wE (gl [v1]) [(0, true), (1, false)] 1
        ·
         intro γ F
         refine WI.reH (H' := [rdV Kd.u64 (γ 4 0) x4] ++ F) kr ?_
         refine w_ix (k := .i64) (rd_hd 0 rfl) (nbd ex5) rfl kr ts_30 ti_22 ?_
         exact wE (gl []) [] 1
        ·
         intro γ F
         refine WI.reH (H' := [rdV Kd.u64 (γ 4 0) x4] ++ F) kr ?_
         refine w_ldR 0 0 rfl ex5 kr ti_22 rfl rfl ?_
         rintro _
         exact wE (gl []) [] 1
        ·
         intro γ F
         refine WI.reH (H' := [ownV (Kd.sl Kd.u64) 30 w4 r4] ++ F) kr ?_
         refine w_ix (k := .i64) (own_hd 0 rfl) (nbd ex6) rfl kr ts_27 ti_30 ?_
         exact wE (gl []) [(0, false)] 0
        ·
         intro γ F
         refine WI.reH (H' := [ownV (Kd.sl Kd.u64) 30 w4 r4] ++ F) kr ?_
         refine w_ldO 0 0 rfl ex6 kr ti_30 rfl rfl ?_
         rintro v2
         exact wE (gl [v2]) [(0, true), (1, false)] 1
        ·
         intro γ F
         refine WI.reH (H' := [rdV Kd.u64 (γ 11 0) x6] ++ F) kr ?_
         refine w_ix (k := .i64) (rd_hd 0 rfl) (nbd ex7) rfl kr ts_30 ti_22 ?_
         exact wE (gl []) [] 1
        ·
         intro γ F
         refine WI.reH (H' := [rdV Kd.u64 (γ 11 0) x6] ++ F) kr ?_
         refine w_ldR 0 0 rfl ex7 kr ti_22 rfl rfl ?_
         rintro _
         exact wE (gl []) [] 1
        ·
         intro γ F
         refine WI.reH (H' := [] ++ F) kr ?_
         refine w_bi (eaddU ex8) kr ?_
         exact wE (gl []) [] 0
        ·
         intro γ F
         refine WI.reH (H' := [blkP (.pointer (some ⟨b2, 0, none⟩)) 29 [.int .u64 p_z.W.S.P, .int .i64 p_z.W.S.N, .int .i64 p_z.W.S.T, (.slice none 0 0), (.slice none 0 0), vp_z_3]] ++ F) kr ?_
         refine w_ldB 0 0 rfl kr ti_22 rfl rfl ?_
         exact wE (gl []) [(0, false)] 0
        ·
         intro γ F
         refine WI.reH (H' := [] ++ F) kr ?_
         refine w_bi (zremU ex9) kr ?_
         exact wE (gl []) [] 0
        ·
         intro γ F
         refine WI.reH (H' := [] ++ F) kr ?_
         refine w_lt (kd := Kd.u64) (t := 30) (len := 1) (ps0 := [(0, .int .u64 x9)]) (ps := [(0, .int .u64 x9)]) ([x9] : List Nat) _ (rowC (x := x9) (g := ()) (it0 rfl) row0) (scI sc0) kr ts_30 ti_22 kr rfl rfl (fun v3 => ?_)
         exact wE (gl [v3]) [(0, false)] 0
        ·
         intro γ F
         refine WI.reH (H' := [ownV Kd.u64 22 g4 l3, ownV Kd.u64 22 (γ 20 0) ([x9] : List Nat)] ++ F) kr ?_
         refine w_app 0 rfl (own_src 1 rfl) el5 kr ts_30 ti_22 rfl (fun v4 => ?_)
         exact wE (gl [v4]) [(0, false), (0, false)] 0
       ·
        intro γ1
        refine qh_block_normal ?_
        refine qh_then ?_
        refine wh_region ?_
        refine w_p Tb_ok 1 kr ?_
        refine w_bi (zinc hk2 hN2) kr ?_
        refine w_p Tb_ok 1 kr ?_
        refine wi_end kr ?_
        have h19 := Option.some.inj h19; subst h19
        exact q_rs (γ1 21 0) hn2 aK (tH [(0, false), (0, true), (1, true), (2, true), (3, true), (4, true), (5, false), (5, true), (6, true), (7, false), (7, false), (7, false), (11, false), (7, true)] 11)
     ·
      rintro g5 - j
      refine qh_then ?_
      refine wh_region ?_
      refine w_p Tb_ok 2 kr ?_
      refine WI.ent (frzAt 12 rfl) ?_
      refine w_lt (kd := (Kd.sl Kd.u64)) (t := 27) (len := 1) (ps0 := [(0, g5)]) (ps := [(0, .agg #[g5])]) ([l4] : List (List Nat)) _ (rowC (x := l4) (g := g5) (itS 0 rfl) row0) (scS (rd_hd 0 rfl) sc0) kr ts_27 ti_30 kr rfl rfl (fun v5 => ?_)
      obtain ⟨l6, el6, h20⟩ := bnd h11
      refine w_app 13 rfl (own_src 0 rfl) el6 kr ts_27 ti_30 rfl (fun v6 => ?_)
      refine w_p Tb_ok 1 kr ?_
      refine wi_end kr ?_
      refine qh_block_normal ?_
      refine qh_then ?_
      refine wh_region ?_
      refine w_p Tb_ok 1 kr ?_
      refine w_bi (zinc hk1 hN1) kr ?_
      refine w_p Tb_ok 1 kr ?_
      refine wi_end kr ?_
      have h20 := Option.some.inj h20; subst h20
      exact q_rs v6 hn1 aK (tH [(3, false), (3, true), (4, true), (5, true), (6, true), (7, true), (8, false), (8, true), (9, true), (10, false), (10, false), (0, false), (9, true)] 10)
   ·
    rintro g2 - j
    refine qh_then ?_
    refine wh_seq ?_
    refine wh_region ?_
    refine w_ldB 6 0 rfl kr ti_29 rfl rfl ?_
    obtain ⟨r7, er7, h21⟩ := bnd h9
    rcases r7 with r8 | r9
    ·
     have h22 := sumL h21
     refine w_fn [(7, true), (8, true), (3, true), (12, true)] (c_privitylaw20_nets er7) rfl fok_37 kr ?_
     rintro _ _ ⟨hv, rfl⟩; have hv := hv.symm; subst hv
     refine w_p Tb_ok 7 kr ?_
     refine wi_end kr ?_
     refine qh_then ?_
     refine wh_seq ?_
     refine wh_seq ?_
     refine wh_region ?_
     refine w_p Tb_ok 2 kr ?_
     refine wi_end kr ?_
     refine qh_then ?_
     refine h_ct (b := true) rfl kr ?_
     refine wh_seq ?_
     refine wh_region ?_
     refine w_p Tb_ok 1 kr ?_
     refine wi_end kr ?_
     refine qh_then ?_
     refine wh_ret ?_
     refine qh_then_ret ?_
     have h22 := Option.some.inj h22; subst h22
     exact q_end (l := [.bool false]) [] 13 ⟨rfl, rfl⟩ (.inl rfl) kr kr kr
    ·
     have h23 := sumR h21
     rcases r9 with r10 | r11
     ·
      have h24 := sumL h23
      refine w_fn [(7, true), (8, true), (3, true), (12, true)] (c_privitylaw20_nets er7) rfl fok_37 kr ?_
      rintro _ _ ⟨w9, w9__0_1, w9__0_2, w9__0_3, w9__2, w9__3, hv, rfl⟩; have hv := hv.symm; subst hv
      refine w_opP 0 rfl (fun b3 hb => ?_)
      subst hb
      refine w_p Tb_ok 7 kr ?_
      refine wi_end kr ?_
      refine qh_then ?_
      refine wh_seq ?_
      refine wh_seq ?_
      refine wh_region ?_
      refine w_p Tb_ok 2 kr ?_
      refine wi_end kr ?_
      refine qh_then ?_
      refine h_ct (b := true) rfl kr ?_
      refine wh_seq ?_
      refine wh_region ?_
      refine w_p Tb_ok 1 kr ?_
      refine wi_end kr ?_
      refine qh_then ?_
      refine wh_ret ?_
      refine qh_then_ret ?_
      have h24 := Option.some.inj h24; subst h24
      exact q_end (l := [.bool false]) [] 19 ⟨rfl, rfl⟩ (.inl rfl) kr kr kr
     ·
      have h25 := sumR h23
      rcases r11 with r12 | r13
      ·
       have h26 := sumL h25
       refine w_fn [(7, true), (8, true), (3, true), (12, true)] (c_privitylaw20_nets er7) rfl fok_37 kr ?_
       rintro _ _ ⟨w11, w11__0_1, w11__0_2, w11__0_3, w11__2, w11__3, hv, rfl⟩; have hv := hv.symm; subst hv
       refine w_opP 0 rfl (fun b4 hb => ?_)
       subst hb
       refine w_p Tb_ok 7 kr ?_
       refine wi_end kr ?_
       refine qh_then ?_
       refine wh_seq ?_
       refine wh_seq ?_
       refine wh_region ?_
       refine w_p Tb_ok 2 kr ?_
       refine wi_end kr ?_
       refine qh_then ?_
       refine h_ct (b := true) rfl kr ?_
       refine wh_seq ?_
       refine wh_region ?_
       refine w_p Tb_ok 1 kr ?_
       refine wi_end kr ?_
       refine qh_then ?_
       refine wh_ret ?_
       refine qh_then_ret ?_
       have h26 := Option.some.inj h26; subst h26
       exact q_end (l := [.bool false]) [] 19 ⟨rfl, rfl⟩ (.inl rfl) kr kr kr
      ·
       have h27 := sumR h25
       refine w_fn [(7, true), (8, true), (3, true), (12, true)] (c_privitylaw20_nets er7) rfl fok_37 kr ?_
       rintro _ _ ⟨w14, w14__0_1, w14__0_2, w14__0_3, w14__2, w14__3, w15, w15__0_1, w15__0_2, w15__0_3, w15__2, w15__3, hv, rfl⟩; have hv := hv.symm; subst hv
       refine w_opP 0 rfl (fun b5 hb => ?_)
       subst hb
       refine w_opP 6 rfl (fun b6 hb => ?_)
       subst hb
       refine w_p Tb_ok 7 kr ?_
       refine wi_end kr ?_
       refine qh_then ?_
       refine wh_seq ?_
       refine wh_seq ?_
       refine wh_region ?_
       refine w_p Tb_ok 2 kr ?_
       refine wi_end kr ?_
       refine qh_then ?_
       refine h_cf (b := false) rfl kr ?_
       refine wh_skip ?_
       refine qh_then ?_
       refine wh_seq ?_
       refine wh_region ?_
       refine w_p Tb_ok 2 kr ?_
       refine WI.ent (frzAt 5 rfl) ?_
       refine WI.ent (frzAt 21 rfl) ?_
       obtain ⟨r14, er14, h28⟩ := bnd h27
       refine w_fn [(2, false), (2, true), (3, true), (4, true), (5, false), (1, true), (0, true)] (c_reconstruct_Values er14) rfl fok_38 kr ?_
       rintro _ _ ⟨w17, w18, w20, hv, rfl⟩; have hv := hv.symm; subst hv
       refine w_p Tb_ok 5 kr ?_
       refine wi_end kr ?_
       refine qh_then ?_
       refine wh_seq ?_
       refine wh_region ?_
       refine w_p Tb_ok 2 kr ?_
       refine WI.ent (frzAt 24 rfl) ?_
       obtain ⟨r15, er15, h29⟩ := bnd h28
       refine w_fn [(3, false), (6, true), (7, true), (8, true), (3, false), (4, true), (0, true)] (c_reconstruct_Values er15) rfl fok_38 kr ?_
       rintro _ _ ⟨w21, w22, w24, hv, rfl⟩; have hv := hv.symm; subst hv
       refine w_p Tb_ok 5 kr ?_
       refine wi_end kr ?_
       refine qh_then ?_
       refine wh_seq ?_
       refine wh_region ?_
       refine w_p Tb_ok 2 kr ?_
       refine WI.ent (frzAt 27 rfl) ?_
       obtain ⟨r16, er16, h30⟩ := bnd h29
       refine w_fn [(3, false), (9, true), (10, true), (11, true), (3, false), (7, true), (0, true)] (c_reconstruct_Values er16) rfl fok_38 kr ?_
       rintro _ _ ⟨w25, w26, w28, hv, rfl⟩; have hv := hv.symm; subst hv
       refine w_p Tb_ok 5 kr ?_
       refine wi_end kr ?_
       refine qh_then ?_
       refine wh_seq ?_
       refine wh_seq ?_
       obtain ⟨x10, ej2, h31⟩ := bnd h30
       refine h_join (X := Unit) (fun g => [(2, (.pointer (some ⟨b1, 0, none⟩))), (5, (.pointer (some ⟨b2, 0, none⟩))), (15, w17), (16, w18), (17, w21), (18, w22), (19, w25), (20, w26), (159, .bool x10)]) (fun g => [blkP (.pointer (some ⟨b1, 0, none⟩)) 56 [.int .u64 p_z.W.S.P, .int .i64 p_z.W.S.N, .int .i64 p_z.W.S.T, vp_z_1, vp_z_2, vp_z_3, vp_z_4, vp_z_5], rdV Kd.i64 vp_z_1 p_z.W.Corrupt, rdV K_api_Deviation vp_z_2 p_z.W.Deviations, rdV (Kd.sl Kd.u64) vp_z_3 p_z.W.Tapes, rdV (Kd.sl Kd.u64) vp_z_4 p_z.F, rdV Kd.u64 vp_z_5 p_z.Other, blkP (.pointer (some ⟨b2, 0, none⟩)) 29 [.int .u64 p_z.W.S.P, .int .i64 p_z.W.S.N, .int .i64 p_z.W.S.T, (.slice none 0 0), (.slice none 0 0), vp_z_3], rdV Kd.i64 (.slice none 0 0) ([] : List Int), rdV K_api_Deviation (.slice none 0 0) ([] : List T_api_Deviation), ownV (Kd.sl Kd.u64) 30 w17 r14.1, ownV (Kd.sl Kd.i64) 25 w18 r14.2.1, ownV (Kd.sl Kd.u64) 30 w21 r15.1, ownV (Kd.sl Kd.i64) 25 w22 r15.2.1, ownV (Kd.sl Kd.u64) 30 w25 r16.1, ownV (Kd.sl Kd.i64) 25 w26 r16.2.1, exF] ++ F) (fun _ => True) ?_ ?_
       ·
        refine wh_region ?_
        refine w_p Tb_ok 1 kr ?_
        refine w_len (own_hd 8 rfl) kr ts_27 ?_
        refine w_p Tb_ok 2 kr ?_
        refine w_ldB 27 1 rfl kr ti_3 rfl rfl ?_
        refine w_p Tb_ok 2 kr ?_
        rcases bcase ej2 with ⟨t3, h32⟩ | ⟨t3, h32⟩
        ·
         refine w_kb (t := 120) t3 kr ?_
         refine w_p Tb_ok 39 kr ?_
         refine wi_end kr ?_
         cases h32
         exact q_join () trivial aK (tH [(21, false), (21, true), (22, true), (23, true), (24, true), (25, true), (26, false), (26, true), (27, true), (8, false), (8, false), (5, false), (5, false), (0, false), (0, false), (22, true)] 23)
        ·
         refine w_kb (t := 120) t3 kr ?_
         refine w_p Tb_ok 1 kr ?_
         refine w_len (own_hd 5 rfl) kr ts_27 ?_
         refine w_p Tb_ok 2 kr ?_
         refine w_ldB 27 1 rfl kr ti_3 rfl rfl ?_
         refine w_p Tb_ok 3 kr ?_
         rcases bcase h32 with ⟨t4, h33⟩ | ⟨t4, h33⟩
         ·
          refine w_kb (t := 128) t4 kr ?_
          refine w_p Tb_ok 31 kr ?_
          refine wi_end kr ?_
          cases h33
          exact q_join () trivial aK (tH [(21, false), (21, true), (22, true), (23, true), (24, true), (25, true), (26, false), (26, true), (27, true), (8, false), (8, false), (5, false), (5, false), (0, false), (0, false), (22, true)] 23)
         ·
          refine w_kb (t := 128) t4 kr ?_
          refine w_p Tb_ok 1 kr ?_
          refine w_len (own_hd 0 rfl) kr ts_27 ?_
          refine w_p Tb_ok 2 kr ?_
          refine w_ldB 27 1 rfl kr ti_3 rfl rfl ?_
          refine w_p Tb_ok 3 kr ?_
          rcases bcase h33 with ⟨t5, h34⟩ | ⟨t5, h34⟩
          ·
           refine w_kb (t := 136) t5 kr ?_
           refine w_p Tb_ok 23 kr ?_
           refine wi_end kr ?_
           cases h34
           exact q_join () trivial aK (tH [(21, false), (21, true), (22, true), (23, true), (24, true), (25, true), (26, false), (26, true), (27, true), (8, false), (8, false), (5, false), (5, false), (0, false), (0, false), (22, true)] 23)
          ·
           refine w_kb (t := 136) t5 kr ?_
           refine w_p Tb_ok 1 kr ?_
           refine w_len (own_hd 9 rfl) kr ts_58 ?_
           refine w_p Tb_ok 2 kr ?_
           refine w_ldB 27 1 rfl kr ti_3 rfl rfl ?_
           refine w_p Tb_ok 3 kr ?_
           rcases bcase h34 with ⟨t6, h35⟩ | ⟨t6, h35⟩
           ·
            refine w_kb (t := 144) t6 kr ?_
            refine w_p Tb_ok 15 kr ?_
            refine wi_end kr ?_
            cases h35
            exact q_join () trivial aK (tH [(21, false), (21, true), (22, true), (23, true), (24, true), (25, true), (26, false), (26, true), (27, true), (8, false), (8, false), (5, false), (5, false), (0, false), (0, false), (22, true)] 23)
           ·
            refine w_kb (t := 144) t6 kr ?_
            refine w_p Tb_ok 1 kr ?_
            refine w_len (own_hd 6 rfl) kr ts_58 ?_
            refine w_p Tb_ok 2 kr ?_
            refine w_ldB 27 1 rfl kr ti_3 rfl rfl ?_
            refine w_p Tb_ok 3 kr ?_
            rcases bcase h35 with ⟨t7, h36⟩ | ⟨t7, h36⟩
            ·
             refine w_kb (t := 152) t7 kr ?_
             refine w_p Tb_ok 7 kr ?_
             refine wi_end kr ?_
             cases h36
             exact q_join () trivial aK (tH [(21, false), (21, true), (22, true), (23, true), (24, true), (25, true), (26, false), (26, true), (27, true), (8, false), (8, false), (5, false), (5, false), (0, false), (0, false), (22, true)] 23)
            ·
             refine w_kb (t := 152) t7 kr ?_
             refine w_p Tb_ok 1 kr ?_
             refine w_len (own_hd 1 rfl) kr ts_58 ?_
             refine w_p Tb_ok 2 kr ?_
             refine w_ldB 27 1 rfl kr ti_3 rfl rfl ?_
             refine w_p Tb_ok 2 kr ?_
             refine wi_end kr ?_
             cases h36
             exact q_join () trivial aK (tH [(21, false), (21, true), (22, true), (23, true), (24, true), (25, true), (26, false), (26, true), (27, true), (8, false), (8, false), (5, false), (5, false), (0, false), (0, false), (22, true)] 23)
       ·
        rintro ⟨⟩ - j
        refine qh_then ?_
        rcases bcase h31 with ⟨t8, h37⟩ | ⟨t8, h37⟩
        ·
         refine h_ct (b := x10) t8 kr ?_
         refine wh_seq ?_
         refine wh_region ?_
         refine w_p Tb_ok 1 kr ?_
         refine wi_end kr ?_
         refine qh_then ?_
         refine wh_ret ?_
         refine qh_then_ret ?_
         have h37 := Option.some.inj h37; subst h37
         exact q_end (l := [.bool false]) [] 16 ⟨rfl, rfl⟩ (.inl rfl) kr kr kr
        ·
         refine h_cf (b := x10) t8 kr ?_
         refine wh_skip ?_
         refine qh_then ?_
         refine wh_seq ?_
         refine wh_seq ?_
         refine wh_region ?_
         refine w_p Tb_ok 1 kr ?_
         refine wi_end kr ?_
         refine qh_then ?_
         have hN3 := ckN_some eu1
         obtain ⟨r17, el3, h38⟩ := bnd h37
         refine h_join (X := Unit × Unit) (fun g => []) (fun g => [exF] ++ F) (fun g => r17 = .go g.2) ?_ ?_
         ·
          refine wh_block ?_
          refine h_rg (fun (k3 : Nat) (st : Unit) (g : Unit) => [(2, (.pointer (some ⟨b1, 0, none⟩))), (5, (.pointer (some ⟨b2, 0, none⟩))), (15, w17), (16, w18), (17, w21), (18, w22), (19, w25), (20, w26), (21, .int .i64 ((k3 : Nat) : Int))]) (fun (k3 : Nat) (st : Unit) (g : Unit) => [blkP (.pointer (some ⟨b1, 0, none⟩)) 56 [.int .u64 p_z.W.S.P, .int .i64 p_z.W.S.N, .int .i64 p_z.W.S.T, vp_z_1, vp_z_2, vp_z_3, vp_z_4, vp_z_5], rdV Kd.i64 vp_z_1 p_z.W.Corrupt, rdV K_api_Deviation vp_z_2 p_z.W.Deviations, rdV (Kd.sl Kd.u64) vp_z_3 p_z.W.Tapes, rdV (Kd.sl Kd.u64) vp_z_4 p_z.F, rdV Kd.u64 vp_z_5 p_z.Other, blkP (.pointer (some ⟨b2, 0, none⟩)) 29 [.int .u64 p_z.W.S.P, .int .i64 p_z.W.S.N, .int .i64 p_z.W.S.T, (.slice none 0 0), (.slice none 0 0), vp_z_3], rdV Kd.i64 (.slice none 0 0) ([] : List Int), rdV K_api_Deviation (.slice none 0 0) ([] : List T_api_Deviation), ownV (Kd.sl Kd.u64) 30 w17 r14.1, ownV (Kd.sl Kd.i64) 25 w18 r14.2.1, ownV (Kd.sl Kd.u64) 30 w21 r15.1, ownV (Kd.sl Kd.i64) 25 w22 r15.2.1, ownV (Kd.sl Kd.u64) 30 w25 r16.1, ownV (Kd.sl Kd.i64) 25 w26 r16.2.1, exF] ++ F) () el3 (Nat.le_max_left ..) aK (tH [(0, false), (0, true), (1, true), (2, true), (3, true), (4, true), (5, false), (5, true), (6, true), (7, false), (7, false), (7, false), (7, false), (7, false), (7, false), (7, true)] 8) ?_ ?_
          ·
           rintro ⟨⟩ ⟨⟩ hr3 j
           refine wh_seq ?_
           refine wh_seq ?_
           refine wh_region ?_
           refine w_p Tb_ok 3 kr ?_
           refine w_ldB 6 1 rfl kr ti_3 rfl rfl ?_
           refine w_p Tb_ok 1 kr ?_
           refine wi_end kr ?_
           refine qh_then ?_
           refine h_cf (b := (decide ((((max 0 (p_z.W.S.N).toNat) : Nat) : Int) < p_z.W.S.N))) rgLF kr ?_
           refine wh_exit ?_
           refine qh_then_exit ?_
           refine q_rzX ?_
           refine qh_block_exit ?_
           exact q_join ((), ()) hr3 aK (tH [(15, true)] 16)
          ·
           rintro rem k3 ⟨⟩ ⟨⟩ o3 hk3 h39 hn3 j
           have h39 : privitylaw20_ReconstructLinear_L2 p_z r14 r15 r16 k3 = some o3 := h39
           unfold privitylaw20_ReconstructLinear_L2 at h39
           refine wh_seq ?_
           refine wh_seq ?_
           refine wh_region ?_
           refine w_p Tb_ok 3 kr ?_
           refine w_ldB 6 1 rfl kr ti_3 rfl rfl ?_
           refine w_p Tb_ok 1 kr ?_
           refine wi_end kr ?_
           refine qh_then ?_
           refine h_ct (b := (decide (((k3 : Nat) : Int) < p_z.W.S.N))) (rgLT hk3) kr ?_
           refine wh_skip ?_
           refine qh_then ?_
           refine wh_seq ?_
           refine wh_block ?_
           refine wh_seq ?_
           refine wh_seq ?_
           obtain ⟨x11, ej3, h40⟩ := bnd h39
           refine h_join (X := Unit) (fun g => [(2, (.pointer (some ⟨b1, 0, none⟩))), (5, (.pointer (some ⟨b2, 0, none⟩))), (15, w17), (16, w18), (17, w21), (18, w22), (19, w25), (20, w26), (21, .int .i64 ((k3 : Nat) : Int)), (217, .bool x11)]) (fun g => [blkP (.pointer (some ⟨b1, 0, none⟩)) 56 [.int .u64 p_z.W.S.P, .int .i64 p_z.W.S.N, .int .i64 p_z.W.S.T, vp_z_1, vp_z_2, vp_z_3, vp_z_4, vp_z_5], rdV Kd.i64 vp_z_1 p_z.W.Corrupt, rdV K_api_Deviation vp_z_2 p_z.W.Deviations, rdV (Kd.sl Kd.u64) vp_z_3 p_z.W.Tapes, rdV (Kd.sl Kd.u64) vp_z_4 p_z.F, rdV Kd.u64 vp_z_5 p_z.Other, blkP (.pointer (some ⟨b2, 0, none⟩)) 29 [.int .u64 p_z.W.S.P, .int .i64 p_z.W.S.N, .int .i64 p_z.W.S.T, (.slice none 0 0), (.slice none 0 0), vp_z_3], rdV Kd.i64 (.slice none 0 0) ([] : List Int), rdV K_api_Deviation (.slice none 0 0) ([] : List T_api_Deviation), ownV (Kd.sl Kd.u64) 30 w17 r14.1, ownV (Kd.sl Kd.i64) 25 w18 r14.2.1, ownV (Kd.sl Kd.u64) 30 w21 r15.1, ownV (Kd.sl Kd.i64) 25 w22 r15.2.1, ownV (Kd.sl Kd.u64) 30 w25 r16.1, ownV (Kd.sl Kd.i64) 25 w26 r16.2.1, exF] ++ F) (fun _ => True) ?_ ?_
           ·
            obtain ⟨x12, ex12, h41⟩ := bnd ej3
            rcases bcase h41 with ⟨t9, h42⟩ | ⟨t9, h42⟩
            ·
             refine h_flow [0, 0, 3, 7, 15, 0, 32, 96, 255, 511, 1023, 1023, 4095, 8191, 16383, 1023, 33791, 99327, 262143, 524287, 1048575, 2097151, 2097151, 8388607, 16777215, 33554431, 2097151, 69206015, 203423743, 536870911, 1073741823, 2147483647, 4294967295, 4294967295, 17179869183, 34359738367, 68719476735, 4294967295, 4294967295, 416611827711, 966367641599, 2065879269375, 4398046511103, 4294967295, 4294967295, 26392574033919, 61576946122751, 131945690300415, 281474976710655, 562949953421311, 1125899906842623] ⟨16, [0, 0, 0, 1, 0, 0, 0, 0, 0, 0, 0, 0, 0, 0, 0, 0, 0, 0, 0, 0, 0, 0, 0, 0, 0, 0, 0, 0, 0, 0, 0, 0, 0, 0, 0, 0, 0, 0, 0, 0, 0, 0, 0, 0, 0, 0, 0, 0, 0, 0, 0], [], [(2, [(0, 9)]), (3, [(0, 9)]), (6, [(0, 0)])], [(4, [(4, 0)]), (7, [(0, 4)])]⟩ (fun γ => [w17, .int .i64 ((k3 : Nat) : Int), .pointer (some (elV w17 (k3 * (Kd.sl Kd.u64).size))), (γ 3 0), .int .i64 ((x12.length : Nat) : Int), .pointer (some ⟨b1, 6, none⟩), vp_z_4, .int .i64 ((p_z.F.length : Nat) : Int), .bool (((x12.length : Nat) : Int) != ((p_z.F.length : Nat) : Int)), .bool true, undef, undef, undef, undef, undef, undef, undef, undef, undef, .bool true, .bool true, undef, undef, undef, undef, undef, undef, undef, undef, undef, .bool true, .bool true, undef, undef, undef, undef, undef, undef, undef, undef, undef, undef, undef, undef, undef, undef, undef, undef, undef, undef, .bool true]) (fun i γ => match i with | 3 => [rdV Kd.u64 (γ 3 0) x12] | _ => []) (fun γ => [blkP (.pointer (some ⟨b1, 0, none⟩)) 56 [.int .u64 p_z.W.S.P, .int .i64 p_z.W.S.N, .int .i64 p_z.W.S.T, vp_z_1, vp_z_2, vp_z_3, vp_z_4, vp_z_5], rdV Kd.i64 vp_z_1 p_z.W.Corrupt, rdV K_api_Deviation vp_z_2 p_z.W.Deviations, rdV (Kd.sl Kd.u64) vp_z_3 p_z.W.Tapes, rdV (Kd.sl Kd.u64) vp_z_4 p_z.F, rdV Kd.u64 vp_z_5 p_z.Other, blkP (.pointer (some ⟨b2, 0, none⟩)) 29 [.int .u64 p_z.W.S.P, .int .i64 p_z.W.S.N, .int .i64 p_z.W.S.T, (.slice none 0 0), (.slice none 0 0), vp_z_3], rdV Kd.i64 (.slice none 0 0) ([] : List Int), rdV K_api_Deviation (.slice none 0 0) ([] : List T_api_Deviation), ownV (Kd.sl Kd.u64) 30 w17 r14.1, ownV (Kd.sl Kd.i64) 25 w18 r14.2.1, ownV (Kd.sl Kd.u64) 30 w21 r15.1, ownV (Kd.sl Kd.i64) 25 w22 r15.2.1, ownV (Kd.sl Kd.u64) 30 w25 r16.1, ownV (Kd.sl Kd.i64) 25 w26 r16.2.1, exF, rdV Kd.u64 (γ 3 0) x12] ++ F) [0, 1, 5, 8, 10, 11, 12, 13, 14, 15, 16, 17, 18, 19, 20, 21, 22, 23, 24, 25, 26, 27, 28, 29, 30, 31, 32, 33, 34, 35, 36, 37, 38, 39, 40, 41, 42, 43, 44, 45, 46, 47, 48, 49, 50] tryd_mix Tb_ok kr kr (fun _ => by kernel_rfl) (fun _ => by kernel_rfl) (fun _ => by kernel_rfl) (fun _ => by kernel_rfl) (fun _ => by kernel_rfl) (fun _ => by kernel_rfl) (fun _ => by kernel_rfl) ?_ ?_
             ·
              refine ⟨?_, ?_, ?_, ?_, ?_, ?_, trivial⟩
              ·
               intro γ F
               refine WI.reH (H' := [ownV (Kd.sl Kd.u64) 30 w17 r14.1] ++ F) kr ?_
               refine w_ix (k := .i64) (own_hd 0 rfl) (nbd ex12) rfl kr ts_27 ti_30 ?_
               exact wE (gl []) [(0, false)] 0
              ·
               intro γ F
               refine WI.reH (H' := [ownV (Kd.sl Kd.u64) 30 w17 r14.1] ++ F) kr ?_
               refine w_ldO 0 0 rfl ex12 kr ti_30 rfl rfl ?_
               rintro v7
               exact wE (gl [v7]) [(0, true), (1, false)] 1
              ·
               intro γ F
               refine WI.reH (H' := [rdV Kd.u64 (γ 3 0) x12] ++ F) kr ?_
               refine w_len (rd_hd 0 rfl) kr ts_30 ?_
               exact wE (gl []) [] 1
              ·
               intro γ F
               refine WI.reH (H' := [blkP (.pointer (some ⟨b1, 0, none⟩)) 56 [.int .u64 p_z.W.S.P, .int .i64 p_z.W.S.N, .int .i64 p_z.W.S.T, vp_z_1, vp_z_2, vp_z_3, vp_z_4, vp_z_5]] ++ F) kr ?_
               refine w_ldB 0 6 rfl kr ti_27 rfl rfl ?_
               exact wE (gl []) [(0, false)] 0
              ·
               intro γ F
               refine WI.reH (H' := [rdV (Kd.sl Kd.u64) vp_z_4 p_z.F] ++ F) kr ?_
               refine w_len (rd_hd 0 rfl) kr ts_27 ?_
               exact wE (gl []) [] 1
              ·
               intro γ F
               refine WI.reH (H' := [] ++ F) kr ?_
               refine w_pk Tb_ok (congrArg Value.bool t9) kr ?_
               exact wE (gl []) [] 0
             ·
              intro γ2
              cases h42
              exact q_join () trivial aK (tH [(0, false), (0, true), (1, true), (2, true), (3, true), (4, true), (5, false), (5, true), (6, true), (7, false), (7, false), (7, false), (7, false), (7, false), (7, false), (7, true)] 9)
            ·
             obtain ⟨x13, ex13, h43⟩ := bnd h42
             rcases bcase h43 with ⟨t10, h44⟩ | ⟨t10, h44⟩
             ·
              refine h_flow [0, 0, 3, 7, 15, 0, 32, 96, 255, 511, 1023, 1023, 4095, 8191, 16383, 1023, 33791, 99327, 262143, 524287, 1048575, 2097151, 2097151, 8388607, 16777215, 33554431, 2097151, 69206015, 203423743, 536870911, 1073741823, 2147483647, 4294967295, 4294967295, 17179869183, 34359738367, 68719476735, 4294967295, 4294967295, 416611827711, 966367641599, 2065879269375, 4398046511103, 4294967295, 4294967295, 26392574033919, 61576946122751, 131945690300415, 281474976710655, 562949953421311, 1125899906842623] ⟨16, [0, 0, 0, 1, 0, 0, 0, 0, 0, 0, 0, 0, 0, 1, 0, 0, 0, 0, 0, 0, 0, 0, 0, 0, 0, 0, 0, 0, 0, 0, 0, 0, 0, 0, 0, 0, 0, 0, 0, 0, 0, 0, 0, 0, 0, 0, 0, 0, 0, 0, 0], [], [(2, [(0, 9)]), (3, [(0, 9)]), (6, [(0, 0)]), (12, [(0, 11)]), (13, [(0, 11)]), (16, [(0, 0)])], [(4, [(4, 0)]), (7, [(0, 4)]), (14, [(14, 0)]), (17, [(0, 4)])]⟩ (fun γ => [w17, .int .i64 ((k3 : Nat) : Int), .pointer (some (elV w17 (k3 * (Kd.sl Kd.u64).size))), (γ 3 0), .int .i64 ((x12.length : Nat) : Int), .pointer (some ⟨b1, 6, none⟩), vp_z_4, .int .i64 ((p_z.F.length : Nat) : Int), .bool (((x12.length : Nat) : Int) != ((p_z.F.length : Nat) : Int)), .bool false, w21, .int .i64 ((k3 : Nat) : Int), .pointer (some (elV w21 (k3 * (Kd.sl Kd.u64).size))), (γ 13 0), .int .i64 ((x13.length : Nat) : Int), .pointer (some ⟨b1, 6, none⟩), vp_z_4, .int .i64 ((p_z.F.length : Nat) : Int), .bool (((x13.length : Nat) : Int) != ((p_z.F.length : Nat) : Int)), .bool (((x13.length : Nat) : Int) != ((p_z.F.length : Nat) : Int)), .bool true, undef, undef, undef, undef, undef, undef, undef, undef, undef, .bool true, .bool true, undef, undef, undef, undef, undef, undef, undef, undef, undef, undef, undef, undef, undef, undef, undef, undef, undef, undef, .bool true]) (fun i γ => match i with | 3 => [rdV Kd.u64 (γ 3 0) x12] | 13 => [rdV Kd.u64 (γ 13 0) x13] | _ => []) (fun γ => [blkP (.pointer (some ⟨b1, 0, none⟩)) 56 [.int .u64 p_z.W.S.P, .int .i64 p_z.W.S.N, .int .i64 p_z.W.S.T, vp_z_1, vp_z_2, vp_z_3, vp_z_4, vp_z_5], rdV Kd.i64 vp_z_1 p_z.W.Corrupt, rdV K_api_Deviation vp_z_2 p_z.W.Deviations, rdV (Kd.sl Kd.u64) vp_z_3 p_z.W.Tapes, rdV (Kd.sl Kd.u64) vp_z_4 p_z.F, rdV Kd.u64 vp_z_5 p_z.Other, blkP (.pointer (some ⟨b2, 0, none⟩)) 29 [.int .u64 p_z.W.S.P, .int .i64 p_z.W.S.N, .int .i64 p_z.W.S.T, (.slice none 0 0), (.slice none 0 0), vp_z_3], rdV Kd.i64 (.slice none 0 0) ([] : List Int), rdV K_api_Deviation (.slice none 0 0) ([] : List T_api_Deviation), ownV (Kd.sl Kd.u64) 30 w17 r14.1, ownV (Kd.sl Kd.i64) 25 w18 r14.2.1, ownV (Kd.sl Kd.u64) 30 w21 r15.1, ownV (Kd.sl Kd.i64) 25 w22 r15.2.1, ownV (Kd.sl Kd.u64) 30 w25 r16.1, ownV (Kd.sl Kd.i64) 25 w26 r16.2.1, exF, rdV Kd.u64 (γ 3 0) x12, rdV Kd.u64 (γ 13 0) x13] ++ F) [0, 1, 5, 8, 10, 11, 15, 18, 19, 21, 22, 23, 24, 25, 26, 27, 28, 29, 30, 31, 32, 33, 34, 35, 36, 37, 38, 39, 40, 41, 42, 43, 44, 45, 46, 47, 48, 49, 50] tryd_mix Tb_ok kr kr (fun _ => by kernel_rfl) (fun _ => by kernel_rfl) (fun _ => by kernel_rfl) (fun _ => by kernel_rfl) (fun _ => by kernel_rfl) (fun _ => by kernel_rfl) (fun _ => by kernel_rfl) ?_ ?_
              ·
               refine ⟨?_, ?_, ?_, ?_, ?_, ?_, ?_, ?_, ?_, ?_, ?_, ?_, trivial⟩
               ·
                intro γ F
                refine WI.reH (H' := [ownV (Kd.sl Kd.u64) 30 w17 r14.1] ++ F) kr ?_
                refine w_ix (k := .i64) (own_hd 0 rfl) (nbd ex12) rfl kr ts_27 ti_30 ?_
                exact wE (gl []) [(0, false)] 0
               ·
                intro γ F
                refine WI.reH (H' := [ownV (Kd.sl Kd.u64) 30 w17 r14.1] ++ F) kr ?_
                refine w_ldO 0 0 rfl ex12 kr ti_30 rfl rfl ?_
                rintro v7
                exact wE (gl [v7]) [(0, true), (1, false)] 1
               ·
                intro γ F
                refine WI.reH (H' := [rdV Kd.u64 (γ 3 0) x12] ++ F) kr ?_
                refine w_len (rd_hd 0 rfl) kr ts_30 ?_
                exact wE (gl []) [] 1
               ·
                intro γ F
                refine WI.reH (H' := [blkP (.pointer (some ⟨b1, 0, none⟩)) 56 [.int .u64 p_z.W.S.P, .int .i64 p_z.W.S.N, .int .i64 p_z.W.S.T, vp_z_1, vp_z_2, vp_z_3, vp_z_4, vp_z_5]] ++ F) kr ?_
                refine w_ldB 0 6 rfl kr ti_27 rfl rfl ?_
                exact wE (gl []) [(0, false)] 0
               ·
                intro γ F
                refine WI.reH (H' := [rdV (Kd.sl Kd.u64) vp_z_4 p_z.F] ++ F) kr ?_
                refine w_len (rd_hd 0 rfl) kr ts_27 ?_
                exact wE (gl []) [] 1
               ·
                intro γ F
                refine WI.reH (H' := [] ++ F) kr ?_
                refine w_pk Tb_ok (congrArg Value.bool t9) kr ?_
                exact wE (gl []) [] 0
               ·
                intro γ F
                refine WI.reH (H' := [ownV (Kd.sl Kd.u64) 30 w21 r15.1] ++ F) kr ?_
                refine w_ix (k := .i64) (own_hd 0 rfl) (nbd ex13) rfl kr ts_27 ti_30 ?_
                exact wE (gl []) [(0, false)] 0
               ·
                intro γ F
                refine WI.reH (H' := [ownV (Kd.sl Kd.u64) 30 w21 r15.1] ++ F) kr ?_
                refine w_ldO 0 0 rfl ex13 kr ti_30 rfl rfl ?_
                rintro v8
                exact wE (gl [v8]) [(0, true), (1, false)] 1
               ·
                intro γ F
                refine WI.reH (H' := [rdV Kd.u64 (γ 13 0) x13] ++ F) kr ?_
                refine w_len (rd_hd 0 rfl) kr ts_30 ?_
                exact wE (gl []) [] 1
               ·
                intro γ F
                refine WI.reH (H' := [blkP (.pointer (some ⟨b1, 0, none⟩)) 56 [.int .u64 p_z.W.S.P, .int .i64 p_z.W.S.N, .int .i64 p_z.W.S.T, vp_z_1, vp_z_2, vp_z_3, vp_z_4, vp_z_5]] ++ F) kr ?_
                refine w_ldB 0 6 rfl kr ti_27 rfl rfl ?_
                exact wE (gl []) [(0, false)] 0
               ·
                intro γ F
                refine WI.reH (H' := [rdV (Kd.sl Kd.u64) vp_z_4 p_z.F] ++ F) kr ?_
                refine w_len (rd_hd 0 rfl) kr ts_27 ?_
                exact wE (gl []) [] 1
               ·
                intro γ F
                refine WI.reH (H' := [] ++ F) kr ?_
                refine w_pk Tb_ok (congrArg Value.bool t10) kr ?_
                exact wE (gl []) [] 0
              ·
               intro γ3
               cases h44
               exact q_join () trivial aK (tH [(0, false), (0, true), (1, true), (2, true), (3, true), (4, true), (5, false), (5, true), (6, true), (7, false), (7, false), (7, false), (7, false), (7, false), (7, false), (7, true)] 10)
             ·
              obtain ⟨x14, ex14, h45⟩ := bnd h44
              rcases bcase h45 with ⟨t11, h46⟩ | ⟨t11, h46⟩
              ·
               refine h_flow [0, 0, 3, 7, 15, 0, 32, 96, 255, 511, 1023, 1023, 4095, 8191, 16383, 1023, 33791, 99327, 262143, 524287, 1048575, 2097151, 2097151, 8388607, 16777215, 33554431, 2097151, 69206015, 203423743, 536870911, 1073741823, 2147483647, 4294967295, 4294967295, 17179869183, 34359738367, 68719476735, 4294967295, 4294967295, 416611827711, 966367641599, 2065879269375, 4398046511103, 4294967295, 4294967295, 26392574033919, 61576946122751, 131945690300415, 281474976710655, 562949953421311, 1125899906842623] ⟨16, [0, 0, 0, 1, 0, 0, 0, 0, 0, 0, 0, 0, 0, 1, 0, 0, 0, 0, 0, 0, 0, 0, 0, 0, 1, 0, 0, 0, 0, 0, 0, 0, 0, 0, 0, 0, 0, 0, 0, 0, 0, 0, 0, 0, 0, 0, 0, 0, 0, 0, 0], [], [(2, [(0, 9)]), (3, [(0, 9)]), (6, [(0, 0)]), (12, [(0, 11)]), (13, [(0, 11)]), (16, [(0, 0)]), (23, [(0, 13)]), (24, [(0, 13)]), (27, [(0, 0)])], [(4, [(4, 0)]), (7, [(0, 4)]), (14, [(14, 0)]), (17, [(0, 4)]), (25, [(25, 0)]), (28, [(0, 4)])]⟩ (fun γ => [w17, .int .i64 ((k3 : Nat) : Int), .pointer (some (elV w17 (k3 * (Kd.sl Kd.u64).size))), (γ 3 0), .int .i64 ((x12.length : Nat) : Int), .pointer (some ⟨b1, 6, none⟩), vp_z_4, .int .i64 ((p_z.F.length : Nat) : Int), .bool (((x12.length : Nat) : Int) != ((p_z.F.length : Nat) : Int)), .bool false, w21, .int .i64 ((k3 : Nat) : Int), .pointer (some (elV w21 (k3 * (Kd.sl Kd.u64).size))), (γ 13 0), .int .i64 ((x13.length : Nat) : Int), .pointer (some ⟨b1, 6, none⟩), vp_z_4, .int .i64 ((p_z.F.length : Nat) : Int), .bool (((x13.length : Nat) : Int) != ((p_z.F.length : Nat) : Int)), .bool (((x13.length : Nat) : Int) != ((p_z.F.length : Nat) : Int)), .bool false, w25, .int .i64 ((k3 : Nat) : Int), .pointer (some (elV w25 (k3 * (Kd.sl Kd.u64).size))), (γ 24 0), .int .i64 ((x14.length : Nat) : Int), .pointer (some ⟨b1, 6, none⟩), vp_z_4, .int .i64 ((p_z.F.length : Nat) : Int), .bool (((x14.length : Nat) : Int) != ((p_z.F.length : Nat) : Int)), .bool (((x14.length : Nat) : Int) != ((p_z.F.length : Nat) : Int)), .bool true, undef, undef, undef, undef, undef, undef, undef, undef, undef, undef, undef, undef, undef, undef, undef, undef, undef, undef, .bool true]) (fun i γ => match i with | 3 => [rdV Kd.u64 (γ 3 0) x12] | 13 => [rdV Kd.u64 (γ 13 0) x13] | 24 => [rdV Kd.u64 (γ 24 0) x14] | _ => []) (fun γ => [blkP (.pointer (some ⟨b1, 0, none⟩)) 56 [.int .u64 p_z.W.S.P, .int .i64 p_z.W.S.N, .int .i64 p_z.W.S.T, vp_z_1, vp_z_2, vp_z_3, vp_z_4, vp_z_5], rdV Kd.i64 vp_z_1 p_z.W.Corrupt, rdV K_api_Deviation vp_z_2 p_z.W.Deviations, rdV (Kd.sl Kd.u64) vp_z_3 p_z.W.Tapes, rdV (Kd.sl Kd.u64) vp_z_4 p_z.F, rdV Kd.u64 vp_z_5 p_z.Other, blkP (.pointer (some ⟨b2, 0, none⟩)) 29 [.int .u64 p_z.W.S.P, .int .i64 p_z.W.S.N, .int .i64 p_z.W.S.T, (.slice none 0 0), (.slice none 0 0), vp_z_3], rdV Kd.i64 (.slice none 0 0) ([] : List Int), rdV K_api_Deviation (.slice none 0 0) ([] : List T_api_Deviation), ownV (Kd.sl Kd.u64) 30 w17 r14.1, ownV (Kd.sl Kd.i64) 25 w18 r14.2.1, ownV (Kd.sl Kd.u64) 30 w21 r15.1, ownV (Kd.sl Kd.i64) 25 w22 r15.2.1, ownV (Kd.sl Kd.u64) 30 w25 r16.1, ownV (Kd.sl Kd.i64) 25 w26 r16.2.1, exF, rdV Kd.u64 (γ 3 0) x12, rdV Kd.u64 (γ 13 0) x13, rdV Kd.u64 (γ 24 0) x14] ++ F) [0, 1, 5, 8, 10, 11, 15, 18, 19, 21, 22, 26, 29, 30, 32, 33, 34, 35, 36, 37, 38, 39, 40, 41, 42, 43, 44, 45, 46, 47, 48, 49, 50] tryd_mix Tb_ok kr kr (fun _ => by kernel_rfl) (fun _ => by kernel_rfl) (fun _ => by kernel_rfl) (fun _ => by kernel_rfl) (fun _ => by kernel_rfl) (fun _ => by kernel_rfl) (fun _ => by kernel_rfl) ?_ ?_
               ·
                refine ⟨?_, ?_, ?_, ?_, ?_, ?_, ?_, ?_, ?_, ?_, ?_, ?_, ?_, ?_, ?_, ?_, ?_, ?_, trivial⟩
                ·
                 intro γ F
                 refine WI.reH (H' := [ownV (Kd.sl Kd.u64) 30 w17 r14.1] ++ F) kr ?_
                 refine w_ix (k := .i64) (own_hd 0 rfl) (nbd ex12) rfl kr ts_27 ti_30 ?_
                 exact wE (gl []) [(0, false)] 0
                ·
                 intro γ F
                 refine WI.reH (H' := [ownV (Kd.sl Kd.u64) 30 w17 r14.1] ++ F) kr ?_
                 refine w_ldO 0 0 rfl ex12 kr ti_30 rfl rfl ?_
                 rintro v7
                 exact wE (gl [v7]) [(0, true), (1, false)] 1
                ·
                 intro γ F
                 refine WI.reH (H' := [rdV Kd.u64 (γ 3 0) x12] ++ F) kr ?_
                 refine w_len (rd_hd 0 rfl) kr ts_30 ?_
                 exact wE (gl []) [] 1
                ·
                 intro γ F
                 refine WI.reH (H' := [blkP (.pointer (some ⟨b1, 0, none⟩)) 56 [.int .u64 p_z.W.S.P, .int .i64 p_z.W.S.N, .int .i64 p_z.W.S.T, vp_z_1, vp_z_2, vp_z_3, vp_z_4, vp_z_5]] ++ F) kr ?_
                 refine w_ldB 0 6 rfl kr ti_27 rfl rfl ?_
                 exact wE (gl []) [(0, false)] 0
                ·
                 intro γ F
                 refine WI.reH (H' := [rdV (Kd.sl Kd.u64) vp_z_4 p_z.F] ++ F) kr ?_
                 refine w_len (rd_hd 0 rfl) kr ts_27 ?_
                 exact wE (gl []) [] 1
                ·
                 intro γ F
                 refine WI.reH (H' := [] ++ F) kr ?_
                 refine w_pk Tb_ok (congrArg Value.bool t9) kr ?_
                 exact wE (gl []) [] 0
                ·
                 intro γ F
                 refine WI.reH (H' := [ownV (Kd.sl Kd.u64) 30 w21 r15.1] ++ F) kr ?_
                 refine w_ix (k := .i64) (own_hd 0 rfl) (nbd ex13) rfl kr ts_27 ti_30 ?_
                 exact wE (gl []) [(0, false)] 0
                ·
                 intro γ F
                 refine WI.reH (H' := [ownV (Kd.sl Kd.u64) 30 w21 r15.1] ++ F) kr ?_
                 refine w_ldO 0 0 rfl ex13 kr ti_30 rfl rfl ?_
                 rintro v8
                 exact wE (gl [v8]) [(0, true), (1, false)] 1
                ·
                 intro γ F
                 refine WI.reH (H' := [rdV Kd.u64 (γ 13 0) x13] ++ F) kr ?_
                 refine w_len (rd_hd 0 rfl) kr ts_30 ?_
                 exact wE (gl []) [] 1
                ·
                 intro γ F
                 refine WI.reH (H' := [blkP (.pointer (some ⟨b1, 0, none⟩)) 56 [.int .u64 p_z.W.S.P, .int .i64 p_z.W.S.N, .int .i64 p_z.W.S.T, vp_z_1, vp_z_2, vp_z_3, vp_z_4, vp_z_5]] ++ F) kr ?_
                 refine w_ldB 0 6 rfl kr ti_27 rfl rfl ?_
                 exact wE (gl []) [(0, false)] 0
                ·
                 intro γ F
                 refine WI.reH (H' := [rdV (Kd.sl Kd.u64) vp_z_4 p_z.F] ++ F) kr ?_
                 refine w_len (rd_hd 0 rfl) kr ts_27 ?_
                 exact wE (gl []) [] 1
                ·
                 intro γ F
                 refine WI.reH (H' := [] ++ F) kr ?_
                 refine w_pk Tb_ok (congrArg Value.bool t10) kr ?_
                 exact wE (gl []) [] 0
                ·
                 intro γ F
                 refine WI.reH (H' := [ownV (Kd.sl Kd.u64) 30 w25 r16.1] ++ F) kr ?_
                 refine w_ix (k := .i64) (own_hd 0 rfl) (nbd ex14) rfl kr ts_27 ti_30 ?_
                 exact wE (gl []) [(0, false)] 0
                ·
                 intro γ F
                 refine WI.reH (H' := [ownV (Kd.sl Kd.u64) 30 w25 r16.1] ++ F) kr ?_
                 refine w_ldO 0 0 rfl ex14 kr ti_30 rfl rfl ?_
                 rintro v9
                 exact wE (gl [v9]) [(0, true), (1, false)] 1
                ·
                 intro γ F
                 refine WI.reH (H' := [rdV Kd.u64 (γ 24 0) x14] ++ F) kr ?_
                 refine w_len (rd_hd 0 rfl) kr ts_30 ?_
                 exact wE (gl []) [] 1
                ·
                 intro γ F
                 refine WI.reH (H' := [blkP (.pointer (some ⟨b1, 0, none⟩)) 56 [.int .u64 p_z.W.S.P, .int .i64 p_z.W.S.N, .int .i64 p_z.W.S.T, vp_z_1, vp_z_2, vp_z_3, vp_z_4, vp_z_5]] ++ F) kr ?_
                 refine w_ldB 0 6 rfl kr ti_27 rfl rfl ?_
                 exact wE (gl []) [(0, false)] 0
                ·
                 intro γ F
                 refine WI.reH (H' := [rdV (Kd.sl Kd.u64) vp_z_4 p_z.F] ++ F) kr ?_
                 refine w_len (rd_hd 0 rfl) kr ts_27 ?_
                 exact wE (gl []) [] 1
                ·
                 intro γ F
                 refine WI.reH (H' := [] ++ F) kr ?_
                 refine w_pk Tb_ok (congrArg Value.bool t11) kr ?_
                 exact wE (gl []) [] 0
               ·
                intro γ4
                cases h46
                exact q_join () trivial aK (tH [(0, false), (0, true), (1, true), (2, true), (3, true), (4, true), (5, false), (5, true), (6, true), (7, false), (7, false), (7, false), (7, false), (7, false), (7, false), (7, true)] 11)
              ·
               obtain ⟨x15, ex15, h47⟩ := bnd h46
               obtain ⟨x16, ex16, h48⟩ := bnd h47
               obtain ⟨x17, ex17, h49⟩ := bnd h48
               obtain ⟨x18, ex18, h50⟩ := bnd h49
               obtain ⟨x19, ex19, h51⟩ := bnd h50
               refine h_flow [0, 0, 3, 7, 15, 0, 32, 96, 255, 511, 1023, 1023, 4095, 8191, 16383, 1023, 33791, 99327, 262143, 524287, 1048575, 2097151, 2097151, 8388607, 16777215, 33554431, 2097151, 69206015, 203423743, 536870911, 1073741823, 2147483647, 4294967295, 4294967295, 17179869183, 34359738367, 68719476735, 4294967295, 4294967295, 416611827711, 966367641599, 2065879269375, 4398046511103, 4294967295, 4294967295, 26392574033919, 61576946122751, 131945690300415, 281474976710655, 562949953421311, 1125899906842623] ⟨16, [0, 0, 0, 1, 0, 0, 0, 0, 0, 0, 0, 0, 0, 1, 0, 0, 0, 0, 0, 0, 0, 0, 0, 0, 1, 0, 0, 0, 0, 0, 0, 0, 0, 0, 0, 1, 0, 0, 0, 0, 1, 0, 0, 0, 0, 0, 1, 0, 0, 0, 0], [], [(2, [(0, 9)]), (3, [(0, 9)]), (6, [(0, 0)]), (12, [(0, 11)]), (13, [(0, 11)]), (16, [(0, 0)]), (23, [(0, 13)]), (24, [(0, 13)]), (27, [(0, 0)]), (34, [(0, 10)]), (35, [(0, 10)]), (39, [(0, 12)]), (40, [(0, 12)]), (45, [(0, 14)]), (46, [(0, 14)])], [(4, [(4, 0)]), (7, [(0, 4)]), (14, [(14, 0)]), (17, [(0, 4)]), (25, [(25, 0)]), (28, [(0, 4)]), (36, [(36, 0)]), (41, [(41, 0)]), (47, [(47, 0)])]⟩ (fun γ => [w17, .int .i64 ((k3 : Nat) : Int), .pointer (some (elV w17 (k3 * (Kd.sl Kd.u64).size))), (γ 3 0), .int .i64 ((x12.length : Nat) : Int), .pointer (some ⟨b1, 6, none⟩), vp_z_4, .int .i64 ((p_z.F.length : Nat) : Int), .bool (((x12.length : Nat) : Int) != ((p_z.F.length : Nat) : Int)), .bool false, w21, .int .i64 ((k3 : Nat) : Int), .pointer (some (elV w21 (k3 * (Kd.sl Kd.u64).size))), (γ 13 0), .int .i64 ((x13.length : Nat) : Int), .pointer (some ⟨b1, 6, none⟩), vp_z_4, .int .i64 ((p_z.F.length : Nat) : Int), .bool (((x13.length : Nat) : Int) != ((p_z.F.length : Nat) : Int)), .bool (((x13.length : Nat) : Int) != ((p_z.F.length : Nat) : Int)), .bool false, w25, .int .i64 ((k3 : Nat) : Int), .pointer (some (elV w25 (k3 * (Kd.sl Kd.u64).size))), (γ 24 0), .int .i64 ((x14.length : Nat) : Int), .pointer (some ⟨b1, 6, none⟩), vp_z_4, .int .i64 ((p_z.F.length : Nat) : Int), .bool (((x14.length : Nat) : Int) != ((p_z.F.length : Nat) : Int)), .bool (((x14.length : Nat) : Int) != ((p_z.F.length : Nat) : Int)), .bool false, w18, .int .i64 ((k3 : Nat) : Int), .pointer (some (elV w18 (k3 * (Kd.sl Kd.i64).size))), (γ 35 0), .int .i64 ((x15.length : Nat) : Int), w22, .int .i64 ((k3 : Nat) : Int), .pointer (some (elV w22 (k3 * (Kd.sl Kd.i64).size))), (γ 40 0), .int .i64 ((x16.length : Nat) : Int), .int .i64 x17, w26, .int .i64 ((k3 : Nat) : Int), .pointer (some (elV w26 (k3 * (Kd.sl Kd.i64).size))), (γ 46 0), .int .i64 ((x18.length : Nat) : Int), .int .i64 x19, .bool (decide (x19 > (0 : Int))), .bool (decide (x19 > (0 : Int)))]) (fun i γ => match i with | 3 => [rdV Kd.u64 (γ 3 0) x12] | 13 => [rdV Kd.u64 (γ 13 0) x13] | 24 => [rdV Kd.u64 (γ 24 0) x14] | 35 => [rdV Kd.i64 (γ 35 0) x15] | 40 => [rdV Kd.i64 (γ 40 0) x16] | 46 => [rdV Kd.i64 (γ 46 0) x18] | _ => []) (fun γ => [blkP (.pointer (some ⟨b1, 0, none⟩)) 56 [.int .u64 p_z.W.S.P, .int .i64 p_z.W.S.N, .int .i64 p_z.W.S.T, vp_z_1, vp_z_2, vp_z_3, vp_z_4, vp_z_5], rdV Kd.i64 vp_z_1 p_z.W.Corrupt, rdV K_api_Deviation vp_z_2 p_z.W.Deviations, rdV (Kd.sl Kd.u64) vp_z_3 p_z.W.Tapes, rdV (Kd.sl Kd.u64) vp_z_4 p_z.F, rdV Kd.u64 vp_z_5 p_z.Other, blkP (.pointer (some ⟨b2, 0, none⟩)) 29 [.int .u64 p_z.W.S.P, .int .i64 p_z.W.S.N, .int .i64 p_z.W.S.T, (.slice none 0 0), (.slice none 0 0), vp_z_3], rdV Kd.i64 (.slice none 0 0) ([] : List Int), rdV K_api_Deviation (.slice none 0 0) ([] : List T_api_Deviation), ownV (Kd.sl Kd.u64) 30 w17 r14.1, ownV (Kd.sl Kd.i64) 25 w18 r14.2.1, ownV (Kd.sl Kd.u64) 30 w21 r15.1, ownV (Kd.sl Kd.i64) 25 w22 r15.2.1, ownV (Kd.sl Kd.u64) 30 w25 r16.1, ownV (Kd.sl Kd.i64) 25 w26 r16.2.1, exF, rdV Kd.u64 (γ 3 0) x12, rdV Kd.u64 (γ 13 0) x13, rdV Kd.u64 (γ 24 0) x14, rdV Kd.i64 (γ 35 0) x15, rdV Kd.i64 (γ 40 0) x16, rdV Kd.i64 (γ 46 0) x18] ++ F) [0, 1, 5, 8, 10, 11, 15, 18, 19, 21, 22, 26, 29, 30, 32, 33, 37, 38, 43, 44, 49, 50] tryd_mix Tb_ok kr kr (fun _ => by kernel_rfl) (fun _ => by kernel_rfl) (fun _ => by kernel_rfl) (fun _ => by kernel_rfl) (fun _ => by kernel_rfl) (fun _ => by kernel_rfl) (fun _ => by kernel_rfl) ?_ ?_
               ·
                refine ⟨?_, ?_, ?_, ?_, ?_, ?_, ?_, ?_, ?_, ?_, ?_, ?_, ?_, ?_, ?_, ?_, ?_, ?_, ?_, ?_, ?_, ?_, ?_, ?_, ?_, ?_, ?_, ?_, ?_, trivial⟩
                ·
                 intro γ F
                 refine WI.reH (H' := [ownV (Kd.sl Kd.u64) 30 w17 r14.1] ++ F) kr ?_
                 refine w_ix (k := .i64) (own_hd 0 rfl) (nbd ex12) rfl kr ts_27 ti_30 ?_
                 exact wE (gl []) [(0, false)] 0
                ·
                 intro γ F
                 refine WI.reH (H' := [ownV (Kd.sl Kd.u64) 30 w17 r14.1] ++ F) kr ?_
                 refine w_ldO 0 0 rfl ex12 kr ti_30 rfl rfl ?_
                 rintro v7
                 exact wE (gl [v7]) [(0, true), (1, false)] 1
                ·
                 intro γ F
                 refine WI.reH (H' := [rdV Kd.u64 (γ 3 0) x12] ++ F) kr ?_
                 refine w_len (rd_hd 0 rfl) kr ts_30 ?_
                 exact wE (gl []) [] 1
                ·
                 intro γ F
                 refine WI.reH (H' := [blkP (.pointer (some ⟨b1, 0, none⟩)) 56 [.int .u64 p_z.W.S.P, .int .i64 p_z.W.S.N, .int .i64 p_z.W.S.T, vp_z_1, vp_z_2, vp_z_3, vp_z_4, vp_z_5]] ++ F) kr ?_
                 refine w_ldB 0 6 rfl kr ti_27 rfl rfl ?_
                 exact wE (gl []) [(0, false)] 0
                ·
                 intro γ F
                 refine WI.reH (H' := [rdV (Kd.sl Kd.u64) vp_z_4 p_z.F] ++ F) kr ?_
                 refine w_len (rd_hd 0 rfl) kr ts_27 ?_
                 exact wE (gl []) [] 1
                ·
                 intro γ F
                 refine WI.reH (H' := [] ++ F) kr ?_
                 refine w_pk Tb_ok (congrArg Value.bool t9) kr ?_
                 exact wE (gl []) [] 0
                ·
                 intro γ F
                 refine WI.reH (H' := [ownV (Kd.sl Kd.u64) 30 w21 r15.1] ++ F) kr ?_
                 refine w_ix (k := .i64) (own_hd 0 rfl) (nbd ex13) rfl kr ts_27 ti_30 ?_
                 exact wE (gl []) [(0, false)] 0
                ·
                 intro γ F
                 refine WI.reH (H' := [ownV (Kd.sl Kd.u64) 30 w21 r15.1] ++ F) kr ?_
                 refine w_ldO 0 0 rfl ex13 kr ti_30 rfl rfl ?_
                 rintro v8
                 exact wE (gl [v8]) [(0, true), (1, false)] 1
                ·
                 intro γ F
                 refine WI.reH (H' := [rdV Kd.u64 (γ 13 0) x13] ++ F) kr ?_
                 refine w_len (rd_hd 0 rfl) kr ts_30 ?_
                 exact wE (gl []) [] 1
                ·
                 intro γ F
                 refine WI.reH (H' := [blkP (.pointer (some ⟨b1, 0, none⟩)) 56 [.int .u64 p_z.W.S.P, .int .i64 p_z.W.S.N, .int .i64 p_z.W.S.T, vp_z_1, vp_z_2, vp_z_3, vp_z_4, vp_z_5]] ++ F) kr ?_
                 refine w_ldB 0 6 rfl kr ti_27 rfl rfl ?_
                 exact wE (gl []) [(0, false)] 0
                ·
                 intro γ F
                 refine WI.reH (H' := [rdV (Kd.sl Kd.u64) vp_z_4 p_z.F] ++ F) kr ?_
                 refine w_len (rd_hd 0 rfl) kr ts_27 ?_
                 exact wE (gl []) [] 1
                ·
                 intro γ F
                 refine WI.reH (H' := [] ++ F) kr ?_
                 refine w_pk Tb_ok (congrArg Value.bool t10) kr ?_
                 exact wE (gl []) [] 0
                ·
                 intro γ F
                 refine WI.reH (H' := [ownV (Kd.sl Kd.u64) 30 w25 r16.1] ++ F) kr ?_
                 refine w_ix (k := .i64) (own_hd 0 rfl) (nbd ex14) rfl kr ts_27 ti_30 ?_
                 exact wE (gl []) [(0, false)] 0
                ·
                 intro γ F
                 refine WI.reH (H' := [ownV (Kd.sl Kd.u64) 30 w25 r16.1] ++ F) kr ?_
                 refine w_ldO 0 0 rfl ex14 kr ti_30 rfl rfl ?_
                 rintro v9
                 exact wE (gl [v9]) [(0, true), (1, false)] 1
                ·
                 intro γ F
                 refine WI.reH (H' := [rdV Kd.u64 (γ 24 0) x14] ++ F) kr ?_
                 refine w_len (rd_hd 0 rfl) kr ts_30 ?_
                 exact wE (gl []) [] 1
                ·
                 intro γ F
                 refine WI.reH (H' := [blkP (.pointer (some ⟨b1, 0, none⟩)) 56 [.int .u64 p_z.W.S.P, .int .i64 p_z.W.S.N, .int .i64 p_z.W.S.T, vp_z_1, vp_z_2, vp_z_3, vp_z_4, vp_z_5]] ++ F) kr ?_
                 refine w_ldB 0 6 rfl kr ti_27 rfl rfl ?_
                 exact wE (gl []) [(0, false)] 0
                ·
                 intro γ F
                 refine WI.reH (H' := [rdV (Kd.sl Kd.u64) vp_z_4 p_z.F] ++ F) kr ?_
                 refine w_len (rd_hd 0 rfl) kr ts_27 ?_
                 exact wE (gl []) [] 1
                ·
                 intro γ F
                 refine WI.reH (H' := [] ++ F) kr ?_
                 refine w_pk Tb_ok (congrArg Value.bool t11) kr ?_
                 exact wE (gl []) [] 0
                ·
                 intro γ F
                 refine WI.reH (H' := [ownV (Kd.sl Kd.i64) 25 w18 r14.2.1] ++ F) kr ?_
                 refine w_ix (k := .i64) (own_hd 0 rfl) (nbd ex15) rfl kr ts_58 ti_25 ?_
                 exact wE (gl []) [(0, false)] 0
                ·
                 intro γ F
                 refine WI.reH (H' := [ownV (Kd.sl Kd.i64) 25 w18 r14.2.1] ++ F) kr ?_
                 refine w_ldO 0 0 rfl ex15 kr ti_25 rfl rfl ?_
                 rintro v10
                 exact wE (gl [v10]) [(0, true), (1, false)] 1
                ·
                 intro γ F
                 refine WI.reH (H' := [rdV Kd.i64 (γ 35 0) x15] ++ F) kr ?_
                 refine w_len (rd_hd 0 rfl) kr ts_25 ?_
                 exact wE (gl []) [] 1
                ·
                 intro γ F
                 refine WI.reH (H' := [ownV (Kd.sl Kd.i64) 25 w22 r15.2.1] ++ F) kr ?_
                 refine w_ix (k := .i64) (own_hd 0 rfl) (nbd ex16) rfl kr ts_58 ti_25 ?_
                 exact wE (gl []) [(0, false)] 0
                ·
                 intro γ F
                 refine WI.reH (H' := [ownV (Kd.sl Kd.i64) 25 w22 r15.2.1] ++ F) kr ?_
                 refine w_ldO 0 0 rfl ex16 kr ti_25 rfl rfl ?_
                 rintro v11
                 exact wE (gl [v11]) [(0, true), (1, false)] 1
                ·
                 intro γ F
                 refine WI.reH (H' := [rdV Kd.i64 (γ 40 0) x16] ++ F) kr ?_
                 refine w_len (rd_hd 0 rfl) kr ts_25 ?_
                 exact wE (gl []) [] 1
                ·
                 intro γ F
                 refine WI.reH (H' := [] ++ F) kr ?_
                 refine w_bi (zaddI ex17) kr ?_
                 exact wE (gl []) [] 0
                ·
                 intro γ F
                 refine WI.reH (H' := [ownV (Kd.sl Kd.i64) 25 w26 r16.2.1] ++ F) kr ?_
                 refine w_ix (k := .i64) (own_hd 0 rfl) (nbd ex18) rfl kr ts_58 ti_25 ?_
                 exact wE (gl []) [(0, false)] 0
                ·
                 intro γ F
                 refine WI.reH (H' := [ownV (Kd.sl Kd.i64) 25 w26 r16.2.1] ++ F) kr ?_
                 refine w_ldO 0 0 rfl ex18 kr ti_25 rfl rfl ?_
                 rintro v12
                 exact wE (gl [v12]) [(0, true), (1, false)] 1
                ·
                 intro γ F
                 refine WI.reH (H' := [rdV Kd.i64 (γ 46 0) x18] ++ F) kr ?_
                 refine w_len (rd_hd 0 rfl) kr ts_25 ?_
                 exact wE (gl []) [] 1
                ·
                 intro γ F
                 refine WI.reH (H' := [] ++ F) kr ?_
                 refine w_bi (zaddI ex19) kr ?_
                 exact wE (gl []) [] 0
               ·
                intro γ5
                cases h51
                exact q_join () trivial aK (tH [(0, false), (0, true), (1, true), (2, true), (3, true), (4, true), (5, false), (5, true), (6, true), (7, false), (7, false), (7, false), (7, false), (7, false), (7, false), (7, true)] 14)
           ·
            rintro ⟨⟩ - j
            refine qh_then ?_
            rcases bcase h40 with ⟨t12, h52⟩ | ⟨t12, h52⟩
            ·
             refine h_ct (b := x11) t12 kr ?_
             refine wh_seq ?_
             refine wh_region ?_
             refine w_p Tb_ok 1 kr ?_
             refine wi_end kr ?_
             refine qh_then ?_
             refine wh_ret ?_
             refine qh_then_ret ?_
             refine qh_block_ret ?_
             refine qh_then_ret ?_
             refine q_rgR ?_
             refine qh_block_ret ?_
             refine q_joinR ?_
             refine qh_then_ret ?_
             have h52 := Option.some.inj h52; subst h52
             have hn := (show _ = _ from hn3); subst hn
             have h38 := Option.some.inj (show some _ = some _ from h38); subst h38
             exact q_end (l := [.bool false]) [] 16 ⟨rfl, rfl⟩ (.inl rfl) kr kr kr
            ·
             refine h_cf (b := x11) t12 kr ?_
             refine wh_skip ?_
             refine qh_then ?_
             refine wh_seq ?_
             refine wh_region ?_
             refine w_p Tb_ok 1 kr ?_
             refine wi_end kr ?_
             refine qh_then ?_
             refine h_lenle (rd_lenle 4 rfl) (fun hN4 => ?_)
             obtain ⟨r18, el4, h53⟩ := bnd h52
             refine h_join (X := Unit × Unit) (fun g => [(2, (.pointer (some ⟨b1, 0, none⟩))), (5, (.pointer (some ⟨b2, 0, none⟩))), (15, w17), (16, w18), (17, w21), (18, w22), (19, w25), (20, w26), (21, .int .i64 ((k3 : Nat) : Int))]) (fun g => [blkP (.pointer (some ⟨b1, 0, none⟩)) 56 [.int .u64 p_z.W.S.P, .int .i64 p_z.W.S.N, .int .i64 p_z.W.S.T, vp_z_1, vp_z_2, vp_z_3, vp_z_4, vp_z_5], rdV Kd.i64 vp_z_1 p_z.W.Corrupt, rdV K_api_Deviation vp_z_2 p_z.W.Deviations, rdV (Kd.sl Kd.u64) vp_z_3 p_z.W.Tapes, rdV (Kd.sl Kd.u64) vp_z_4 p_z.F, rdV Kd.u64 vp_z_5 p_z.Other, blkP (.pointer (some ⟨b2, 0, none⟩)) 29 [.int .u64 p_z.W.S.P, .int .i64 p_z.W.S.N, .int .i64 p_z.W.S.T, (.slice none 0 0), (.slice none 0 0), vp_z_3], rdV Kd.i64 (.slice none 0 0) ([] : List Int), rdV K_api_Deviation (.slice none 0 0) ([] : List T_api_Deviation), ownV (Kd.sl Kd.u64) 30 w17 r14.1, ownV (Kd.sl Kd.i64) 25 w18 r14.2.1, ownV (Kd.sl Kd.u64) 30 w21 r15.1, ownV (Kd.sl Kd.i64) 25 w22 r15.2.1, ownV (Kd.sl Kd.u64) 30 w25 r16.1, ownV (Kd.sl Kd.i64) 25 w26 r16.2.1, exF] ++ F) (fun g => r18 = .go g.2) ?_ ?_
             ·
              refine wh_block ?_
              refine h_rg (fun (k4 : Nat) (st : Unit) (g : Unit) => [(2, (.pointer (some ⟨b1, 0, none⟩))), (5, (.pointer (some ⟨b2, 0, none⟩))), (15, w17), (16, w18), (17, w21), (18, w22), (19, w25), (20, w26), (21, .int .i64 ((k3 : Nat) : Int)), (22, .int .i64 ((k4 : Nat) : Int))]) (fun (k4 : Nat) (st : Unit) (g : Unit) => [blkP (.pointer (some ⟨b1, 0, none⟩)) 56 [.int .u64 p_z.W.S.P, .int .i64 p_z.W.S.N, .int .i64 p_z.W.S.T, vp_z_1, vp_z_2, vp_z_3, vp_z_4, vp_z_5], rdV Kd.i64 vp_z_1 p_z.W.Corrupt, rdV K_api_Deviation vp_z_2 p_z.W.Deviations, rdV (Kd.sl Kd.u64) vp_z_3 p_z.W.Tapes, rdV (Kd.sl Kd.u64) vp_z_4 p_z.F, rdV Kd.u64 vp_z_5 p_z.Other, blkP (.pointer (some ⟨b2, 0, none⟩)) 29 [.int .u64 p_z.W.S.P, .int .i64 p_z.W.S.N, .int .i64 p_z.W.S.T, (.slice none 0 0), (.slice none 0 0), vp_z_3], rdV Kd.i64 (.slice none 0 0) ([] : List Int), rdV K_api_Deviation (.slice none 0 0) ([] : List T_api_Deviation), ownV (Kd.sl Kd.u64) 30 w17 r14.1, ownV (Kd.sl Kd.i64) 25 w18 r14.2.1, ownV (Kd.sl Kd.u64) 30 w21 r15.1, ownV (Kd.sl Kd.i64) 25 w22 r15.2.1, ownV (Kd.sl Kd.u64) 30 w25 r16.1, ownV (Kd.sl Kd.i64) 25 w26 r16.2.1, exF] ++ F) () el4 (Nat.zero_le _) aK (tH [(0, false), (0, true), (1, true), (2, true), (3, true), (4, true), (5, false), (5, true), (6, true), (7, false), (7, false), (7, false), (7, false), (7, false), (7, false), (7, true)] 8) ?_ ?_
              ·
               rintro ⟨⟩ ⟨⟩ hr4 j
               refine wh_seq ?_
               refine wh_seq ?_
               refine wh_region ?_
               refine w_p Tb_ok 2 kr ?_
               refine w_ldB 0 6 rfl kr ti_27 rfl rfl ?_
               refine w_len (rd_hd 4 rfl) kr ts_27 ?_
               refine w_p Tb_ok 1 kr ?_
               refine wi_end kr ?_
               refine qh_then ?_
               refine h_cf (b := (decide ((((p_z.F.length) : Nat) : Int) < ((p_z.F.length : Nat) : Int)))) rgF kr ?_
               refine wh_exit ?_
               refine qh_then_exit ?_
               refine q_rzX ?_
               refine qh_block_exit ?_
               exact q_join ((), ()) hr4 aK (tH [(0, false), (0, true), (1, true), (2, true), (3, true), (4, true), (5, false), (5, true), (6, true), (7, false), (7, false), (7, false), (7, false), (7, false), (7, false), (7, true)] 8)
              ·
               rintro rem k4 ⟨⟩ ⟨⟩ o4 hk4 h54 hn4 j
               have h54 : privitylaw20_ReconstructLinear_L3 p_z r14 r15 r16 k3 k4 = some o4 := h54
               unfold privitylaw20_ReconstructLinear_L3 at h54
               refine wh_seq ?_
               refine wh_seq ?_
               refine wh_region ?_
               refine w_p Tb_ok 2 kr ?_
               refine w_ldB 0 6 rfl kr ti_27 rfl rfl ?_
               refine w_len (rd_hd 4 rfl) kr ts_27 ?_
               refine w_p Tb_ok 1 kr ?_
               refine wi_end kr ?_
               refine qh_then ?_
               refine h_ct (b := (decide (((k4 : Nat) : Int) < ((p_z.F.length : Nat) : Int)))) (rgT hk4) kr ?_
               refine wh_skip ?_
               refine qh_then ?_
               refine wh_seq ?_
               refine wh_block ?_
               refine wh_seq ?_
               obtain ⟨x20, ex20, h55⟩ := bnd h54
               obtain ⟨x21, ex21, h56⟩ := bnd h55
               obtain ⟨x22, ex22, h57⟩ := bnd h56
               obtain ⟨x23, ex23, h58⟩ := bnd h57
               obtain ⟨x24, ex24, h59⟩ := bnd h58
               obtain ⟨x25, ex25, h60⟩ := bnd h59
               obtain ⟨x26, ex26, h61⟩ := bnd h60
               obtain ⟨x27, ex27, h62⟩ := bnd h61
               refine h_flow [0, 0, 3, 7, 0, 31, 63, 0, 0, 384, 896, 0, 3968, 8064, 16383, 0, 32768, 98304, 262143, 0, 0, 1572864, 3670016, 0, 16252928, 33030144, 67108863] ⟨16, [0, 0, 0, 1, 0, 0, 0, 0, 0, 0, 1, 0, 0, 0, 0, 0, 0, 0, 0, 0, 0, 0, 1, 0, 0, 0, 0], [], [(2, [(0, 9)]), (3, [(0, 9)]), (9, [(0, 11)]), (10, [(0, 11)]), (17, [(0, 6)]), (21, [(0, 13)]), (22, [(0, 13)])], [(5, [(4, 0)]), (6, [(4, 0)]), (12, [(11, 0)]), (13, [(11, 0)]), (24, [(23, 0)]), (25, [(23, 0)])]⟩ (fun γ => [w17, .int .i64 ((k3 : Nat) : Int), .pointer (some (elV w17 (k3 * (Kd.sl Kd.u64).size))), (γ 3 0), .int .i64 ((k4 : Nat) : Int), .pointer (some (elV (γ 3 0) (k4 * Kd.u64.size))), .int .u64 x21, w21, .int .i64 ((k3 : Nat) : Int), .pointer (some (elV w21 (k3 * (Kd.sl Kd.u64).size))), (γ 10 0), .int .i64 ((k4 : Nat) : Int), .pointer (some (elV (γ 10 0) (k4 * Kd.u64.size))), .int .u64 x23, .int .u64 x24, .pointer (some ⟨b2, 0, none⟩), .pointer (some ⟨b2, 0, none⟩), .int .u64 p_z.W.S.P, .int .u64 x25, w25, .int .i64 ((k3 : Nat) : Int), .pointer (some (elV w25 (k3 * (Kd.sl Kd.u64).size))), (γ 22 0), .int .i64 ((k4 : Nat) : Int), .pointer (some (elV (γ 22 0) (k4 * Kd.u64.size))), .int .u64 x27, .bool (((x25 : Nat) : Int) != ((x27 : Nat) : Int))]) (fun i γ => match i with | 3 => [rdV Kd.u64 (γ 3 0) x20] | 10 => [rdV Kd.u64 (γ 10 0) x22] | 22 => [rdV Kd.u64 (γ 22 0) x26] | _ => []) (fun γ => [blkP (.pointer (some ⟨b1, 0, none⟩)) 56 [.int .u64 p_z.W.S.P, .int .i64 p_z.W.S.N, .int .i64 p_z.W.S.T, vp_z_1, vp_z_2, vp_z_3, vp_z_4, vp_z_5], rdV Kd.i64 vp_z_1 p_z.W.Corrupt, rdV K_api_Deviation vp_z_2 p_z.W.Deviations, rdV (Kd.sl Kd.u64) vp_z_3 p_z.W.Tapes, rdV (Kd.sl Kd.u64) vp_z_4 p_z.F, rdV Kd.u64 vp_z_5 p_z.Other, blkP (.pointer (some ⟨b2, 0, none⟩)) 29 [.int .u64 p_z.W.S.P, .int .i64 p_z.W.S.N, .int .i64 p_z.W.S.T, (.slice none 0 0), (.slice none 0 0), vp_z_3], rdV Kd.i64 (.slice none 0 0) ([] : List Int), rdV K_api_Deviation (.slice none 0 0) ([] : List T_api_Deviation), ownV (Kd.sl Kd.u64) 30 w17 r14.1, ownV (Kd.sl Kd.i64) 25 w18 r14.2.1, ownV (Kd.sl Kd.u64) 30 w21 r15.1, ownV (Kd.sl Kd.i64) 25 w22 r15.2.1, ownV (Kd.sl Kd.u64) 30 w25 r16.1, ownV (Kd.sl Kd.i64) 25 w26 r16.2.1, exF, rdV Kd.u64 (γ 3 0) x20, rdV Kd.u64 (γ 10 0) x22, rdV Kd.u64 (γ 22 0) x26] ++ F) [0, 1, 4, 7, 8, 11, 15, 16, 19, 20, 23, 26] tryd_mix Tb_ok kr kr (fun _ => by kernel_rfl) (fun _ => by kernel_rfl) (fun _ => by kernel_rfl) (fun _ => by kernel_rfl) (fun _ => by kernel_rfl) (fun _ => by kernel_rfl) (fun _ => by kernel_rfl) ?_ ?_
               ·
                refine ⟨?_, ?_, ?_, ?_, ?_, ?_, ?_, ?_, ?_, ?_, ?_, ?_, ?_, ?_, ?_, trivial⟩
                ·
                 intro γ F
                 refine WI.reH (H' := [ownV (Kd.sl Kd.u64) 30 w17 r14.1] ++ F) kr ?_
                 refine w_ix (k := .i64) (own_hd 0 rfl) (nbd ex20) rfl kr ts_27 ti_30 ?_
                 exact wE (gl []) [(0, false)] 0
                ·
                 intro γ F
                 refine WI.reH (H' := [ownV (Kd.sl Kd.u64) 30 w17 r14.1] ++ F) kr ?_
                 refine w_ldO 0 0 rfl ex20 kr ti_30 rfl rfl ?_
                 rintro v13
                 exact wE (gl [v13]) [(0, true), (1, false)] 1
                ·
                 intro γ F
                 refine WI.reH (H' := [rdV Kd.u64 (γ 3 0) x20] ++ F) kr ?_
                 refine w_ix (k := .i64) (rd_hd 0 rfl) (nbd ex21) rfl kr ts_30 ti_22 ?_
                 exact wE (gl []) [] 1
                ·
                 intro γ F
                 refine WI.reH (H' := [rdV Kd.u64 (γ 3 0) x20] ++ F) kr ?_
                 refine w_ldR 0 0 rfl ex21 kr ti_22 rfl rfl ?_
                 rintro _
                 exact wE (gl []) [] 1
                ·
                 intro γ F
                 refine WI.reH (H' := [ownV (Kd.sl Kd.u64) 30 w21 r15.1] ++ F) kr ?_
                 refine w_ix (k := .i64) (own_hd 0 rfl) (nbd ex22) rfl kr ts_27 ti_30 ?_
                 exact wE (gl []) [(0, false)] 0
                ·
                 intro γ F
                 refine WI.reH (H' := [ownV (Kd.sl Kd.u64) 30 w21 r15.1] ++ F) kr ?_
                 refine w_ldO 0 0 rfl ex22 kr ti_30 rfl rfl ?_
                 rintro v14
                 exact wE (gl [v14]) [(0, true), (1, false)] 1
                ·
                 intro γ F
                 refine WI.reH (H' := [rdV Kd.u64 (γ 10 0) x22] ++ F) kr ?_
                 refine w_ix (k := .i64) (rd_hd 0 rfl) (nbd ex23) rfl kr ts_30 ti_22 ?_
                 exact wE (gl []) [] 1
                ·
                 intro γ F
                 refine WI.reH (H' := [rdV Kd.u64 (γ 10 0) x22] ++ F) kr ?_
                 refine w_ldR 0 0 rfl ex23 kr ti_22 rfl rfl ?_
                 rintro _
                 exact wE (gl []) [] 1
                ·
                 intro γ F
                 refine WI.reH (H' := [] ++ F) kr ?_
                 refine w_bi (eaddU ex24) kr ?_
                 exact wE (gl []) [] 0
                ·
                 intro γ F
                 refine WI.reH (H' := [blkP (.pointer (some ⟨b2, 0, none⟩)) 29 [.int .u64 p_z.W.S.P, .int .i64 p_z.W.S.N, .int .i64 p_z.W.S.T, (.slice none 0 0), (.slice none 0 0), vp_z_3]] ++ F) kr ?_
                 refine w_ldB 0 0 rfl kr ti_22 rfl rfl ?_
                 exact wE (gl []) [(0, false)] 0
                ·
                 intro γ F
                 refine WI.reH (H' := [] ++ F) kr ?_
                 refine w_bi (zremU ex25) kr ?_
                 exact wE (gl []) [] 0
                ·
                 intro γ F
                 refine WI.reH (H' := [ownV (Kd.sl Kd.u64) 30 w25 r16.1] ++ F) kr ?_
                 refine w_ix (k := .i64) (own_hd 0 rfl) (nbd ex26) rfl kr ts_27 ti_30 ?_
                 exact wE (gl []) [(0, false)] 0
                ·
                 intro γ F
                 refine WI.reH (H' := [ownV (Kd.sl Kd.u64) 30 w25 r16.1] ++ F) kr ?_
                 refine w_ldO 0 0 rfl ex26 kr ti_30 rfl rfl ?_
                 rintro v15
                 exact wE (gl [v15]) [(0, true), (1, false)] 1
                ·
                 intro γ F
                 refine WI.reH (H' := [rdV Kd.u64 (γ 22 0) x26] ++ F) kr ?_
                 refine w_ix (k := .i64) (rd_hd 0 rfl) (nbd ex27) rfl kr ts_30 ti_22 ?_
                 exact wE (gl []) [] 1
                ·
                 intro γ F
                 refine WI.reH (H' := [rdV Kd.u64 (γ 22 0) x26] ++ F) kr ?_
                 refine w_ldR 0 0 rfl ex27 kr ti_22 rfl rfl ?_
                 rintro _
                 exact wE (gl []) [] 1
               ·
                intro γ6
                refine qh_then ?_
                rcases bcase h62 with ⟨t13, h63⟩ | ⟨t13, h63⟩
                ·
                 refine h_ct (b := (((x25 : Nat) : Int) != ((x27 : Nat) : Int))) t13 kr ?_
                 refine wh_seq ?_
                 refine wh_region ?_
                 refine w_p Tb_ok 1 kr ?_
                 refine wi_end kr ?_
                 refine qh_then ?_
                 refine wh_ret ?_
                 refine qh_block_ret ?_
                 refine qh_then_ret ?_
                 refine q_rgR ?_
                 refine qh_block_ret ?_
                 refine q_joinR ?_
                 refine qh_block_ret ?_
                 refine qh_then_ret ?_
                 refine q_rgR ?_
                 refine qh_block_ret ?_
                 refine q_joinR ?_
                 refine qh_then_ret ?_
                 have h63 := Option.some.inj h63; subst h63
                 have hn := (show _ = _ from hn4); subst hn
                 have h53 := Option.some.inj (show some _ = some _ from h53); subst h53
                 have hn := (show _ = _ from hn3); subst hn
                 have h38 := Option.some.inj (show some _ = some _ from h38); subst h38
                 exact q_end (l := [.bool false]) [] 19 ⟨rfl, rfl⟩ (.inl rfl) kr kr kr
                ·
                 refine h_cf (b := (((x25 : Nat) : Int) != ((x27 : Nat) : Int))) t13 kr ?_
                 refine wh_skip ?_
                 refine qh_block_normal ?_
                 refine qh_then ?_
                 refine wh_region ?_
                 refine w_p Tb_ok 1 kr ?_
                 refine w_bi (zinc hk4 hN4) kr ?_
                 refine w_p Tb_ok 1 kr ?_
                 refine wi_end kr ?_
                 have h63 := Option.some.inj h63; subst h63
                 exact q_rgo () hn4 aK (tH [(0, false), (0, true), (1, true), (2, true), (3, true), (4, true), (5, false), (5, true), (6, true), (7, false), (7, false), (7, false), (7, false), (7, false), (7, false), (7, true)] 11)
             ·
              rintro ⟨⟨⟩, ⟨⟩⟩ hc j
              subst hc
              refine qh_block_normal ?_
              refine qh_then ?_
              refine wh_region ?_
              refine w_p Tb_ok 1 kr ?_
              refine w_bi (zinc hk3 hN3) kr ?_
              refine w_p Tb_ok 1 kr ?_
              refine wi_end kr ?_
              have h53 := Option.some.inj h53; subst h53
              exact q_rgo () hn3 aK (tH [(0, false), (0, true), (1, true), (2, true), (3, true), (4, true), (5, false), (5, true), (6, true), (7, false), (7, false), (7, false), (7, false), (7, false), (7, false), (7, true)] 8)
         ·
          rintro ⟨⟨⟩, ⟨⟩⟩ hc j
          subst hc
          refine qh_then ?_
          refine wh_seq ?_
          refine wh_region ?_
          obtain ⟨r19, er19, h64⟩ := bnd h38
          refine w_fn [(0, true)] (c_privitylaw20_awake er19) rfl fok_36 kr ?_
          rintro _ _ ⟨hv, rfl⟩; have hv := hv.symm; subst hv
          refine w_p Tb_ok 1 kr ?_
          refine wi_end kr ?_
          refine qh_then ?_
          refine wh_ret ?_
          have h64 := Option.some.inj h64; subst h64
          exact q_end (l := [.bool r19]) [] 1 ⟨rfl, rfl⟩ (.inl rfl) kr kr kr
end Go.Proofs.YtclhpomlfadohaaDoor
