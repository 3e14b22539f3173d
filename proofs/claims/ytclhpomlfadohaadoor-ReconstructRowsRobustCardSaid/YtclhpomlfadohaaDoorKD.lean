/- Contracts of Go functions, one theorem each: the call returns just what the plain function says. Printed by a program of this claim. -/
import Derived.Test.YtclhpomlfadohaaDoorGw12
import Derived.Test.YtclhpomlfadohaaDoorT2p
import Derived.Test.YtclhpomlfadohaaDoorProg
set_option linter.unusedVariables false
namespace Go.Proofs.YtclhpomlfadohaaDoor
open Go Gv Gw Pu
set_option maxHeartbeats 4000000
def K_api_Params : Kd T_api_Params := Kd.co (Kd.pair Kd.u64 (Kd.pair Kd.i64 Kd.i64)) (fun x => (x.P, x.N, x.T))
def K_api_Deviation : Kd T_api_Deviation := Kd.co (Kd.pair Kd.i64 (Kd.pair Kd.i64 (Kd.pair Kd.i64 (Kd.pair Kd.i64 (Kd.pair Kd.i64 (Kd.pair Kd.u64 (Kd.pair Kd.i64 Kd.i64))))))) (fun x => (x.Round, x.From, x.To, x.At, x.Kind, x.K, x.Of, x.SrcIndex))
def K_api_Scenario : Kd T_api_Scenario := Kd.co (Kd.pair K_api_Params (Kd.pair (Kd.sl Kd.i64) (Kd.pair (Kd.sl K_api_Deviation) (Kd.sl (Kd.sl Kd.u64))))) (fun x => (x.S, x.Corrupt, x.Deviations, x.Tapes))
def K_arr3_22 : Kd T_arr3_22 := Kd.co (Kd.pair Kd.u64 (Kd.pair Kd.u64 Kd.u64)) (fun x => (x.e0, x.e1, x.e2))
def K_api_Event : Kd T_api_Event := Kd.co (Kd.pair Kd.i64 (Kd.pair Kd.i64 (Kd.sl Kd.u64))) (fun x => (x.Round, x.From, x.Words))
def K_tape_Tape : Kd T_tape_Tape := Kd.co (Kd.pair (Kd.sl Kd.u64) Kd.i64) (fun x => (x.zwords, x.zat))
def K_network_Net : Kd T_network_Net := Kd.co (Kd.pair K_api_Scenario (Kd.pair Kd.i64 (Kd.pair (Kd.sl (Kd.sl K_api_Event)) (Kd.sl Kd.any)))) (fun x => (x.zw, x.zround, x.zviews, x.ztapes))
def K_privityref11_Tape : Kd T_privityref11_Tape := Kd.co (Kd.pair (Kd.sl Kd.u64) Kd.i64) (fun x => (x.Words, x.At))
def K_privityref14_Net : Kd T_privityref14_Net := Kd.co (Kd.pair K_api_Scenario (Kd.pair Kd.i64 (Kd.pair (Kd.sl (Kd.sl K_api_Event)) (Kd.sl Kd.any)))) (fun x => (x.zw, x.zround, x.zviews, x.ztapes))
def K_api_Point : Kd T_api_Point := Kd.co (Kd.pair Kd.u64 Kd.u64) (fun x => (x.X, x.Y))
def K_matrix_worked : Kd T_matrix_worked := Kd.co (Kd.pair Kd.u64 (Kd.pair (Kd.sl (Kd.sl Kd.u64)) (Kd.pair (Kd.sl Kd.i64) Kd.u64))) (fun x => (x.zp, x.zm, x.zpivot, x.zdet))
def K_privitylaw20_plane : Kd T_privitylaw20_plane := Kd.co (Kd.pair Kd.u64 (Kd.pair Kd.u64 (Kd.pair Kd.u64 Kd.u64))) (fun x => (x.zp, x.za, x.zb, x.zc))
def K_privitylaw47_Ask : Kd T_privitylaw47_Ask := Kd.co (Kd.pair K_api_Scenario (Kd.pair Kd.u8 (Kd.pair (Kd.sl (Kd.sl Kd.u64)) (Kd.sl Kd.u64)))) (fun x => (x.W, x.Who, x.L, x.Spoil))
def Tb : Tab := ⟨[(24, [0, 1, 2]), (29, [0, 3, 4, 5]), (32, [0, 6, 7, 8]), (67, [0, 1, 2]), (73, [0, 1, 2, 3]), (113, [0, 1]), (119, [0, 6, 7, 8]), (124, [0, 1, 2, 3, 4, 5, 6, 7]), (147, [0, 6, 7, 8]), (198, [0, 1, 2, 3])], [(3, .i64), (5, .u8), (22, .u64), (190, .u64)], [(25, 3), (30, 22)]⟩
theorem Tb_ok : Tb.ok Tryd.prog = true := by kernel_rfl
theorem tryd_mix : Tryd.prog.follows .mixedOrders = true := by kernel_rfl
theorem ti_29 : tinf Tryd.prog 29 = some (true, 6, 96, .agg #[.int .u64 0, .int .i64 0, .int .i64 0, .slice none 0 0, .slice none 0 0, .slice none 0 0]) := by kernel_rfl
theorem ti_26 : tinf Tryd.prog 26 = some (false, 1, 24, .slice none 0 0) := by kernel_rfl
theorem ts_26 : tsl Tryd.prog 26 = some 124 := by kernel_rfl
theorem ti_27 : tinf Tryd.prog 27 = some (false, 1, 24, .slice none 0 0) := by kernel_rfl
theorem ts_27 : tsl Tryd.prog 27 = some 30 := by kernel_rfl
theorem ti_25 : tinf Tryd.prog 25 = some (false, 1, 24, .slice none 0 0) := by kernel_rfl
theorem ts_25 : tsl Tryd.prog 25 = some 3 := by kernel_rfl
theorem ti_30 : tinf Tryd.prog 30 = some (false, 1, 24, .slice none 0 0) := by kernel_rfl
theorem ts_30 : tsl Tryd.prog 30 = some 22 := by kernel_rfl
theorem ti_24 : tinf Tryd.prog 24 = some (true, 3, 24, .agg #[.int .u64 0, .int .i64 0, .int .i64 0]) := by kernel_rfl
theorem ti_22 : tinf Tryd.prog 22 = some (false, 1, 8, .int .u64 0) := by kernel_rfl
theorem ti_3 : tinf Tryd.prog 3 = some (false, 1, 8, .int .i64 0) := by kernel_rfl
theorem fok_149 : fnOK Tryd.prog 149 = true := by kernel_rfl
theorem fok_144 : fnOK Tryd.prog 144 = true := by kernel_rfl
theorem fok_129 : fnOK Tryd.prog 129 = true := by kernel_rfl
theorem fok_104 : fnOK Tryd.prog 104 = true := by kernel_rfl
theorem fok_105 : fnOK Tryd.prog 105 = true := by kernel_rfl
theorem ti_124 : tinf Tryd.prog 124 = some (true, 8, 64, .agg #[.int .i64 0, .int .i64 0, .int .i64 0, .int .i64 0, .int .i64 0, .int .u64 0, .int .i64 0, .int .i64 0]) := by kernel_rfl
theorem fok_106 : fnOK Tryd.prog 106 = true := by kernel_rfl
theorem fok_81 : fnOK Tryd.prog 81 = true := by kernel_rfl
theorem fok_75 : fnOK Tryd.prog 75 = true := by kernel_rfl
theorem fok_45 : fnOK Tryd.prog 45 = true := by kernel_rfl
theorem ti_202 : tinf Tryd.prog 202 = some (true, 7, 56, .agg #[.int .i64 0, .int .i64 0, .int .i64 0, .int .i64 0, .int .i64 0, .int .i64 0, .int .i64 0]) := by kernel_rfl
theorem fok_150 : fnOK Tryd.prog 150 = true := by kernel_rfl
theorem fok_145 : fnOK Tryd.prog 145 = true := by kernel_rfl
theorem fok_130 : fnOK Tryd.prog 130 = true := by kernel_rfl
theorem fok_108 : fnOK Tryd.prog 108 = true := by kernel_rfl
theorem fok_111 : fnOK Tryd.prog 111 = true := by kernel_rfl
theorem fok_110 : fnOK Tryd.prog 110 = true := by kernel_rfl
theorem fok_131 : fnOK Tryd.prog 131 = true := by kernel_rfl
theorem fok_109 : fnOK Tryd.prog 109 = true := by kernel_rfl
theorem fok_115 : fnOK Tryd.prog 115 = true := by kernel_rfl
theorem fok_133 : fnOK Tryd.prog 133 = true := by kernel_rfl
theorem fok_114 : fnOK Tryd.prog 114 = true := by kernel_rfl
theorem fok_113 : fnOK Tryd.prog 113 = true := by kernel_rfl
theorem fok_132 : fnOK Tryd.prog 132 = true := by kernel_rfl
theorem fok_112 : fnOK Tryd.prog 112 = true := by kernel_rfl
theorem fok_82 : fnOK Tryd.prog 82 = true := by kernel_rfl
theorem ts_116 : tsl Tryd.prog 116 = some 46 := by kernel_rfl
theorem ti_46 : tinf Tryd.prog 46 = some (false, 1, 24, .slice none 0 0) := by kernel_rfl
theorem ti_117 : tinf Tryd.prog 117 = some (false, 1, 24, .slice none 0 0) := by kernel_rfl
theorem fok_83 : fnOK Tryd.prog 83 = true := by kernel_rfl
theorem ts_117 : tsl Tryd.prog 117 = some 137 := by kernel_rfl
theorem ti_137 : tinf Tryd.prog 137 = some (false, 1, 8, .pointer none) := by kernel_rfl
theorem fok_56 : fnOK Tryd.prog 56 = true := by kernel_rfl
theorem ti_145 : tinf Tryd.prog 145 = some (false, 1, 24, .slice none 0 0) := by kernel_rfl
theorem fok_94 : fnOK Tryd.prog 94 = true := by kernel_rfl
theorem ts_145 : tsl Tryd.prog 145 = some 148 := by kernel_rfl
theorem ti_148 : tinf Tryd.prog 148 = some (false, 1, 8, .pointer none) := by kernel_rfl
theorem fok_63 : fnOK Tryd.prog 63 = true := by kernel_rfl
theorem fok_37 : fnOK Tryd.prog 37 = true := by kernel_rfl
theorem fok_64 : fnOK Tryd.prog 64 = true := by kernel_rfl
theorem ts_58 : tsl Tryd.prog 58 = some 25 := by kernel_rfl
theorem ts_75 : tsl Tryd.prog 75 = some 27 := by kernel_rfl
theorem fok_123 : fnOK Tryd.prog 123 = true := by kernel_rfl
theorem fok_147 : fnOK Tryd.prog 147 = true := by kernel_rfl
theorem fok_136 : fnOK Tryd.prog 136 = true := by kernel_rfl
theorem fok_124 : fnOK Tryd.prog 124 = true := by kernel_rfl
theorem fok_146 : fnOK Tryd.prog 146 = true := by kernel_rfl
theorem fok_134 : fnOK Tryd.prog 134 = true := by kernel_rfl
theorem ext_135 : extOK Tryd.prog 135 add64Entry := ⟨_, Tryd.func135, by kernel_rfl, by kernel_rfl, by kernel_rfl, by kernel_rfl⟩
theorem fok_118 : fnOK Tryd.prog 118 = true := by kernel_rfl
theorem fok_137 : fnOK Tryd.prog 137 = true := by kernel_rfl
theorem fok_138 : fnOK Tryd.prog 138 = true := by kernel_rfl
theorem fok_89 : fnOK Tryd.prog 89 = true := by kernel_rfl
theorem fok_139 : fnOK Tryd.prog 139 = true := by kernel_rfl
theorem fok_117 : fnOK Tryd.prog 117 = true := by kernel_rfl
theorem fok_87 : fnOK Tryd.prog 87 = true := by kernel_rfl
theorem fok_125 : fnOK Tryd.prog 125 = true := by kernel_rfl
theorem fok_96 : fnOK Tryd.prog 96 = true := by kernel_rfl
theorem ti_116 : tinf Tryd.prog 116 = some (false, 1, 24, .slice none 0 0) := by kernel_rfl
theorem ts_46 : tsl Tryd.prog 46 = some 67 := by kernel_rfl
theorem ti_67 : tinf Tryd.prog 67 = some (true, 3, 40, .agg #[.int .i64 0, .int .i64 0, .slice none 0 0]) := by kernel_rfl
theorem fok_95 : fnOK Tryd.prog 95 = true := by kernel_rfl
theorem fok_66 : fnOK Tryd.prog 66 = true := by kernel_rfl
theorem fok_67 : fnOK Tryd.prog 67 = true := by kernel_rfl
theorem fok_72 : fnOK Tryd.prog 72 = true := by kernel_rfl
theorem ts_111 : tsl Tryd.prog 111 = some 113 := by kernel_rfl
theorem ti_113 : tinf Tryd.prog 113 = some (true, 2, 16, .agg #[.int .u64 0, .int .u64 0]) := by kernel_rfl
theorem fok_73 : fnOK Tryd.prog 73 = true := by kernel_rfl
theorem tm_181 : tmap Tryd.prog 181 = some (22, .u64, 4) := by kernel_rfl
theorem ti_4 : tinf Tryd.prog 4 = some (false, 1, 1, .bool false) := by kernel_rfl
theorem fok_97 : fnOK Tryd.prog 97 = true := by kernel_rfl
theorem fok_116 : fnOK Tryd.prog 116 = true := by kernel_rfl
theorem fok_148 : fnOK Tryd.prog 148 = true := by kernel_rfl
theorem fok_140 : fnOK Tryd.prog 140 = true := by kernel_rfl
theorem fok_141 : fnOK Tryd.prog 141 = true := by kernel_rfl
theorem fok_143 : fnOK Tryd.prog 143 = true := by kernel_rfl
theorem fok_128 : fnOK Tryd.prog 128 = true := by kernel_rfl
theorem fok_86 : fnOK Tryd.prog 86 = true := by kernel_rfl
theorem fok_142 : fnOK Tryd.prog 142 = true := by kernel_rfl
theorem fok_126 : fnOK Tryd.prog 126 = true := by kernel_rfl
theorem fok_98 : fnOK Tryd.prog 98 = true := by kernel_rfl
theorem fok_100 : fnOK Tryd.prog 100 = true := by kernel_rfl
theorem fok_127 : fnOK Tryd.prog 127 = true := by kernel_rfl
theorem fok_99 : fnOK Tryd.prog 99 = true := by kernel_rfl
theorem fok_65 : fnOK Tryd.prog 65 = true := by kernel_rfl
theorem fok_101 : fnOK Tryd.prog 101 = true := by kernel_rfl
theorem fok_68 : fnOK Tryd.prog 68 = true := by kernel_rfl
theorem fok_74 : fnOK Tryd.prog 74 = true := by kernel_rfl
theorem tm_127 : tmap Tryd.prog 127 = some (3, .i64, 129) := by kernel_rfl
theorem ti_129 : tinf Tryd.prog 129 = some (true, 0, 0, .agg #[]) := by kernel_rfl
theorem fok_38 : fnOK Tryd.prog 38 = true := by kernel_rfl
theorem fok_48 : fnOK Tryd.prog 48 = true := by kernel_rfl
theorem fok_103 : fnOK Tryd.prog 103 = true := by kernel_rfl
theorem fok_71 : fnOK Tryd.prog 71 = true := by kernel_rfl
theorem fok_36 : fnOK Tryd.prog 36 = true := by kernel_rfl
theorem ti_73 : tinf Tryd.prog 73 = some (true, 4, 32, .agg #[.int .u64 0, .int .u64 0, .int .u64 0, .int .u64 0]) := by kernel_rfl
theorem fok_31 : fnOK Tryd.prog 31 = true := by kernel_rfl
theorem fok_34 : fnOK Tryd.prog 34 = true := by kernel_rfl
theorem fok_44 : fnOK Tryd.prog 44 = true := by kernel_rfl
theorem fok_46 : fnOK Tryd.prog 46 = true := by kernel_rfl
theorem ts_44 : tsl Tryd.prog 44 = some 30 := by kernel_rfl
theorem ts_40 : tsl Tryd.prog 40 = some 44 := by kernel_rfl
theorem ti_44 : tinf Tryd.prog 44 = some (false, 1, 24, .slice none 0 0) := by kernel_rfl
theorem fok_107 : fnOK Tryd.prog 107 = true := by kernel_rfl
theorem fok_76 : fnOK Tryd.prog 76 = true := by kernel_rfl
theorem fok_47 : fnOK Tryd.prog 47 = true := by kernel_rfl
theorem fok_40 : fnOK Tryd.prog 40 = true := by kernel_rfl
theorem c_privityref01_exps  {r : (List Int)} (h : privityref01_exps = some r) : Ct Tryd.prog 149 [] [] (fun v L => ∃ w0 : Value, v = w0 ∧ L = [ownV Kd.i64 3 w0 r]) := by
 refine ct_intro Tryd.func149 rfl kr (fun F => ?_)
 unfold privityref01_exps at h
 refine wh_seq ?_
 refine wh_region ?_
 refine w_p Tb_ok 1 kr ?_
 refine wi_end kr ?_
 refine qh_then ?_
 refine wh_seq ?_
 refine wh_region ?_
 refine w_lt (kd := Kd.i64) (t := 25) (len := 7) (ps0 := [(0, .int .i64 ((5 : Nat) : Int)), (1, .int .i64 ((7 : Nat) : Int)), (2, .int .i64 ((13 : Nat) : Int)), (3, .int .i64 ((17 : Nat) : Int)), (4, .int .i64 ((19 : Nat) : Int)), (5, .int .i64 ((31 : Nat) : Int)), (6, .int .i64 ((61 : Nat) : Int))]) (ps := [(0, .int .i64 ((5 : Nat) : Int)), (1, .int .i64 ((7 : Nat) : Int)), (2, .int .i64 ((13 : Nat) : Int)), (3, .int .i64 ((17 : Nat) : Int)), (4, .int .i64 ((19 : Nat) : Int)), (5, .int .i64 ((31 : Nat) : Int)), (6, .int .i64 ((61 : Nat) : Int))]) ([((5 : Nat) : Int), ((7 : Nat) : Int), ((13 : Nat) : Int), ((17 : Nat) : Int), ((19 : Nat) : Int), ((31 : Nat) : Int), ((61 : Nat) : Int)] : List Int) _ (rowC (x := ((5 : Nat) : Int)) (g := ()) (it0 rfl) (rowC (x := ((7 : Nat) : Int)) (g := ()) (it0 rfl) (rowC (x := ((13 : Nat) : Int)) (g := ()) (it0 rfl) (rowC (x := ((17 : Nat) : Int)) (g := ()) (it0 rfl) (rowC (x := ((19 : Nat) : Int)) (g := ()) (it0 rfl) (rowC (x := ((31 : Nat) : Int)) (g := ()) (it0 rfl) (rowC (x := ((61 : Nat) : Int)) (g := ()) (it0 rfl) row0))))))) (scI (scI (scI (scI (scI (scI (scI sc0))))))) kr ts_25 ti_3 kr rfl rfl (fun v1 => ?_)
 refine w_p Tb_ok 1 kr ?_
 refine wi_end kr ?_
 refine qh_then ?_
 refine wh_ret ?_
 have h := Option.some.inj h; subst h
 exact q_end (l := [v1]) [(0, false)] 0 ⟨v1, rfl, rfl⟩ (.inl rfl) kr kr kr
theorem c_privityref01_Exponent {p_p : Nat} {r : Int} (h : privityref01_Exponent p_p = some r) : Ct Tryd.prog 144 [.int .u64 p_p] [] (fun v L => v = .int .i64 r ∧ L = []) := by
 refine ct_intro Tryd.func144 rfl kr (fun F => ?_)
 unfold privityref01_Exponent at h
 refine wh_seq ?_
 refine wh_region ?_
 refine w_p Tb_ok 1 kr ?_
 refine wi_end kr ?_
 refine qh_then ?_
 refine wh_seq ?_
 refine wh_region ?_
 obtain ⟨r1, er1, h1⟩ := bnd h
 refine w_fn [] (c_privityref01_exps er1) rfl fok_149 kr ?_
 rintro _ _ ⟨w1, hv, rfl⟩; have hv := hv.symm; subst hv
 refine w_p Tb_ok 1 kr ?_
 refine wi_end kr ?_
 refine qh_then ?_
 refine wh_seq ?_
 refine wh_seq ?_
 refine wh_region ?_
 refine w_p Tb_ok 1 kr ?_
 refine wi_end kr ?_
 refine qh_then ?_
 refine h_lenle (own_lenle 0 rfl) (fun hN1 => ?_)
 obtain ⟨r2, el1, h2⟩ := bnd h1
 refine h_join (X := Unit × Unit) (fun g => []) (fun g => [] ++ F) (fun g => r2 = .go g.2) ?_ ?_
 ·
  refine wh_block ?_
  refine h_rg (fun (k1 : Nat) (st : Unit) (g : Unit) => [(0, .int .u64 p_p), (3, w1), (4, .int .i64 ((k1 : Nat) : Int))]) (fun (k1 : Nat) (st : Unit) (g : Unit) => [ownV Kd.i64 3 w1 r1] ++ F) () el1 (Nat.zero_le _) aK (tH [(0, false)] 0) ?_ ?_
  ·
   rintro ⟨⟩ ⟨⟩ hr1 j
   refine wh_seq ?_
   refine wh_seq ?_
   refine wh_region ?_
   refine w_p Tb_ok 2 kr ?_
   refine w_len (own_hd 0 rfl) kr ts_25 ?_
   refine w_p Tb_ok 1 kr ?_
   refine wi_end kr ?_
   refine qh_then ?_
   refine h_cf (b := (decide ((((r1.length) : Nat) : Int) < ((r1.length : Nat) : Int)))) rgF kr ?_
   refine wh_exit ?_
   refine qh_then_exit ?_
   refine q_rzX ?_
   refine qh_block_exit ?_
   exact q_join ((), ()) hr1 aK (tH [] 1)
  ·
   rintro rem k1 ⟨⟩ ⟨⟩ o1 hk1 h3 hn1 j
   have h3 : privityref01_Exponent_L0 p_p r1 k1 = some o1 := h3
   unfold privityref01_Exponent_L0 at h3
   refine wh_seq ?_
   refine wh_seq ?_
   refine wh_region ?_
   refine w_p Tb_ok 2 kr ?_
   refine w_len (own_hd 0 rfl) kr ts_25 ?_
   refine w_p Tb_ok 1 kr ?_
   refine wi_end kr ?_
   refine qh_then ?_
   refine h_ct (b := (decide (((k1 : Nat) : Int) < ((r1.length : Nat) : Int)))) (rgT hk1) kr ?_
   refine wh_skip ?_
   refine qh_then ?_
   refine wh_seq ?_
   refine wh_block ?_
   refine wh_seq ?_
   refine wh_region ?_
   refine w_p Tb_ok 3 kr ?_
   obtain ⟨x1, ex1, h4⟩ := bnd h3
   refine w_ix (k := .i64) (own_hd 0 rfl) (nbd ex1) rfl kr ts_25 ti_3 ?_
   refine w_ldO 0 0 rfl ex1 kr ti_3 rfl rfl ?_
   rintro _
   obtain ⟨x2, ex2, h5⟩ := bnd h4
   refine w_cv Tb_ok (ecU ex2) kr ?_
   obtain ⟨x3, ex3, h6⟩ := bnd h5
   refine w_sh (yk := .u64) (.inl rfl) (zshl ex3) kr ?_
   obtain ⟨x4, ex4, h7⟩ := bnd h6
   refine w_bi (esubU ex4) kr ?_
   refine w_p Tb_ok 1 kr ?_
   refine wi_end kr ?_
   refine qh_then ?_
   rcases bcase h7 with ⟨t1, h8⟩ | ⟨t1, h8⟩
   ·
    refine h_ct (b := (((p_p : Nat) : Int) == ((x4 : Nat) : Int))) t1 kr ?_
    refine wh_seq ?_
    refine wh_region ?_
    refine w_p Tb_ok 2 kr ?_
    refine w_ix (k := .i64) (own_hd 0 rfl) (nbd ex1) rfl kr ts_25 ti_3 ?_
    refine w_ldO 0 0 rfl ex1 kr ti_3 rfl rfl ?_
    rintro _
    refine w_p Tb_ok 1 kr ?_
    refine wi_end kr ?_
    refine qh_then ?_
    refine wh_ret ?_
    refine qh_block_ret ?_
    refine qh_then_ret ?_
    refine q_rgR ?_
    refine qh_block_ret ?_
    refine q_joinR ?_
    refine qh_then_ret ?_
    have h8 := Option.some.inj h8; subst h8
    have hn := (show _ = _ from hn1); subst hn
    have h2 := Option.some.inj (show some _ = some _ from h2); subst h2
    exact q_end (l := [.int .i64 x1]) [] 1 ⟨rfl, rfl⟩ (.inl rfl) kr kr kr
   ·
    refine h_cf (b := (((p_p : Nat) : Int) == ((x4 : Nat) : Int))) t1 kr ?_
    refine wh_skip ?_
    refine qh_block_normal ?_
    refine qh_then ?_
    refine wh_region ?_
    refine w_p Tb_ok 1 kr ?_
    refine w_bi (zinc hk1 hN1) kr ?_
    refine w_p Tb_ok 1 kr ?_
    refine wi_end kr ?_
    have h8 := Option.some.inj h8; subst h8
    exact q_rgo () hn1 aK (tH [(0, false)] 0)
 ·
  rintro ⟨⟨⟩, ⟨⟩⟩ hc j
  subst hc
  refine qh_then ?_
  refine wh_seq ?_
  refine wh_region ?_
  refine w_p Tb_ok 1 kr ?_
  refine wi_end kr ?_
  refine qh_then ?_
  refine wh_ret ?_
  have h2 := Option.some.inj h2; subst h2
  exact q_end (l := [.int .i64 ((0 : Nat) : Int)]) [] 0 ⟨rfl, rfl⟩ (.inl rfl) kr kr kr
theorem c_privityref01_Supported {p_p : Nat} {r : Bool} (h : privityref01_Supported p_p = some r) : Ct Tryd.prog 129 [.int .u64 p_p] [] (fun v L => v = .bool r ∧ L = []) := by
 refine ct_intro Tryd.func129 rfl kr (fun F => ?_)
 unfold privityref01_Supported at h
 refine wh_seq ?_
 refine wh_region ?_
 refine w_p Tb_ok 1 kr ?_
 refine wi_end kr ?_
 refine qh_then ?_
 refine wh_seq ?_
 refine wh_region ?_
 refine w_p Tb_ok 1 kr ?_
 obtain ⟨r1, er1, h1⟩ := bnd h
 refine w_fn [] (c_privityref01_Exponent er1) rfl fok_144 kr ?_
 rintro _ _ ⟨hv, rfl⟩; have hv := hv.symm; subst hv
 refine w_p Tb_ok 2 kr ?_
 refine wi_end kr ?_
 refine qh_then ?_
 refine wh_ret ?_
 have h1 := Option.some.inj h1; subst h1
 exact q_end (l := [.bool (decide (r1 > (0 : Int)))]) [] 0 ⟨rfl, rfl⟩ (.inl rfl) kr kr kr
theorem c_privityref12_Valid {p_s : T_api_Params} {r : Bool} (h : privityref12_Valid p_s = some r) : Ct Tryd.prog 104 [.agg #[.int .u64 p_s.P, .int .i64 p_s.N, .int .i64 p_s.T]] [] (fun v L => v = .bool r ∧ L = []) := by
 refine ct_intro Tryd.func104 rfl kr (fun F => ?_)
 unfold privityref12_Valid at h
 refine wh_seq ?_
 refine wh_region ?_
 refine w_box (t := 24) (v := .agg #[.int .u64 p_s.P, .int .i64 p_s.N, .int .i64 p_s.T]) (cs := [.int .u64 p_s.P, .int .i64 p_s.N, .int .i64 p_s.T]) (cv0 kr) kr (fun q1 => ?_)
 refine WI.hd (y := blkP q1 24 [.int .u64 p_s.P, .int .i64 p_s.N, .int .i64 p_s.T]) kr ?_
 refine w_opP 0 rfl (fun b1 hb => ?_)
 subst hb
 refine w_p Tb_ok 1 kr ?_
 refine wi_end kr ?_
 refine qh_then ?_
 refine wh_seq ?_
 refine wh_region ?_
 refine w_p Tb_ok 1 kr ?_
 refine w_ldB 0 0 rfl kr ti_22 rfl rfl ?_
 obtain ⟨r1, er1, h1⟩ := bnd h
 refine w_fn [] (c_privityref01_Supported er1) rfl fok_129 kr ?_
 rintro _ _ ⟨hv, rfl⟩; have hv := hv.symm; subst hv
 refine w_p Tb_ok 1 kr ?_
 rcases bcase h1 with ⟨t1, h2⟩ | ⟨t1, h2⟩
 ·
  refine w_kb (t := 6) t1 kr ?_
  refine w_p Tb_ok 1 kr ?_
  refine w_ldB 0 1 rfl kr ti_3 rfl rfl ?_
  refine w_p Tb_ok 3 kr ?_
  rcases bcase h2 with ⟨t2, h3⟩ | ⟨t2, h3⟩
  ·
   refine w_kb (t := 11) t2 kr ?_
   refine w_p Tb_ok 1 kr ?_
   refine w_ldB 0 1 rfl kr ti_3 rfl rfl ?_
   refine w_p Tb_ok 3 kr ?_
   rcases bcase h3 with ⟨t3, h4⟩ | ⟨t3, h4⟩
   ·
    refine w_kb (t := 16) t3 kr ?_
    refine w_p Tb_ok 1 kr ?_
    refine w_ldB 0 1 rfl kr ti_3 rfl rfl ?_
    obtain ⟨x1, ex1, h5⟩ := bnd h4
    refine w_cv Tb_ok (ecU ex1) kr ?_
    refine w_p Tb_ok 1 kr ?_
    refine w_ldB 0 0 rfl kr ti_22 rfl rfl ?_
    refine w_p Tb_ok 3 kr ?_
    rcases bcase h5 with ⟨t4, h6⟩ | ⟨t4, h6⟩
    ·
     refine w_kb (t := 24) t4 kr ?_
     refine w_p Tb_ok 1 kr ?_
     refine w_ldB 0 2 rfl kr ti_3 rfl rfl ?_
     refine w_p Tb_ok 3 kr ?_
     rcases bcase h6 with ⟨t5, h7⟩ | ⟨t5, h7⟩
     ·
      refine w_kb (t := 29) t5 kr ?_
      refine w_p Tb_ok 1 kr ?_
      refine w_ldB 0 2 rfl kr ti_3 rfl rfl ?_
      refine w_p Tb_ok 1 kr ?_
      refine w_ldB 0 1 rfl kr ti_3 rfl rfl ?_
      refine w_p Tb_ok 3 kr ?_
      rcases bcase h7 with ⟨t6, h8⟩ | ⟨t6, h8⟩
      ·
       refine w_kb (t := 36) t6 kr ?_
       refine w_p Tb_ok 1 kr ?_
       refine w_ldB 0 2 rfl kr ti_3 rfl rfl ?_
       obtain ⟨x2, ex2, h9⟩ := bnd h8
       refine w_bi (zmulI ex2) kr ?_
       refine w_p Tb_ok 1 kr ?_
       refine w_ldB 0 1 rfl kr ti_3 rfl rfl ?_
       refine w_p Tb_ok 3 kr ?_
       refine wi_end kr ?_
       refine qh_then ?_
       refine wh_ret ?_
       have h9 := Option.some.inj h9; subst h9
       exact q_end (l := [.bool (decide (x2 < p_s.N))]) [] 1 ⟨rfl, rfl⟩ (.inl rfl) kr kr kr
      ·
       refine w_kb (t := 36) t6 kr ?_
       refine w_p Tb_ok 8 kr ?_
       refine wi_end kr ?_
       refine qh_then ?_
       refine wh_ret ?_
       have h8 := Option.some.inj h8; subst h8
       exact q_end (l := [.bool false]) [] 1 ⟨rfl, rfl⟩ (.inl rfl) kr kr kr
     ·
      refine w_kb (t := 29) t5 kr ?_
      refine w_p Tb_ok 15 kr ?_
      refine wi_end kr ?_
      refine qh_then ?_
      refine wh_ret ?_
      have h7 := Option.some.inj h7; subst h7
      exact q_end (l := [.bool false]) [] 1 ⟨rfl, rfl⟩ (.inl rfl) kr kr kr
    ·
     refine w_kb (t := 24) t4 kr ?_
     refine w_p Tb_ok 20 kr ?_
     refine wi_end kr ?_
     refine qh_then ?_
     refine wh_ret ?_
     have h6 := Option.some.inj h6; subst h6
     exact q_end (l := [.bool false]) [] 1 ⟨rfl, rfl⟩ (.inl rfl) kr kr kr
   ·
    refine w_kb (t := 16) t3 kr ?_
    refine w_p Tb_ok 28 kr ?_
    refine wi_end kr ?_
    refine qh_then ?_
    refine wh_ret ?_
    have h4 := Option.some.inj h4; subst h4
    exact q_end (l := [.bool false]) [] 1 ⟨rfl, rfl⟩ (.inl rfl) kr kr kr
  ·
   refine w_kb (t := 11) t2 kr ?_
   refine w_p Tb_ok 33 kr ?_
   refine wi_end kr ?_
   refine qh_then ?_
   refine wh_ret ?_
   have h3 := Option.some.inj h3; subst h3
   exact q_end (l := [.bool false]) [] 1 ⟨rfl, rfl⟩ (.inl rfl) kr kr kr
 ·
  refine w_kb (t := 6) t1 kr ?_
  refine w_p Tb_ok 38 kr ?_
  refine wi_end kr ?_
  refine qh_then ?_
  refine wh_ret ?_
  have h2 := Option.some.inj h2; subst h2
  exact q_end (l := [.bool false]) [] 1 ⟨rfl, rfl⟩ (.inl rfl) kr kr kr
theorem c_privityref12_ValidCoalition {p_s : T_api_Params} {p_l : List Int} {vp_l_1 : Value} {r : Bool} (h : privityref12_ValidCoalition p_s p_l = some r) : Ct Tryd.prog 105 [.agg #[.int .u64 p_s.P, .int .i64 p_s.N, .int .i64 p_s.T], vp_l_1] [rdV Kd.i64 vp_l_1 p_l] (fun v L => v = .bool r ∧ L = []) := by
 refine ct_intro Tryd.func105 rfl kr (fun F => ?_)
 unfold privityref12_ValidCoalition at h
 refine wh_seq ?_
 refine wh_region ?_
 refine w_box (t := 24) (v := .agg #[.int .u64 p_s.P, .int .i64 p_s.N, .int .i64 p_s.T]) (cs := [.int .u64 p_s.P, .int .i64 p_s.N, .int .i64 p_s.T]) (cv0 kr) kr (fun q1 => ?_)
 refine WI.hd (y := blkP q1 24 [.int .u64 p_s.P, .int .i64 p_s.N, .int .i64 p_s.T]) kr ?_
 refine w_opP 0 rfl (fun b1 hb => ?_)
 subst hb
 refine w_p Tb_ok 1 kr ?_
 refine wi_end kr ?_
 refine qh_then ?_
 refine wh_seq ?_
 refine wh_seq ?_
 obtain ⟨x1, ej1, h1⟩ := bnd h
 refine h_join (X := Unit) (fun g => [(1, vp_l_1), (2, (.pointer (some ⟨b1, 0, none⟩))), (15, .bool x1)]) (fun g => [rdV Kd.i64 vp_l_1 p_l, blkP (.pointer (some ⟨b1, 0, none⟩)) 24 [.int .u64 p_s.P, .int .i64 p_s.N, .int .i64 p_s.T]] ++ F) (fun _ => True) ?_ ?_
 ·
  refine wh_region ?_
  refine w_ldB 0 0 rfl kr ti_24 rfl rfl ?_
  obtain ⟨r1, er1, h2⟩ := bnd ej1
  refine w_fn [] (c_privityref12_Valid er1) rfl fok_104 kr ?_
  rintro _ _ ⟨hv, rfl⟩; have hv := hv.symm; subst hv
  refine w_p Tb_ok 2 kr ?_
  rcases bcase h2 with ⟨t1, h3⟩ | ⟨t1, h3⟩
  ·
   refine w_kb (t := 9) t1 kr ?_
   refine w_p Tb_ok 6 kr ?_
   refine wi_end kr ?_
   cases h3
   exact q_join () trivial aK (tH [(1, true), (0, false)] 1)
  ·
   refine w_kb (t := 9) t1 kr ?_
   refine w_p Tb_ok 1 kr ?_
   refine w_len (rd_hd 1 rfl) kr ts_25 ?_
   refine w_p Tb_ok 1 kr ?_
   refine w_ldB 0 2 rfl kr ti_3 rfl rfl ?_
   refine w_p Tb_ok 2 kr ?_
   refine wi_end kr ?_
   cases h3
   exact q_join () trivial aK (tH [(1, true), (0, false)] 1)
 ·
  rintro ⟨⟩ - j
  refine qh_then ?_
  rcases bcase h1 with ⟨t2, h4⟩ | ⟨t2, h4⟩
  ·
   refine h_ct (b := x1) t2 kr ?_
   refine wh_seq ?_
   refine wh_region ?_
   refine w_p Tb_ok 1 kr ?_
   refine wi_end kr ?_
   refine qh_then ?_
   refine wh_ret ?_
   refine qh_then_ret ?_
   have h4 := Option.some.inj h4; subst h4
   exact q_end (l := [.bool false]) [] 2 ⟨rfl, rfl⟩ (.inl rfl) kr kr kr
  ·
   refine h_cf (b := x1) t2 kr ?_
   refine wh_skip ?_
   refine qh_then ?_
   refine wh_seq ?_
   refine wh_seq ?_
   refine wh_region ?_
   refine w_p Tb_ok 1 kr ?_
   refine wi_end kr ?_
   refine qh_then ?_
   refine h_lenle (rd_lenle 0 rfl) (fun hN1 => ?_)
   obtain ⟨r2, el1, h5⟩ := bnd h4
   refine h_join (X := Unit × Unit) (fun g => []) (fun g => [] ++ F) (fun g => r2 = .go g.2) ?_ ?_
   ·
    refine wh_block ?_
    refine h_rg (fun (k1 : Nat) (st : Unit) (g : Unit) => [(1, vp_l_1), (2, (.pointer (some ⟨b1, 0, none⟩))), (5, .int .i64 ((k1 : Nat) : Int))]) (fun (k1 : Nat) (st : Unit) (g : Unit) => [rdV Kd.i64 vp_l_1 p_l, blkP (.pointer (some ⟨b1, 0, none⟩)) 24 [.int .u64 p_s.P, .int .i64 p_s.N, .int .i64 p_s.T]] ++ F) () el1 (Nat.zero_le _) aK (tH [(0, true), (1, false)] 1) ?_ ?_
    ·
     rintro ⟨⟩ ⟨⟩ hr1 j
     refine wh_seq ?_
     refine wh_seq ?_
     refine wh_region ?_
     refine w_p Tb_ok 2 kr ?_
     refine w_len (rd_hd 0 rfl) kr ts_25 ?_
     refine w_p Tb_ok 1 kr ?_
     refine wi_end kr ?_
     refine qh_then ?_
     refine h_cf (b := (decide ((((p_l.length) : Nat) : Int) < ((p_l.length : Nat) : Int)))) rgF kr ?_
     refine wh_exit ?_
     refine qh_then_exit ?_
     refine q_rzX ?_
     refine qh_block_exit ?_
     exact q_join ((), ()) hr1 aK (tH [] 2)
    ·
     rintro rem k1 ⟨⟩ ⟨⟩ o1 hk1 h6 hn1 j
     have h6 : privityref12_ValidCoalition_L0 p_s p_l k1 = some o1 := h6
     unfold privityref12_ValidCoalition_L0 at h6
     refine wh_seq ?_
     refine wh_seq ?_
     refine wh_region ?_
     refine w_p Tb_ok 2 kr ?_
     refine w_len (rd_hd 0 rfl) kr ts_25 ?_
     refine w_p Tb_ok 1 kr ?_
     refine wi_end kr ?_
     refine qh_then ?_
     refine h_ct (b := (decide (((k1 : Nat) : Int) < ((p_l.length : Nat) : Int)))) (rgT hk1) kr ?_
     refine wh_skip ?_
     refine qh_then ?_
     refine wh_seq ?_
     refine wh_block ?_
     refine wh_seq ?_
     obtain ⟨x2, ex2, h7⟩ := bnd h6
     rcases bcase h7 with ⟨t3, h8⟩ | ⟨t3, h8⟩
     ·
      refine h_flow [0, 0, 3, 7, 15, 31, 63, 63, 255, 511, 63, 1087, 4095, 8191, 16383, 32767, 65535, 131071, 262143, 262143, 1048575, 2097151, 262143, 262143, 8650751, 29622271, 63176703, 134217727, 268435455, 536870911] ⟨2, [0, 0, 0, 0, 0, 0, 0, 0, 0, 0, 0, 0, 0, 0, 0, 0, 0, 0, 0, 0, 0, 0, 0, 0, 0, 0, 0, 0, 0, 0], [], [], [(2, [(0, 0)]), (3, [(0, 0)])]⟩ (fun γ => [vp_l_1, .int .i64 ((k1 : Nat) : Int), .pointer (some (elV vp_l_1 (k1 * Kd.i64.size))), .int .i64 x2, .bool (decide (x2 < (1 : Int))), .bool true, undef, undef, undef, undef, undef, undef, undef, .bool true, .bool true, undef, undef, undef, undef, undef, undef, undef, undef, undef, undef, undef, undef, undef, undef, .bool true]) (fun _ _ => []) (fun γ => [rdV Kd.i64 vp_l_1 p_l, blkP (.pointer (some ⟨b1, 0, none⟩)) 24 [.int .u64 p_s.P, .int .i64 p_s.N, .int .i64 p_s.T]] ++ F) [0, 1, 4, 6, 7, 8, 9, 10, 11, 12, 13, 14, 15, 16, 17, 18, 19, 20, 21, 22, 23, 24, 25, 26, 27, 28, 29] tryd_mix Tb_ok kr kr (fun _ => by kernel_rfl) (fun _ => by kernel_rfl) (fun _ => by kernel_rfl) (fun _ => by kernel_rfl) (fun _ => by kernel_rfl) (fun _ => by kernel_rfl) (fun _ => by kernel_rfl) ?_ ?_
      ·
       refine ⟨?_, ?_, ?_, trivial⟩
       ·
        intro γ F
        refine WI.reH (H' := [rdV Kd.i64 vp_l_1 p_l] ++ F) kr ?_
        refine w_ix (k := .i64) (rd_hd 0 rfl) (nbd ex2) rfl kr ts_25 ti_3 ?_
        exact wE (gl []) [] 1
       ·
        intro γ F
        refine WI.reH (H' := [rdV Kd.i64 vp_l_1 p_l] ++ F) kr ?_
        refine w_ldR 0 0 rfl ex2 kr ti_3 rfl rfl ?_
        rintro _
        exact wE (gl []) [] 1
       ·
        intro γ F
        refine WI.reH (H' := [] ++ F) kr ?_
        refine w_pk Tb_ok (congrArg Value.bool t3) kr ?_
        exact wE (gl []) [] 0
      ·
       intro γ1
       refine qh_then ?_
       refine h_ct (b := true) rfl kr ?_
       refine wh_seq ?_
       refine wh_region ?_
       refine w_p Tb_ok 1 kr ?_
       refine wi_end kr ?_
       refine qh_then ?_
       refine wh_ret ?_
       refine qh_block_ret ?_
       refine qh_then_ret ?_
       refine q_rgR ?_
       refine qh_block_ret ?_
       refine q_joinR ?_
       refine qh_then_ret ?_
       have h8 := Option.some.inj h8; subst h8
       have hn := (show _ = _ from hn1); subst hn
       have h5 := Option.some.inj (show some _ = some _ from h5); subst h5
       exact q_end (l := [.bool false]) [] 2 ⟨rfl, rfl⟩ (.inl rfl) kr kr kr
     ·
      rcases bcase h8 with ⟨t4, h9⟩ | ⟨t4, h9⟩
      ·
       refine h_flow [0, 0, 3, 7, 15, 31, 63, 63, 255, 511, 63, 1087, 4095, 8191, 16383, 32767, 65535, 131071, 262143, 262143, 1048575, 2097151, 262143, 262143, 8650751, 29622271, 63176703, 134217727, 268435455, 536870911] ⟨2, [0, 0, 0, 0, 0, 0, 0, 0, 0, 0, 0, 0, 0, 0, 0, 0, 0, 0, 0, 0, 0, 0, 0, 0, 0, 0, 0, 0, 0, 0], [], [(11, [(0, 1)])], [(2, [(0, 0)]), (3, [(0, 0)]), (8, [(0, 0)]), (9, [(0, 0)])]⟩ (fun γ => [vp_l_1, .int .i64 ((k1 : Nat) : Int), .pointer (some (elV vp_l_1 (k1 * Kd.i64.size))), .int .i64 x2, .bool (decide (x2 < (1 : Int))), .bool false, vp_l_1, .int .i64 ((k1 : Nat) : Int), .pointer (some (elV vp_l_1 (k1 * Kd.i64.size))), .int .i64 x2, .pointer (some ⟨b1, 1, none⟩), .int .i64 p_s.N, .bool (decide (x2 > p_s.N)), .bool (decide (x2 > p_s.N)), .bool true, undef, undef, undef, undef, undef, undef, undef, undef, undef, undef, undef, undef, undef, undef, .bool true]) (fun _ _ => []) (fun γ => [rdV Kd.i64 vp_l_1 p_l, blkP (.pointer (some ⟨b1, 0, none⟩)) 24 [.int .u64 p_s.P, .int .i64 p_s.N, .int .i64 p_s.T]] ++ F) [0, 1, 4, 6, 7, 10, 12, 13, 15, 16, 17, 18, 19, 20, 21, 22, 23, 24, 25, 26, 27, 28, 29] tryd_mix Tb_ok kr kr (fun _ => by kernel_rfl) (fun _ => by kernel_rfl) (fun _ => by kernel_rfl) (fun _ => by kernel_rfl) (fun _ => by kernel_rfl) (fun _ => by kernel_rfl) (fun _ => by kernel_rfl) ?_ ?_
       ·
        refine ⟨?_, ?_, ?_, ?_, ?_, ?_, ?_, trivial⟩
        ·
         intro γ F
         refine WI.reH (H' := [rdV Kd.i64 vp_l_1 p_l] ++ F) kr ?_
         refine w_ix (k := .i64) (rd_hd 0 rfl) (nbd ex2) rfl kr ts_25 ti_3 ?_
         exact wE (gl []) [] 1
        ·
         intro γ F
         refine WI.reH (H' := [rdV Kd.i64 vp_l_1 p_l] ++ F) kr ?_
         refine w_ldR 0 0 rfl ex2 kr ti_3 rfl rfl ?_
         rintro _
         exact wE (gl []) [] 1
        ·
         intro γ F
         refine WI.reH (H' := [] ++ F) kr ?_
         refine w_pk Tb_ok (congrArg Value.bool t3) kr ?_
         exact wE (gl []) [] 0
        ·
         intro γ F
         refine WI.reH (H' := [rdV Kd.i64 vp_l_1 p_l] ++ F) kr ?_
         refine w_ix (k := .i64) (rd_hd 0 rfl) (nbd ex2) rfl kr ts_25 ti_3 ?_
         exact wE (gl []) [] 1
        ·
         intro γ F
         refine WI.reH (H' := [rdV Kd.i64 vp_l_1 p_l] ++ F) kr ?_
         refine w_ldR 0 0 rfl ex2 kr ti_3 rfl rfl ?_
         rintro _
         exact wE (gl []) [] 1
        ·
         intro γ F
         refine WI.reH (H' := [blkP (.pointer (some ⟨b1, 0, none⟩)) 24 [.int .u64 p_s.P, .int .i64 p_s.N, .int .i64 p_s.T]] ++ F) kr ?_
         refine w_ldB 0 1 rfl kr ti_3 rfl rfl ?_
         exact wE (gl []) [(0, false)] 0
        ·
         intro γ F
         refine WI.reH (H' := [] ++ F) kr ?_
         refine w_pk Tb_ok (congrArg Value.bool t4) kr ?_
         exact wE (gl []) [] 0
       ·
        intro γ2
        refine qh_then ?_
        refine h_ct (b := true) rfl kr ?_
        refine wh_seq ?_
        refine wh_region ?_
        refine w_p Tb_ok 1 kr ?_
        refine wi_end kr ?_
        refine qh_then ?_
        refine wh_ret ?_
        refine qh_block_ret ?_
        refine qh_then_ret ?_
        refine q_rgR ?_
        refine qh_block_ret ?_
        refine q_joinR ?_
        refine qh_then_ret ?_
        have h9 := Option.some.inj h9; subst h9
        have hn := (show _ = _ from hn1); subst hn
        have h5 := Option.some.inj (show some _ = some _ from h5); subst h5
        exact q_end (l := [.bool false]) [] 2 ⟨rfl, rfl⟩ (.inl rfl) kr kr kr
      ·
       rcases bcase h9 with ⟨t5, h10⟩ | ⟨t5, h10⟩
       ·
        obtain ⟨x3, ex3, h11⟩ := bnd h10
        obtain ⟨x4, ex4, h12⟩ := bnd h11
        refine h_flow [0, 0, 3, 7, 15, 31, 63, 63, 255, 511, 63, 1087, 4095, 8191, 16383, 32767, 65535, 131071, 262143, 262143, 1048575, 2097151, 262143, 262143, 8650751, 29622271, 63176703, 134217727, 268435455, 536870911] ⟨2, [0, 0, 0, 0, 0, 0, 0, 0, 0, 0, 0, 0, 0, 0, 0, 0, 0, 0, 0, 0, 0, 0, 0, 0, 0, 0, 0, 0, 0, 0], [], [(11, [(0, 1)])], [(2, [(0, 0)]), (3, [(0, 0)]), (8, [(0, 0)]), (9, [(0, 0)]), (20, [(0, 0)]), (21, [(0, 0)]), (25, [(0, 0)]), (26, [(0, 0)])]⟩ (fun γ => [vp_l_1, .int .i64 ((k1 : Nat) : Int), .pointer (some (elV vp_l_1 (k1 * Kd.i64.size))), .int .i64 x2, .bool (decide (x2 < (1 : Int))), .bool false, vp_l_1, .int .i64 ((k1 : Nat) : Int), .pointer (some (elV vp_l_1 (k1 * Kd.i64.size))), .int .i64 x2, .pointer (some ⟨b1, 1, none⟩), .int .i64 p_s.N, .bool (decide (x2 > p_s.N)), .bool (decide (x2 > p_s.N)), .bool false, .int .i64 ((k1 : Nat) : Int), .bool (decide (((k1 : Nat) : Int) > (0 : Int))), .bool true, vp_l_1, .int .i64 ((k1 : Nat) : Int), .pointer (some (elV vp_l_1 (k1 * Kd.i64.size))), .int .i64 x2, vp_l_1, .int .i64 ((k1 : Nat) : Int), .int .i64 x3, .pointer (some (elV vp_l_1 (x3.toNat * Kd.i64.size))), .int .i64 x4, .bool (decide (x2 ≤ x4)), .bool (decide (x2 ≤ x4)), .bool (decide (x2 ≤ x4))]) (fun _ _ => []) (fun γ => [rdV Kd.i64 vp_l_1 p_l, blkP (.pointer (some ⟨b1, 0, none⟩)) 24 [.int .u64 p_s.P, .int .i64 p_s.N, .int .i64 p_s.T]] ++ F) [0, 1, 4, 6, 7, 10, 12, 13, 15, 16, 18, 19, 22, 23, 27, 28, 29] tryd_mix Tb_ok kr kr (fun _ => by kernel_rfl) (fun _ => by kernel_rfl) (fun _ => by kernel_rfl) (fun _ => by kernel_rfl) (fun _ => by kernel_rfl) (fun _ => by kernel_rfl) (fun _ => by kernel_rfl) ?_ ?_
        ·
         refine ⟨?_, ?_, ?_, ?_, ?_, ?_, ?_, ?_, ?_, ?_, ?_, ?_, ?_, trivial⟩
         ·
          intro γ F
          refine WI.reH (H' := [rdV Kd.i64 vp_l_1 p_l] ++ F) kr ?_
          refine w_ix (k := .i64) (rd_hd 0 rfl) (nbd ex2) rfl kr ts_25 ti_3 ?_
          exact wE (gl []) [] 1
         ·
          intro γ F
          refine WI.reH (H' := [rdV Kd.i64 vp_l_1 p_l] ++ F) kr ?_
          refine w_ldR 0 0 rfl ex2 kr ti_3 rfl rfl ?_
          rintro _
          exact wE (gl []) [] 1
         ·
          intro γ F
          refine WI.reH (H' := [] ++ F) kr ?_
          refine w_pk Tb_ok (congrArg Value.bool t3) kr ?_
          exact wE (gl []) [] 0
         ·
          intro γ F
          refine WI.reH (H' := [rdV Kd.i64 vp_l_1 p_l] ++ F) kr ?_
          refine w_ix (k := .i64) (rd_hd 0 rfl) (nbd ex2) rfl kr ts_25 ti_3 ?_
          exact wE (gl []) [] 1
         ·
          intro γ F
          refine WI.reH (H' := [rdV Kd.i64 vp_l_1 p_l] ++ F) kr ?_
          refine w_ldR 0 0 rfl ex2 kr ti_3 rfl rfl ?_
          rintro _
          exact wE (gl []) [] 1
         ·
          intro γ F
          refine WI.reH (H' := [blkP (.pointer (some ⟨b1, 0, none⟩)) 24 [.int .u64 p_s.P, .int .i64 p_s.N, .int .i64 p_s.T]] ++ F) kr ?_
          refine w_ldB 0 1 rfl kr ti_3 rfl rfl ?_
          exact wE (gl []) [(0, false)] 0
         ·
          intro γ F
          refine WI.reH (H' := [] ++ F) kr ?_
          refine w_pk Tb_ok (congrArg Value.bool t4) kr ?_
          exact wE (gl []) [] 0
         ·
          intro γ F
          refine WI.reH (H' := [] ++ F) kr ?_
          refine w_pk Tb_ok (congrArg Value.bool t5) kr ?_
          exact wE (gl []) [] 0
         ·
          intro γ F
          refine WI.reH (H' := [rdV Kd.i64 vp_l_1 p_l] ++ F) kr ?_
          refine w_ix (k := .i64) (rd_hd 0 rfl) (nbd ex2) rfl kr ts_25 ti_3 ?_
          exact wE (gl []) [] 1
         ·
          intro γ F
          refine WI.reH (H' := [rdV Kd.i64 vp_l_1 p_l] ++ F) kr ?_
          refine w_ldR 0 0 rfl ex2 kr ti_3 rfl rfl ?_
          rintro _
          exact wE (gl []) [] 1
         ·
          intro γ F
          refine WI.reH (H' := [] ++ F) kr ?_
          refine w_bi (zsubI ex3) kr ?_
          exact wE (gl []) [] 0
         ·
          intro γ F
          refine WI.reH (H' := [rdV Kd.i64 vp_l_1 p_l] ++ F) kr ?_
          refine w_ix (k := .i64) (rd_hd 0 rfl) (ib ex4) (iz ex4) kr ts_25 ti_3 ?_
          exact wE (gl []) [] 1
         ·
          intro γ F
          refine WI.reH (H' := [rdV Kd.i64 vp_l_1 p_l] ++ F) kr ?_
          refine w_ldR 0 0 rfl (ig ex4) kr ti_3 rfl rfl ?_
          rintro _
          exact wE (gl []) [] 1
        ·
         intro γ3
         refine qh_then ?_
         rcases bcase h12 with ⟨t6, h13⟩ | ⟨t6, h13⟩
         ·
          refine h_ct (b := (decide (x2 ≤ x4))) t6 kr ?_
          refine wh_seq ?_
          refine wh_region ?_
          refine w_p Tb_ok 1 kr ?_
          refine wi_end kr ?_
          refine qh_then ?_
          refine wh_ret ?_
          refine qh_block_ret ?_
          refine qh_then_ret ?_
          refine q_rgR ?_
          refine qh_block_ret ?_
          refine q_joinR ?_
          refine qh_then_ret ?_
          have h13 := Option.some.inj h13; subst h13
          have hn := (show _ = _ from hn1); subst hn
          have h5 := Option.some.inj (show some _ = some _ from h5); subst h5
          exact q_end (l := [.bool false]) [] 2 ⟨rfl, rfl⟩ (.inl rfl) kr kr kr
         ·
          refine h_cf (b := (decide (x2 ≤ x4))) t6 kr ?_
          refine wh_skip ?_
          refine qh_block_normal ?_
          refine qh_then ?_
          refine wh_region ?_
          refine w_p Tb_ok 1 kr ?_
          refine w_bi (zinc hk1 hN1) kr ?_
          refine w_p Tb_ok 1 kr ?_
          refine wi_end kr ?_
          have h13 := Option.some.inj h13; subst h13
          exact q_rgo () hn1 aK (tH [(0, true), (1, false)] 1)
       ·
        refine h_flow [0, 0, 3, 7, 15, 31, 63, 63, 255, 511, 63, 1087, 4095, 8191, 16383, 32767, 65535, 131071, 262143, 262143, 1048575, 2097151, 262143, 262143, 8650751, 29622271, 63176703, 134217727, 268435455, 536870911] ⟨2, [0, 0, 0, 0, 0, 0, 0, 0, 0, 0, 0, 0, 0, 0, 0, 0, 0, 0, 0, 0, 0, 0, 0, 0, 0, 0, 0, 0, 0, 0], [], [(11, [(0, 1)])], [(2, [(0, 0)]), (3, [(0, 0)]), (8, [(0, 0)]), (9, [(0, 0)])]⟩ (fun γ => [vp_l_1, .int .i64 ((k1 : Nat) : Int), .pointer (some (elV vp_l_1 (k1 * Kd.i64.size))), .int .i64 x2, .bool (decide (x2 < (1 : Int))), .bool false, vp_l_1, .int .i64 ((k1 : Nat) : Int), .pointer (some (elV vp_l_1 (k1 * Kd.i64.size))), .int .i64 x2, .pointer (some ⟨b1, 1, none⟩), .int .i64 p_s.N, .bool (decide (x2 > p_s.N)), .bool (decide (x2 > p_s.N)), .bool false, .int .i64 ((k1 : Nat) : Int), .bool (decide (((k1 : Nat) : Int) > (0 : Int))), .bool false, undef, undef, undef, undef, undef, undef, undef, undef, undef, undef, .bool false, .bool false]) (fun _ _ => []) (fun γ => [rdV Kd.i64 vp_l_1 p_l, blkP (.pointer (some ⟨b1, 0, none⟩)) 24 [.int .u64 p_s.P, .int .i64 p_s.N, .int .i64 p_s.T]] ++ F) [0, 1, 4, 6, 7, 10, 12, 13, 15, 16, 18, 19, 20, 21, 22, 23, 24, 25, 26, 27, 28, 29] tryd_mix Tb_ok kr kr (fun _ => by kernel_rfl) (fun _ => by kernel_rfl) (fun _ => by kernel_rfl) (fun _ => by kernel_rfl) (fun _ => by kernel_rfl) (fun _ => by kernel_rfl) (fun _ => by kernel_rfl) ?_ ?_
        ·
         refine ⟨?_, ?_, ?_, ?_, ?_, ?_, ?_, ?_, trivial⟩
         ·
          intro γ F
          refine WI.reH (H' := [rdV Kd.i64 vp_l_1 p_l] ++ F) kr ?_
          refine w_ix (k := .i64) (rd_hd 0 rfl) (nbd ex2) rfl kr ts_25 ti_3 ?_
          exact wE (gl []) [] 1
         ·
          intro γ F
          refine WI.reH (H' := [rdV Kd.i64 vp_l_1 p_l] ++ F) kr ?_
          refine w_ldR 0 0 rfl ex2 kr ti_3 rfl rfl ?_
          rintro _
          exact wE (gl []) [] 1
         ·
          intro γ F
          refine WI.reH (H' := [] ++ F) kr ?_
          refine w_pk Tb_ok (congrArg Value.bool t3) kr ?_
          exact wE (gl []) [] 0
         ·
          intro γ F
          refine WI.reH (H' := [rdV Kd.i64 vp_l_1 p_l] ++ F) kr ?_
          refine w_ix (k := .i64) (rd_hd 0 rfl) (nbd ex2) rfl kr ts_25 ti_3 ?_
          exact wE (gl []) [] 1
         ·
          intro γ F
          refine WI.reH (H' := [rdV Kd.i64 vp_l_1 p_l] ++ F) kr ?_
          refine w_ldR 0 0 rfl ex2 kr ti_3 rfl rfl ?_
          rintro _
          exact wE (gl []) [] 1
         ·
          intro γ F
          refine WI.reH (H' := [blkP (.pointer (some ⟨b1, 0, none⟩)) 24 [.int .u64 p_s.P, .int .i64 p_s.N, .int .i64 p_s.T]] ++ F) kr ?_
          refine w_ldB 0 1 rfl kr ti_3 rfl rfl ?_
          exact wE (gl []) [(0, false)] 0
         ·
          intro γ F
          refine WI.reH (H' := [] ++ F) kr ?_
          refine w_pk Tb_ok (congrArg Value.bool t4) kr ?_
          exact wE (gl []) [] 0
         ·
          intro γ F
          refine WI.reH (H' := [] ++ F) kr ?_
          refine w_pk Tb_ok (congrArg Value.bool t5) kr ?_
          exact wE (gl []) [] 0
        ·
         intro γ4
         refine qh_then ?_
         refine h_cf (b := false) rfl kr ?_
         refine wh_skip ?_
         refine qh_block_normal ?_
         refine qh_then ?_
         refine wh_region ?_
         refine w_p Tb_ok 1 kr ?_
         refine w_bi (zinc hk1 hN1) kr ?_
         refine w_p Tb_ok 1 kr ?_
         refine wi_end kr ?_
         have h10 := Option.some.inj h10; subst h10
         exact q_rgo () hn1 aK (tH [(0, true), (1, false)] 1)
   ·
    rintro ⟨⟨⟩, ⟨⟩⟩ hc j
    subst hc
    refine qh_then ?_
    refine wh_seq ?_
    refine wh_region ?_
    refine w_p Tb_ok 1 kr ?_
    refine wi_end kr ?_
    refine qh_then ?_
    refine wh_ret ?_
    have h5 := Option.some.inj h5; subst h5
    exact q_end (l := [.bool true]) [] 0 ⟨rfl, rfl⟩ (.inl rfl) kr kr kr
theorem c_privityref12_Deviation {p_s : T_api_Params} {p_l : T_api_Deviation} {r : Bool} (h : privityref12_Deviation p_s p_l = some r) : Ct Tryd.prog 106 [.agg #[.int .u64 p_s.P, .int .i64 p_s.N, .int .i64 p_s.T], .agg #[.int .i64 p_l.Round, .int .i64 p_l.From, .int .i64 p_l.To, .int .i64 p_l.At, .int .i64 p_l.Kind, .int .u64 p_l.K, .int .i64 p_l.Of, .int .i64 p_l.SrcIndex]] [] (fun v L => v = .bool r ∧ L = []) := by
 refine ct_intro Tryd.func106 rfl kr (fun F => ?_)
 unfold privityref12_Deviation at h
 refine wh_seq ?_
 refine wh_region ?_
 refine w_box (t := 24) (v := .agg #[.int .u64 p_s.P, .int .i64 p_s.N, .int .i64 p_s.T]) (cs := [.int .u64 p_s.P, .int .i64 p_s.N, .int .i64 p_s.T]) (cv0 kr) kr (fun q1 => ?_)
 refine WI.hd (y := blkP q1 24 [.int .u64 p_s.P, .int .i64 p_s.N, .int .i64 p_s.T]) kr ?_
 refine w_opP 0 rfl (fun b1 hb => ?_)
 subst hb
 refine w_box (t := 124) (v := .agg #[.int .i64 p_l.Round, .int .i64 p_l.From, .int .i64 p_l.To, .int .i64 p_l.At, .int .i64 p_l.Kind, .int .u64 p_l.K, .int .i64 p_l.Of, .int .i64 p_l.SrcIndex]) (cs := [.int .i64 p_l.Round, .int .i64 p_l.From, .int .i64 p_l.To, .int .i64 p_l.At, .int .i64 p_l.Kind, .int .u64 p_l.K, .int .i64 p_l.Of, .int .i64 p_l.SrcIndex]) (cv0 kr) kr (fun q2 => ?_)
 refine WI.hd (y := blkP q2 124 [.int .i64 p_l.Round, .int .i64 p_l.From, .int .i64 p_l.To, .int .i64 p_l.At, .int .i64 p_l.Kind, .int .u64 p_l.K, .int .i64 p_l.Of, .int .i64 p_l.SrcIndex]) kr ?_
 refine w_opP 0 rfl (fun b2 hb => ?_)
 subst hb
 refine w_p Tb_ok 1 kr ?_
 refine wi_end kr ?_
 refine qh_then ?_
 refine wh_seq ?_
 refine wh_region ?_
 refine w_p Tb_ok 1 kr ?_
 refine w_ldB 0 0 rfl kr ti_3 rfl rfl ?_
 refine w_p Tb_ok 2 kr ?_
 rcases bcase h with ⟨t1, h1⟩ | ⟨t1, h1⟩
 ·
  refine w_kb (t := 8) t1 kr ?_
  refine w_p Tb_ok 1 kr ?_
  refine w_ldB 0 3 rfl kr ti_3 rfl rfl ?_
  refine w_p Tb_ok 3 kr ?_
  rcases bcase h1 with ⟨t2, h2⟩ | ⟨t2, h2⟩
  ·
   refine w_kb (t := 13) t2 kr ?_
   refine w_p Tb_ok 1 kr ?_
   refine w_ldB 0 7 rfl kr ti_3 rfl rfl ?_
   refine w_p Tb_ok 3 kr ?_
   rcases bcase h2 with ⟨t3, h3⟩ | ⟨t3, h3⟩
   ·
    refine w_kb (t := 18) t3 kr ?_
    refine w_p Tb_ok 1 kr ?_
    refine w_ldB 0 1 rfl kr ti_3 rfl rfl ?_
    refine w_p Tb_ok 3 kr ?_
    rcases bcase h3 with ⟨t4, h4⟩ | ⟨t4, h4⟩
    ·
     refine w_kb (t := 23) t4 kr ?_
     refine w_p Tb_ok 1 kr ?_
     refine w_ldB 0 1 rfl kr ti_3 rfl rfl ?_
     refine w_p Tb_ok 1 kr ?_
     refine w_ldB 1 1 rfl kr ti_3 rfl rfl ?_
     refine w_p Tb_ok 3 kr ?_
     rcases bcase h4 with ⟨t5, h5⟩ | ⟨t5, h5⟩
     ·
      refine w_kb (t := 30) t5 kr ?_
      refine w_p Tb_ok 1 kr ?_
      refine w_ldB 0 2 rfl kr ti_3 rfl rfl ?_
      refine w_p Tb_ok 3 kr ?_
      rcases bcase h5 with ⟨t6, h6⟩ | ⟨t6, h6⟩
      ·
       refine w_kb (t := 35) t6 kr ?_
       refine w_p Tb_ok 1 kr ?_
       refine w_ldB 0 2 rfl kr ti_3 rfl rfl ?_
       refine w_p Tb_ok 1 kr ?_
       refine w_ldB 1 1 rfl kr ti_3 rfl rfl ?_
       refine w_p Tb_ok 3 kr ?_
       rcases bcase h6 with ⟨t7, h7⟩ | ⟨t7, h7⟩
       ·
        refine w_kb (t := 42) t7 kr ?_
        refine w_p Tb_ok 1 kr ?_
        refine w_ldB 0 4 rfl kr ti_3 rfl rfl ?_
        refine w_p Tb_ok 3 kr ?_
        rcases bcase h7 with ⟨t8, h8⟩ | ⟨t8, h8⟩
        ·
         refine w_kb (t := 47) t8 kr ?_
         refine w_p Tb_ok 1 kr ?_
         refine w_ldB 0 4 rfl kr ti_3 rfl rfl ?_
         refine w_p Tb_ok 3 kr ?_
         rcases bcase h8 with ⟨t9, h9⟩ | ⟨t9, h9⟩
         ·
          refine w_kb (t := 52) t9 kr ?_
          refine w_p Tb_ok 1 kr ?_
          refine w_ldB 0 6 rfl kr ti_3 rfl rfl ?_
          refine w_p Tb_ok 3 kr ?_
          rcases bcase h9 with ⟨t10, h10⟩ | ⟨t10, h10⟩
          ·
           refine w_kb (t := 57) t10 kr ?_
           refine w_p Tb_ok 1 kr ?_
           refine w_ldB 0 6 rfl kr ti_3 rfl rfl ?_
           refine w_p Tb_ok 1 kr ?_
           refine w_ldB 1 1 rfl kr ti_3 rfl rfl ?_
           refine w_p Tb_ok 3 kr ?_
           rcases bcase h10 with ⟨t11, h11⟩ | ⟨t11, h11⟩
           ·
            refine w_kb (t := 64) t11 kr ?_
            refine w_p Tb_ok 1 kr ?_
            refine w_ldB 0 4 rfl kr ti_3 rfl rfl ?_
            refine w_p Tb_ok 2 kr ?_
            rcases bcase h11 with ⟨t12, h12⟩ | ⟨t12, h12⟩
            ·
             refine w_kb (t := 68) t12 kr ?_
             refine w_p Tb_ok 6 kr ?_
             refine wi_end kr ?_
             refine qh_then ?_
             refine wh_ret ?_
             have h12 := Option.some.inj h12; subst h12
             exact q_end (l := [.bool true]) [] 2 ⟨rfl, rfl⟩ (.inl rfl) kr kr kr
            ·
             refine w_kb (t := 68) t12 kr ?_
             refine w_p Tb_ok 1 kr ?_
             refine w_ldB 0 6 rfl kr ti_3 rfl rfl ?_
             refine w_p Tb_ok 4 kr ?_
             refine wi_end kr ?_
             refine qh_then ?_
             refine wh_ret ?_
             have h12 := Option.some.inj h12; subst h12
             exact q_end (l := [.bool (decide (p_l.Of ≥ (1 : Int)))]) [] 2 ⟨rfl, rfl⟩ (.inl rfl) kr kr kr
           ·
            refine w_kb (t := 64) t11 kr ?_
            refine w_p Tb_ok 10 kr ?_
            refine wi_end kr ?_
            refine qh_then ?_
            refine wh_ret ?_
            have h11 := Option.some.inj h11; subst h11
            exact q_end (l := [.bool false]) [] 2 ⟨rfl, rfl⟩ (.inl rfl) kr kr kr
          ·
           refine w_kb (t := 57) t10 kr ?_
           refine w_p Tb_ok 17 kr ?_
           refine wi_end kr ?_
           refine qh_then ?_
           refine wh_ret ?_
           have h10 := Option.some.inj h10; subst h10
           exact q_end (l := [.bool false]) [] 2 ⟨rfl, rfl⟩ (.inl rfl) kr kr kr
         ·
          refine w_kb (t := 52) t9 kr ?_
          refine w_p Tb_ok 22 kr ?_
          refine wi_end kr ?_
          refine qh_then ?_
          refine wh_ret ?_
          have h9 := Option.some.inj h9; subst h9
          exact q_end (l := [.bool false]) [] 2 ⟨rfl, rfl⟩ (.inl rfl) kr kr kr
        ·
         refine w_kb (t := 47) t8 kr ?_
         refine w_p Tb_ok 27 kr ?_
         refine wi_end kr ?_
         refine qh_then ?_
         refine wh_ret ?_
         have h8 := Option.some.inj h8; subst h8
         exact q_end (l := [.bool false]) [] 2 ⟨rfl, rfl⟩ (.inl rfl) kr kr kr
       ·
        refine w_kb (t := 42) t7 kr ?_
        refine w_p Tb_ok 32 kr ?_
        refine wi_end kr ?_
        refine qh_then ?_
        refine wh_ret ?_
        have h7 := Option.some.inj h7; subst h7
        exact q_end (l := [.bool false]) [] 2 ⟨rfl, rfl⟩ (.inl rfl) kr kr kr
      ·
       refine w_kb (t := 35) t6 kr ?_
       refine w_p Tb_ok 39 kr ?_
       refine wi_end kr ?_
       refine qh_then ?_
       refine wh_ret ?_
       have h6 := Option.some.inj h6; subst h6
       exact q_end (l := [.bool false]) [] 2 ⟨rfl, rfl⟩ (.inl rfl) kr kr kr
     ·
      refine w_kb (t := 30) t5 kr ?_
      refine w_p Tb_ok 44 kr ?_
      refine wi_end kr ?_
      refine qh_then ?_
      refine wh_ret ?_
      have h5 := Option.some.inj h5; subst h5
      exact q_end (l := [.bool false]) [] 2 ⟨rfl, rfl⟩ (.inl rfl) kr kr kr
    ·
     refine w_kb (t := 23) t4 kr ?_
     refine w_p Tb_ok 51 kr ?_
     refine wi_end kr ?_
     refine qh_then ?_
     refine wh_ret ?_
     have h4 := Option.some.inj h4; subst h4
     exact q_end (l := [.bool false]) [] 2 ⟨rfl, rfl⟩ (.inl rfl) kr kr kr
   ·
    refine w_kb (t := 18) t3 kr ?_
    refine w_p Tb_ok 56 kr ?_
    refine wi_end kr ?_
    refine qh_then ?_
    refine wh_ret ?_
    have h3 := Option.some.inj h3; subst h3
    exact q_end (l := [.bool false]) [] 2 ⟨rfl, rfl⟩ (.inl rfl) kr kr kr
  ·
   refine w_kb (t := 13) t2 kr ?_
   refine w_p Tb_ok 61 kr ?_
   refine wi_end kr ?_
   refine qh_then ?_
   refine wh_ret ?_
   have h2 := Option.some.inj h2; subst h2
   exact q_end (l := [.bool false]) [] 2 ⟨rfl, rfl⟩ (.inl rfl) kr kr kr
 ·
  refine w_kb (t := 8) t1 kr ?_
  refine w_p Tb_ok 66 kr ?_
  refine wi_end kr ?_
  refine qh_then ?_
  refine wh_ret ?_
  have h1 := Option.some.inj h1; subst h1
  exact q_end (l := [.bool false]) [] 2 ⟨rfl, rfl⟩ (.inl rfl) kr kr kr
theorem c_privityref05_Below {p_p : Nat} {p_l : List Nat} {vp_l_1 : Value} {r : Bool} (h : privityref05_Below p_p p_l = some r) : Ct Tryd.prog 81 [.int .u64 p_p, vp_l_1] [rdV Kd.u64 vp_l_1 p_l] (fun v L => v = .bool r ∧ L = []) := by
 refine ct_intro Tryd.func81 rfl kr (fun F => ?_)
 unfold privityref05_Below at h
 refine wh_seq ?_
 refine wh_region ?_
 refine w_p Tb_ok 1 kr ?_
 refine wi_end kr ?_
 refine qh_then ?_
 refine wh_seq ?_
 refine wh_seq ?_
 refine wh_region ?_
 refine w_p Tb_ok 1 kr ?_
 refine wi_end kr ?_
 refine qh_then ?_
 refine h_lenle (rd_lenle 0 rfl) (fun hN1 => ?_)
 obtain ⟨r1, el1, h1⟩ := bnd h
 refine h_join (X := Unit × Unit) (fun g => []) (fun g => [] ++ F) (fun g => r1 = .go g.2) ?_ ?_
 ·
  refine wh_block ?_
  refine h_rg (fun (k1 : Nat) (st : Unit) (g : Unit) => [(0, .int .u64 p_p), (1, vp_l_1), (5, .int .i64 ((k1 : Nat) : Int))]) (fun (k1 : Nat) (st : Unit) (g : Unit) => [rdV Kd.u64 vp_l_1 p_l] ++ F) () el1 (Nat.zero_le _) aK (tH [(0, true)] 1) ?_ ?_
  ·
   rintro ⟨⟩ ⟨⟩ hr1 j
   refine wh_seq ?_
   refine wh_seq ?_
   refine wh_region ?_
   refine w_p Tb_ok 2 kr ?_
   refine w_len (rd_hd 0 rfl) kr ts_30 ?_
   refine w_p Tb_ok 1 kr ?_
   refine wi_end kr ?_
   refine qh_then ?_
   refine h_cf (b := (decide ((((p_l.length) : Nat) : Int) < ((p_l.length : Nat) : Int)))) rgF kr ?_
   refine wh_exit ?_
   refine qh_then_exit ?_
   refine q_rzX ?_
   refine qh_block_exit ?_
   exact q_join ((), ()) hr1 aK (tH [] 1)
  ·
   rintro rem k1 ⟨⟩ ⟨⟩ o1 hk1 h2 hn1 j
   have h2 : privityref05_Below_L0 p_p p_l k1 = some o1 := h2
   unfold privityref05_Below_L0 at h2
   refine wh_seq ?_
   refine wh_seq ?_
   refine wh_region ?_
   refine w_p Tb_ok 2 kr ?_
   refine w_len (rd_hd 0 rfl) kr ts_30 ?_
   refine w_p Tb_ok 1 kr ?_
   refine wi_end kr ?_
   refine qh_then ?_
   refine h_ct (b := (decide (((k1 : Nat) : Int) < ((p_l.length : Nat) : Int)))) (rgT hk1) kr ?_
   refine wh_skip ?_
   refine qh_then ?_
   refine wh_seq ?_
   refine wh_block ?_
   refine wh_seq ?_
   refine wh_region ?_
   refine w_p Tb_ok 2 kr ?_
   obtain ⟨x1, ex1, h3⟩ := bnd h2
   refine w_ix (k := .i64) (rd_hd 0 rfl) (nbd ex1) rfl kr ts_30 ti_22 ?_
   refine w_ldR 0 0 rfl ex1 kr ti_22 rfl rfl ?_
   rintro _
   refine w_p Tb_ok 2 kr ?_
   refine wi_end kr ?_
   refine qh_then ?_
   rcases bcase h3 with ⟨t1, h4⟩ | ⟨t1, h4⟩
   ·
    refine h_ct (b := (decide (((x1 : Nat) : Int) ≥ ((p_p : Nat) : Int)))) t1 kr ?_
    refine wh_seq ?_
    refine wh_region ?_
    refine w_p Tb_ok 1 kr ?_
    refine wi_end kr ?_
    refine qh_then ?_
    refine wh_ret ?_
    refine qh_block_ret ?_
    refine qh_then_ret ?_
    refine q_rgR ?_
    refine qh_block_ret ?_
    refine q_joinR ?_
    refine qh_then_ret ?_
    have h4 := Option.some.inj h4; subst h4
    have hn := (show _ = _ from hn1); subst hn
    have h1 := Option.some.inj (show some _ = some _ from h1); subst h1
    exact q_end (l := [.bool false]) [] 1 ⟨rfl, rfl⟩ (.inl rfl) kr kr kr
   ·
    refine h_cf (b := (decide (((x1 : Nat) : Int) ≥ ((p_p : Nat) : Int)))) t1 kr ?_
    refine wh_skip ?_
    refine qh_block_normal ?_
    refine qh_then ?_
    refine wh_region ?_
    refine w_p Tb_ok 1 kr ?_
    refine w_bi (zinc hk1 hN1) kr ?_
    refine w_p Tb_ok 1 kr ?_
    refine wi_end kr ?_
    have h4 := Option.some.inj h4; subst h4
    exact q_rgo () hn1 aK (tH [(0, true)] 1)
 ·
  rintro ⟨⟨⟩, ⟨⟩⟩ hc j
  subst hc
  refine qh_then ?_
  refine wh_seq ?_
  refine wh_region ?_
  refine w_p Tb_ok 1 kr ?_
  refine wi_end kr ?_
  refine qh_then ?_
  refine wh_ret ?_
  have h1 := Option.some.inj h1; subst h1
  exact q_end (l := [.bool true]) [] 0 ⟨rfl, rfl⟩ (.inl rfl) kr kr kr
theorem c_privityref12_ValidScenario {p_w : T_api_Scenario} {vp_w_1 : Value} {vp_w_2 : Value} {vp_w_3 : Value} {r : Bool} (h : privityref12_ValidScenario p_w = some r) : Ct Tryd.prog 75 [.agg #[.int .u64 p_w.S.P, .int .i64 p_w.S.N, .int .i64 p_w.S.T, vp_w_1, vp_w_2, vp_w_3]] [rdV Kd.i64 vp_w_1 p_w.Corrupt, rdV K_api_Deviation vp_w_2 p_w.Deviations, rdV (Kd.sl Kd.u64) vp_w_3 p_w.Tapes] (fun v L => v = .bool r ∧ L = []) := by
 refine ct_intro Tryd.func75 rfl kr (fun F => ?_)
 unfold privityref12_ValidScenario at h
 refine wh_seq ?_
 refine wh_region ?_
 refine w_box (t := 29) (v := .agg #[.int .u64 p_w.S.P, .int .i64 p_w.S.N, .int .i64 p_w.S.T, vp_w_1, vp_w_2, vp_w_3]) (cs := [.int .u64 p_w.S.P, .int .i64 p_w.S.N, .int .i64 p_w.S.T, vp_w_1, vp_w_2, vp_w_3]) (cv0 kr) kr (fun q1 => ?_)
 refine WI.hd (y := blkP q1 29 [.int .u64 p_w.S.P, .int .i64 p_w.S.N, .int .i64 p_w.S.T, vp_w_1, vp_w_2, vp_w_3]) kr ?_
 refine w_opP 0 rfl (fun b1 hb => ?_)
 subst hb
 refine w_p Tb_ok 1 kr ?_
 refine wi_end kr ?_
 refine qh_then ?_
 refine wh_seq ?_
 refine wh_seq ?_
 obtain ⟨x1, ej1, h1⟩ := bnd h
 refine h_join (X := Unit) (fun g => [(1, (.pointer (some ⟨b1, 0, none⟩))), (25, .bool x1)]) (fun g => [blkP (.pointer (some ⟨b1, 0, none⟩)) 29 [.int .u64 p_w.S.P, .int .i64 p_w.S.N, .int .i64 p_w.S.T, vp_w_1, vp_w_2, vp_w_3], rdV Kd.i64 vp_w_1 p_w.Corrupt, rdV K_api_Deviation vp_w_2 p_w.Deviations, rdV (Kd.sl Kd.u64) vp_w_3 p_w.Tapes] ++ F) (fun _ => True) ?_ ?_
 ·
  refine wh_region ?_
  refine w_p Tb_ok 1 kr ?_
  refine w_ldB 0 0 rfl kr ti_24 rfl rfl ?_
  obtain ⟨r1, er1, h2⟩ := bnd ej1
  refine w_fn [] (c_privityref12_Valid er1) rfl fok_104 kr ?_
  rintro _ _ ⟨hv, rfl⟩; have hv := hv.symm; subst hv
  refine w_p Tb_ok 2 kr ?_
  rcases bcase h2 with ⟨t1, h3⟩ | ⟨t1, h3⟩
  ·
   refine w_kb (t := 9) t1 kr ?_
   refine w_p Tb_ok 16 kr ?_
   refine wi_end kr ?_
   cases h3
   exact q_join () trivial aK (tH [(0, false), (0, true), (1, true), (2, true)] 3)
  ·
   refine w_kb (t := 9) t1 kr ?_
   refine w_p Tb_ok 1 kr ?_
   refine w_ldB 0 0 rfl kr ti_24 rfl rfl ?_
   refine w_p Tb_ok 1 kr ?_
   refine w_ldB 0 3 rfl kr ti_25 rfl rfl ?_
   obtain ⟨r2, er2, h4⟩ := bnd h3
   refine w_fn [(1, true)] (c_privityref12_ValidCoalition er2) rfl fok_105 kr ?_
   rintro _ _ ⟨hv, rfl⟩; have hv := hv.symm; subst hv
   refine w_p Tb_ok 3 kr ?_
   rcases bcase h4 with ⟨t2, h5⟩ | ⟨t2, h5⟩
   ·
    refine w_kb (t := 17) t2 kr ?_
    refine w_p Tb_ok 8 kr ?_
    refine wi_end kr ?_
    cases h5
    exact q_join () trivial aK (tH [(0, false), (0, true), (1, true), (2, true)] 3)
   ·
    refine w_kb (t := 17) t2 kr ?_
    refine w_p Tb_ok 1 kr ?_
    refine w_ldB 0 5 rfl kr ti_27 rfl rfl ?_
    refine w_len (rd_hd 3 rfl) kr ts_27 ?_
    refine w_p Tb_ok 2 kr ?_
    refine w_ldB 0 1 rfl kr ti_3 rfl rfl ?_
    refine w_p Tb_ok 2 kr ?_
    refine wi_end kr ?_
    cases h5
    exact q_join () trivial aK (tH [(0, false), (0, true), (1, true), (2, true)] 3)
 ·
  rintro ⟨⟩ - j
  refine qh_then ?_
  rcases bcase h1 with ⟨t3, h6⟩ | ⟨t3, h6⟩
  ·
   refine h_ct (b := x1) t3 kr ?_
   refine wh_seq ?_
   refine wh_region ?_
   refine w_p Tb_ok 1 kr ?_
   refine wi_end kr ?_
   refine qh_then ?_
   refine wh_ret ?_
   refine qh_then_ret ?_
   have h6 := Option.some.inj h6; subst h6
   exact q_end (l := [.bool false]) [] 4 ⟨rfl, rfl⟩ (.inl rfl) kr kr kr
  ·
   refine h_cf (b := x1) t3 kr ?_
   refine wh_skip ?_
   refine qh_then ?_
   refine wh_seq ?_
   refine wh_seq ?_
   refine wh_region ?_
   refine w_p Tb_ok 1 kr ?_
   refine wi_end kr ?_
   refine qh_then ?_
   refine h_lenle (rd_lenle 2 rfl) (fun hN1 => ?_)
   obtain ⟨r3, el1, h7⟩ := bnd h6
   refine h_join (X := Unit × Unit) (fun g => [(1, (.pointer (some ⟨b1, 0, none⟩)))]) (fun g => [blkP (.pointer (some ⟨b1, 0, none⟩)) 29 [.int .u64 p_w.S.P, .int .i64 p_w.S.N, .int .i64 p_w.S.T, vp_w_1, vp_w_2, vp_w_3], rdV Kd.i64 vp_w_1 p_w.Corrupt, rdV K_api_Deviation vp_w_2 p_w.Deviations, rdV (Kd.sl Kd.u64) vp_w_3 p_w.Tapes] ++ F) (fun g => r3 = .go g.2) ?_ ?_
   ·
    refine wh_block ?_
    refine h_rg (fun (k1 : Nat) (st : Unit) (g : Unit) => [(1, (.pointer (some ⟨b1, 0, none⟩))), (3, .int .i64 ((k1 : Nat) : Int))]) (fun (k1 : Nat) (st : Unit) (g : Unit) => [blkP (.pointer (some ⟨b1, 0, none⟩)) 29 [.int .u64 p_w.S.P, .int .i64 p_w.S.N, .int .i64 p_w.S.T, vp_w_1, vp_w_2, vp_w_3], rdV Kd.i64 vp_w_1 p_w.Corrupt, rdV K_api_Deviation vp_w_2 p_w.Deviations, rdV (Kd.sl Kd.u64) vp_w_3 p_w.Tapes] ++ F) () el1 (Nat.zero_le _) aK (tH [(0, false), (0, true), (1, true), (2, true)] 3) ?_ ?_
    ·
     rintro ⟨⟩ ⟨⟩ hr1 j
     refine wh_seq ?_
     refine wh_seq ?_
     refine wh_region ?_
     refine w_p Tb_ok 2 kr ?_
     refine w_ldB 0 4 rfl kr ti_26 rfl rfl ?_
     refine w_len (rd_hd 2 rfl) kr ts_26 ?_
     refine w_p Tb_ok 1 kr ?_
     refine wi_end kr ?_
     refine qh_then ?_
     refine h_cf (b := (decide ((((p_w.Deviations.length) : Nat) : Int) < ((p_w.Deviations.length : Nat) : Int)))) rgF kr ?_
     refine wh_exit ?_
     refine qh_then_exit ?_
     refine q_rzX ?_
     refine qh_block_exit ?_
     exact q_join ((), ()) hr1 aK (tH [(0, false), (0, true), (1, true), (2, true)] 3)
    ·
     rintro rem k1 ⟨⟩ ⟨⟩ o1 hk1 h8 hn1 j
     have h8 : privityref12_ValidScenario_L0 p_w k1 = some o1 := h8
     unfold privityref12_ValidScenario_L0 at h8
     refine wh_seq ?_
     refine wh_seq ?_
     refine wh_region ?_
     refine w_p Tb_ok 2 kr ?_
     refine w_ldB 0 4 rfl kr ti_26 rfl rfl ?_
     refine w_len (rd_hd 2 rfl) kr ts_26 ?_
     refine w_p Tb_ok 1 kr ?_
     refine wi_end kr ?_
     refine qh_then ?_
     refine h_ct (b := (decide (((k1 : Nat) : Int) < ((p_w.Deviations.length : Nat) : Int)))) (rgT hk1) kr ?_
     refine wh_skip ?_
     refine qh_then ?_
     refine wh_seq ?_
     refine wh_block ?_
     refine wh_seq ?_
     obtain ⟨x2, ex2, h9⟩ := bnd h8
     obtain ⟨r4, er4, h10⟩ := bnd h9
     refine h_flow [0, 1, 0, 4, 0, 28, 60, 127, 255] ⟨4, [0, 0, 0, 0, 0, 0, 0, 0, 0], [], [(1, [(0, 0)]), (3, [(0, 0)])], [(5, [(0, 2)]), (6, [(0, 2)])]⟩ (fun γ => [.pointer (some ⟨b1, 0, none⟩), .agg #[.int .u64 p_w.S.P, .int .i64 p_w.S.N, .int .i64 p_w.S.T], .pointer (some ⟨b1, 4, none⟩), vp_w_2, .int .i64 ((k1 : Nat) : Int), .pointer (some (elV vp_w_2 (k1 * K_api_Deviation.size))), .agg #[.int .i64 x2.Round, .int .i64 x2.From, .int .i64 x2.To, .int .i64 x2.At, .int .i64 x2.Kind, .int .u64 x2.K, .int .i64 x2.Of, .int .i64 x2.SrcIndex], .bool r4, .bool (!r4)]) (fun _ _ => []) (fun γ => [blkP (.pointer (some ⟨b1, 0, none⟩)) 29 [.int .u64 p_w.S.P, .int .i64 p_w.S.N, .int .i64 p_w.S.T, vp_w_1, vp_w_2, vp_w_3], rdV Kd.i64 vp_w_1 p_w.Corrupt, rdV K_api_Deviation vp_w_2 p_w.Deviations, rdV (Kd.sl Kd.u64) vp_w_3 p_w.Tapes] ++ F) [0, 2, 4, 8] tryd_mix Tb_ok kr kr (fun _ => by kernel_rfl) (fun _ => by kernel_rfl) (fun _ => by kernel_rfl) (fun _ => by kernel_rfl) (fun _ => by kernel_rfl) (fun _ => by kernel_rfl) (fun _ => by kernel_rfl) ?_ ?_
     ·
      refine ⟨?_, ?_, ?_, ?_, ?_, trivial⟩
      ·
       intro γ F
       refine WI.reH (H' := [blkP (.pointer (some ⟨b1, 0, none⟩)) 29 [.int .u64 p_w.S.P, .int .i64 p_w.S.N, .int .i64 p_w.S.T, vp_w_1, vp_w_2, vp_w_3]] ++ F) kr ?_
       refine w_ldB 0 0 rfl kr ti_24 rfl rfl ?_
       exact wE (gl []) [(0, false)] 0
      ·
       intro γ F
       refine WI.reH (H' := [blkP (.pointer (some ⟨b1, 0, none⟩)) 29 [.int .u64 p_w.S.P, .int .i64 p_w.S.N, .int .i64 p_w.S.T, vp_w_1, vp_w_2, vp_w_3]] ++ F) kr ?_
       refine w_ldB 0 4 rfl kr ti_26 rfl rfl ?_
       exact wE (gl []) [(0, false)] 0
      ·
       intro γ F
       refine WI.reH (H' := [rdV K_api_Deviation vp_w_2 p_w.Deviations] ++ F) kr ?_
       refine w_ix (k := .i64) (rd_hd 0 rfl) (nbd ex2) rfl kr ts_26 ti_124 ?_
       exact wE (gl []) [] 1
      ·
       intro γ F
       refine WI.reH (H' := [rdV K_api_Deviation vp_w_2 p_w.Deviations] ++ F) kr ?_
       refine w_ldR 0 0 rfl ex2 kr ti_124 rfl rfl ?_
       rintro ⟨_, _, _, _, _, _, _, _⟩
       exact wE (gl []) [] 1
      ·
       intro γ F
       refine WI.reH (H' := [] ++ F) kr ?_
       refine w_fn [] (c_privityref12_Deviation er4) rfl fok_106 kr ?_
       rintro _ _ ⟨hv, rfl⟩; have hv := hv.symm; subst hv
       exact wE (gl []) [] 0
     ·
      intro γ1
      refine qh_then ?_
      rcases bcase h10 with ⟨t4, h11⟩ | ⟨t4, h11⟩
      ·
       refine h_ct (b := (!r4)) t4 kr ?_
       refine wh_seq ?_
       refine wh_region ?_
       refine w_p Tb_ok 1 kr ?_
       refine wi_end kr ?_
       refine qh_then ?_
       refine wh_ret ?_
       refine qh_block_ret ?_
       refine qh_then_ret ?_
       refine q_rgR ?_
       refine qh_block_ret ?_
       refine q_joinR ?_
       refine qh_then_ret ?_
       have h11 := Option.some.inj h11; subst h11
       have hn := (show _ = _ from hn1); subst hn
       have h7 := Option.some.inj (show some _ = some _ from h7); subst h7
       exact q_end (l := [.bool false]) [] 4 ⟨rfl, rfl⟩ (.inl rfl) kr kr kr
      ·
       refine h_cf (b := (!r4)) t4 kr ?_
       refine wh_skip ?_
       refine qh_block_normal ?_
       refine qh_then ?_
       refine wh_region ?_
       refine w_p Tb_ok 1 kr ?_
       refine w_bi (zinc hk1 hN1) kr ?_
       refine w_p Tb_ok 1 kr ?_
       refine wi_end kr ?_
       have h11 := Option.some.inj h11; subst h11
       exact q_rgo () hn1 aK (tH [(0, false), (0, true), (1, true), (2, true)] 3)
   ·
    rintro ⟨⟨⟩, ⟨⟩⟩ hc j
    subst hc
    refine qh_then ?_
    refine wh_seq ?_
    refine wh_seq ?_
    refine wh_region ?_
    refine w_p Tb_ok 1 kr ?_
    refine wi_end kr ?_
    refine qh_then ?_
    refine h_lenle (rd_lenle 3 rfl) (fun hN2 => ?_)
    obtain ⟨r5, el2, h12⟩ := bnd h7
    refine h_join (X := Unit × Unit) (fun g => []) (fun g => [] ++ F) (fun g => r5 = .go g.2) ?_ ?_
    ·
     refine wh_block ?_
     refine h_rg (fun (k2 : Nat) (st : Unit) (g : Unit) => [(1, (.pointer (some ⟨b1, 0, none⟩))), (4, .int .i64 ((k2 : Nat) : Int))]) (fun (k2 : Nat) (st : Unit) (g : Unit) => [blkP (.pointer (some ⟨b1, 0, none⟩)) 29 [.int .u64 p_w.S.P, .int .i64 p_w.S.N, .int .i64 p_w.S.T, vp_w_1, vp_w_2, vp_w_3], rdV Kd.i64 vp_w_1 p_w.Corrupt, rdV K_api_Deviation vp_w_2 p_w.Deviations, rdV (Kd.sl Kd.u64) vp_w_3 p_w.Tapes] ++ F) () el2 (Nat.zero_le _) aK (tH [(0, false), (0, true), (1, true), (2, true)] 3) ?_ ?_
     ·
      rintro ⟨⟩ ⟨⟩ hr2 j
      refine wh_seq ?_
      refine wh_seq ?_
      refine wh_region ?_
      refine w_p Tb_ok 2 kr ?_
      refine w_ldB 0 5 rfl kr ti_27 rfl rfl ?_
      refine w_len (rd_hd 3 rfl) kr ts_27 ?_
      refine w_p Tb_ok 1 kr ?_
      refine wi_end kr ?_
      refine qh_then ?_
      refine h_cf (b := (decide ((((p_w.Tapes.length) : Nat) : Int) < ((p_w.Tapes.length : Nat) : Int)))) rgF kr ?_
      refine wh_exit ?_
      refine qh_then_exit ?_
      refine q_rzX ?_
      refine qh_block_exit ?_
      exact q_join ((), ()) hr2 aK (tH [] 4)
     ·
      rintro rem k2 ⟨⟩ ⟨⟩ o2 hk2 h13 hn2 j
      have h13 : privityref12_ValidScenario_L1 p_w k2 = some o2 := h13
      unfold privityref12_ValidScenario_L1 at h13
      refine wh_seq ?_
      refine wh_seq ?_
      refine wh_region ?_
      refine w_p Tb_ok 2 kr ?_
      refine w_ldB 0 5 rfl kr ti_27 rfl rfl ?_
      refine w_len (rd_hd 3 rfl) kr ts_27 ?_
      refine w_p Tb_ok 1 kr ?_
      refine wi_end kr ?_
      refine qh_then ?_
      refine h_ct (b := (decide (((k2 : Nat) : Int) < ((p_w.Tapes.length : Nat) : Int)))) (rgT hk2) kr ?_
      refine wh_skip ?_
      refine qh_then ?_
      refine wh_seq ?_
      refine wh_block ?_
      refine wh_seq ?_
      obtain ⟨x3, ex3, h14⟩ := bnd h13
      obtain ⟨r6, er6, h15⟩ := bnd h14
      refine h_flow [0, 1, 3, 0, 8, 0, 56, 120, 255, 511] ⟨4, [0, 0, 0, 0, 0, 0, 0, 1, 0, 0], [], [(2, [(0, 0)]), (4, [(0, 0)])], [(6, [(0, 3)]), (7, [(0, 3)]), (8, [(8, 0)])]⟩ (fun γ => [.pointer (some ⟨b1, 0, none⟩), .pointer (some ⟨b1, 0, none⟩), .int .u64 p_w.S.P, .pointer (some ⟨b1, 5, none⟩), vp_w_3, .int .i64 ((k2 : Nat) : Int), .pointer (some (elV vp_w_3 (k2 * (Kd.sl Kd.u64).size))), (γ 7 0), .bool r6, .bool (!r6)]) (fun i γ => match i with | 7 => [rdV Kd.u64 (γ 7 0) x3] | _ => []) (fun γ => [blkP (.pointer (some ⟨b1, 0, none⟩)) 29 [.int .u64 p_w.S.P, .int .i64 p_w.S.N, .int .i64 p_w.S.T, vp_w_1, vp_w_2, vp_w_3], rdV Kd.i64 vp_w_1 p_w.Corrupt, rdV K_api_Deviation vp_w_2 p_w.Deviations, rdV (Kd.sl Kd.u64) vp_w_3 p_w.Tapes, rdV Kd.u64 (γ 7 0) x3] ++ F) [0, 1, 3, 5, 9] tryd_mix Tb_ok kr kr (fun _ => by kernel_rfl) (fun _ => by kernel_rfl) (fun _ => by kernel_rfl) (fun _ => by kernel_rfl) (fun _ => by kernel_rfl) (fun _ => by kernel_rfl) (fun _ => by kernel_rfl) ?_ ?_
      ·
       refine ⟨?_, ?_, ?_, ?_, ?_, trivial⟩
       ·
        intro γ F
        refine WI.reH (H' := [blkP (.pointer (some ⟨b1, 0, none⟩)) 29 [.int .u64 p_w.S.P, .int .i64 p_w.S.N, .int .i64 p_w.S.T, vp_w_1, vp_w_2, vp_w_3]] ++ F) kr ?_
        refine w_ldB 0 0 rfl kr ti_22 rfl rfl ?_
        exact wE (gl []) [(0, false)] 0
       ·
        intro γ F
        refine WI.reH (H' := [blkP (.pointer (some ⟨b1, 0, none⟩)) 29 [.int .u64 p_w.S.P, .int .i64 p_w.S.N, .int .i64 p_w.S.T, vp_w_1, vp_w_2, vp_w_3]] ++ F) kr ?_
        refine w_ldB 0 5 rfl kr ti_27 rfl rfl ?_
        exact wE (gl []) [(0, false)] 0
       ·
        intro γ F
        refine WI.reH (H' := [rdV (Kd.sl Kd.u64) vp_w_3 p_w.Tapes] ++ F) kr ?_
        refine w_ix (k := .i64) (rd_hd 0 rfl) (nbd ex3) rfl kr ts_27 ti_30 ?_
        exact wE (gl []) [] 1
       ·
        intro γ F
        refine WI.reH (H' := [rdV (Kd.sl Kd.u64) vp_w_3 p_w.Tapes] ++ F) kr ?_
        refine w_ldR 0 0 rfl ex3 kr ti_30 rfl rfl ?_
        rintro v1
        exact wE (gl [v1]) [(0, true)] 2
       ·
        intro γ F
        refine WI.reH (H' := [rdV Kd.u64 (γ 7 0) x3] ++ F) kr ?_
        refine w_fn [(0, true)] (c_privityref05_Below er6) rfl fok_81 kr ?_
        rintro _ _ ⟨hv, rfl⟩; have hv := hv.symm; subst hv
        exact wE (gl []) [] 1
      ·
       intro γ2
       refine qh_then ?_
       rcases bcase h15 with ⟨t5, h16⟩ | ⟨t5, h16⟩
       ·
        refine h_ct (b := (!r6)) t5 kr ?_
        refine wh_seq ?_
        refine wh_region ?_
        refine w_p Tb_ok 1 kr ?_
        refine wi_end kr ?_
        refine qh_then ?_
        refine wh_ret ?_
        refine qh_block_ret ?_
        refine qh_then_ret ?_
        refine q_rgR ?_
        refine qh_block_ret ?_
        refine q_joinR ?_
        refine qh_then_ret ?_
        have h16 := Option.some.inj h16; subst h16
        have hn := (show _ = _ from hn2); subst hn
        have h12 := Option.some.inj (show some _ = some _ from h12); subst h12
        exact q_end (l := [.bool false]) [] 5 ⟨rfl, rfl⟩ (.inl rfl) kr kr kr
       ·
        refine h_cf (b := (!r6)) t5 kr ?_
        refine wh_skip ?_
        refine qh_block_normal ?_
        refine qh_then ?_
        refine wh_region ?_
        refine w_p Tb_ok 1 kr ?_
        refine w_bi (zinc hk2 hN2) kr ?_
        refine w_p Tb_ok 1 kr ?_
        refine wi_end kr ?_
        have h16 := Option.some.inj h16; subst h16
        exact q_rgo () hn2 aK (tH [(0, false), (0, true), (1, true), (2, true)] 4)
    ·
     rintro ⟨⟨⟩, ⟨⟩⟩ hc j
     subst hc
     refine qh_then ?_
     refine wh_seq ?_
     refine wh_region ?_
     refine w_p Tb_ok 1 kr ?_
     refine wi_end kr ?_
     refine qh_then ?_
     refine wh_ret ?_
     have h12 := Option.some.inj h12; subst h12
     exact q_end (l := [.bool true]) [] 0 ⟨rfl, rfl⟩ (.inl rfl) kr kr kr
theorem c_privityref14_Fair {p_w : T_api_Scenario} {p_lies : Int} {p_words : Int} {vp_w_1 : Value} {vp_w_2 : Value} {vp_w_3 : Value} {r : Bool} (h : privityref14_Fair p_w p_lies p_words = some r) : Ct Tryd.prog 45 [.agg #[.int .u64 p_w.S.P, .int .i64 p_w.S.N, .int .i64 p_w.S.T, vp_w_1, vp_w_2, vp_w_3], .int .i64 p_lies, .int .i64 p_words] [rdV Kd.i64 vp_w_1 p_w.Corrupt, rdV K_api_Deviation vp_w_2 p_w.Deviations, rdV (Kd.sl Kd.u64) vp_w_3 p_w.Tapes] (fun v L => v = .bool r ∧ L = []) := by
 refine ct_intro Tryd.func45 rfl kr (fun F => ?_)
 unfold privityref14_Fair at h
 refine wh_seq ?_
 refine wh_region ?_
 refine w_box (t := 29) (v := .agg #[.int .u64 p_w.S.P, .int .i64 p_w.S.N, .int .i64 p_w.S.T, vp_w_1, vp_w_2, vp_w_3]) (cs := [.int .u64 p_w.S.P, .int .i64 p_w.S.N, .int .i64 p_w.S.T, vp_w_1, vp_w_2, vp_w_3]) (cv0 kr) kr (fun q1 => ?_)
 refine WI.hd (y := blkP q1 29 [.int .u64 p_w.S.P, .int .i64 p_w.S.N, .int .i64 p_w.S.T, vp_w_1, vp_w_2, vp_w_3]) kr ?_
 refine w_opP 0 rfl (fun b1 hb => ?_)
 subst hb
 refine w_p Tb_ok 1 kr ?_
 refine wi_end kr ?_
 refine qh_then ?_
 refine wh_seq ?_
 refine wh_seq ?_
 obtain ⟨x1, ej1, h1⟩ := bnd h
 refine h_join (X := Unit) (fun g => [(2, .int .i64 p_words), (3, (.pointer (some ⟨b1, 0, none⟩))), (24, .bool x1)]) (fun g => [blkP (.pointer (some ⟨b1, 0, none⟩)) 29 [.int .u64 p_w.S.P, .int .i64 p_w.S.N, .int .i64 p_w.S.T, vp_w_1, vp_w_2, vp_w_3], rdV Kd.i64 vp_w_1 p_w.Corrupt, rdV K_api_Deviation vp_w_2 p_w.Deviations, rdV (Kd.sl Kd.u64) vp_w_3 p_w.Tapes] ++ F) (fun _ => True) ?_ ?_
 ·
  refine wh_region ?_
  refine w_p Tb_ok 1 kr ?_
  refine w_ldB 0 4 rfl kr ti_26 rfl rfl ?_
  refine w_len (rd_hd 2 rfl) kr ts_26 ?_
  refine w_p Tb_ok 3 kr ?_
  rcases bcase ej1 with ⟨t1, h2⟩ | ⟨t1, h2⟩
  ·
   refine w_kb (t := 13) t1 kr ?_
   refine w_p Tb_ok 11 kr ?_
   refine wi_end kr ?_
   cases h2
   exact q_join () trivial aK (tH [(0, false), (0, true), (1, true), (2, true)] 3)
  ·
   refine w_kb (t := 13) t1 kr ?_
   refine w_p Tb_ok 1 kr ?_
   refine w_ldB 0 5 rfl kr ti_27 rfl rfl ?_
   refine w_len (rd_hd 3 rfl) kr ts_27 ?_
   refine w_p Tb_ok 3 kr ?_
   rcases bcase h2 with ⟨t2, h3⟩ | ⟨t2, h3⟩
   ·
    refine w_kb (t := 19) t2 kr ?_
    refine w_p Tb_ok 5 kr ?_
    refine wi_end kr ?_
    cases h3
    exact q_join () trivial aK (tH [(0, false), (0, true), (1, true), (2, true)] 3)
   ·
    refine w_kb (t := 19) t2 kr ?_
    refine w_p Tb_ok 1 kr ?_
    refine w_ldB 0 3 rfl kr ti_25 rfl rfl ?_
    refine w_len (rd_hd 1 rfl) kr ts_25 ?_
    refine w_p Tb_ok 2 kr ?_
    refine wi_end kr ?_
    cases h3
    exact q_join () trivial aK (tH [(0, false), (0, true), (1, true), (2, true)] 3)
 ·
  rintro ⟨⟩ - j
  refine qh_then ?_
  rcases bcase h1 with ⟨t3, h4⟩ | ⟨t3, h4⟩
  ·
   refine h_ct (b := x1) t3 kr ?_
   refine wh_seq ?_
   refine wh_region ?_
   refine w_p Tb_ok 1 kr ?_
   refine wi_end kr ?_
   refine qh_then ?_
   refine wh_ret ?_
   refine qh_then_ret ?_
   have h4 := Option.some.inj h4; subst h4
   exact q_end (l := [.bool false]) [] 4 ⟨rfl, rfl⟩ (.inl rfl) kr kr kr
  ·
   refine h_cf (b := x1) t3 kr ?_
   refine wh_skip ?_
   refine qh_then ?_
   refine wh_seq ?_
   refine wh_seq ?_
   refine wh_region ?_
   refine w_p Tb_ok 1 kr ?_
   refine wi_end kr ?_
   refine qh_then ?_
   refine h_lenle (rd_lenle 3 rfl) (fun hN1 => ?_)
   obtain ⟨r1, el1, h5⟩ := bnd h4
   refine h_join (X := Unit × Unit) (fun g => [(3, (.pointer (some ⟨b1, 0, none⟩)))]) (fun g => [blkP (.pointer (some ⟨b1, 0, none⟩)) 29 [.int .u64 p_w.S.P, .int .i64 p_w.S.N, .int .i64 p_w.S.T, vp_w_1, vp_w_2, vp_w_3], rdV Kd.i64 vp_w_1 p_w.Corrupt, rdV K_api_Deviation vp_w_2 p_w.Deviations, rdV (Kd.sl Kd.u64) vp_w_3 p_w.Tapes] ++ F) (fun g => r1 = .go g.2) ?_ ?_
   ·
    refine wh_block ?_
    refine h_rg (fun (k1 : Nat) (st : Unit) (g : Unit) => [(2, .int .i64 p_words), (3, (.pointer (some ⟨b1, 0, none⟩))), (7, .int .i64 ((k1 : Nat) : Int))]) (fun (k1 : Nat) (st : Unit) (g : Unit) => [blkP (.pointer (some ⟨b1, 0, none⟩)) 29 [.int .u64 p_w.S.P, .int .i64 p_w.S.N, .int .i64 p_w.S.T, vp_w_1, vp_w_2, vp_w_3], rdV Kd.i64 vp_w_1 p_w.Corrupt, rdV K_api_Deviation vp_w_2 p_w.Deviations, rdV (Kd.sl Kd.u64) vp_w_3 p_w.Tapes] ++ F) () el1 (Nat.zero_le _) aK (tH [(0, false), (0, true), (1, true), (2, true)] 3) ?_ ?_
    ·
     rintro ⟨⟩ ⟨⟩ hr1 j
     refine wh_seq ?_
     refine wh_seq ?_
     refine wh_region ?_
     refine w_p Tb_ok 2 kr ?_
     refine w_ldB 0 5 rfl kr ti_27 rfl rfl ?_
     refine w_len (rd_hd 3 rfl) kr ts_27 ?_
     refine w_p Tb_ok 1 kr ?_
     refine wi_end kr ?_
     refine qh_then ?_
     refine h_cf (b := (decide ((((p_w.Tapes.length) : Nat) : Int) < ((p_w.Tapes.length : Nat) : Int)))) rgF kr ?_
     refine wh_exit ?_
     refine qh_then_exit ?_
     refine q_rzX ?_
     refine qh_block_exit ?_
     exact q_join ((), ()) hr1 aK (tH [(0, false), (0, true), (1, true), (2, true)] 3)
    ·
     rintro rem k1 ⟨⟩ ⟨⟩ o1 hk1 h6 hn1 j
     have h6 : privityref14_Fair_L0 p_w p_words k1 = some o1 := h6
     unfold privityref14_Fair_L0 at h6
     refine wh_seq ?_
     refine wh_seq ?_
     refine wh_region ?_
     refine w_p Tb_ok 2 kr ?_
     refine w_ldB 0 5 rfl kr ti_27 rfl rfl ?_
     refine w_len (rd_hd 3 rfl) kr ts_27 ?_
     refine w_p Tb_ok 1 kr ?_
     refine wi_end kr ?_
     refine qh_then ?_
     refine h_ct (b := (decide (((k1 : Nat) : Int) < ((p_w.Tapes.length : Nat) : Int)))) (rgT hk1) kr ?_
     refine wh_skip ?_
     refine qh_then ?_
     refine wh_seq ?_
     refine wh_block ?_
     refine wh_seq ?_
     refine wh_region ?_
     refine w_p Tb_ok 1 kr ?_
     refine w_ldB 0 5 rfl kr ti_27 rfl rfl ?_
     refine w_p Tb_ok 1 kr ?_
     obtain ⟨x2, ex2, h7⟩ := bnd h6
     refine w_ix (k := .i64) (rd_hd 3 rfl) (nbd ex2) rfl kr ts_27 ti_30 ?_
     refine w_ldR 3 0 rfl ex2 kr ti_30 rfl rfl ?_
     rintro v1
     refine w_len (rd_hd 0 rfl) kr ts_30 ?_
     refine w_p Tb_ok 2 kr ?_
     refine wi_end kr ?_
     refine qh_then ?_
     rcases bcase h7 with ⟨t4, h8⟩ | ⟨t4, h8⟩
     ·
      refine h_ct (b := (decide (((x2.length : Nat) : Int) > p_words))) t4 kr ?_
      refine wh_seq ?_
      refine wh_region ?_
      refine w_p Tb_ok 1 kr ?_
      refine wi_end kr ?_
      refine qh_then ?_
      refine wh_ret ?_
      refine qh_block_ret ?_
      refine qh_then_ret ?_
      refine q_rgR ?_
      refine qh_block_ret ?_
      refine q_joinR ?_
      refine qh_then_ret ?_
      have h8 := Option.some.inj h8; subst h8
      have hn := (show _ = _ from hn1); subst hn
      have h5 := Option.some.inj (show some _ = some _ from h5); subst h5
      exact q_end (l := [.bool false]) [] 5 ⟨rfl, rfl⟩ (.inl rfl) kr kr kr
     ·
      refine h_cf (b := (decide (((x2.length : Nat) : Int) > p_words))) t4 kr ?_
      refine wh_skip ?_
      refine qh_block_normal ?_
      refine qh_then ?_
      refine wh_region ?_
      refine w_p Tb_ok 1 kr ?_
      refine w_bi (zinc hk1 hN1) kr ?_
      refine w_p Tb_ok 1 kr ?_
      refine wi_end kr ?_
      have h8 := Option.some.inj h8; subst h8
      exact q_rgo () hn1 aK (tH [(1, false), (1, true), (2, true), (3, true)] 4)
   ·
    rintro ⟨⟨⟩, ⟨⟩⟩ hc j
    subst hc
    refine qh_then ?_
    refine wh_seq ?_
    refine wh_region ?_
    refine w_ldB 0 0 rfl kr ti_29 rfl rfl ?_
    obtain ⟨r2, er2, h9⟩ := bnd h5
    refine w_fn [(1, true), (2, true), (3, true)] (c_privityref12_ValidScenario er2) rfl fok_75 kr ?_
    rintro _ _ ⟨hv, rfl⟩; have hv := hv.symm; subst hv
    refine w_p Tb_ok 1 kr ?_
    refine wi_end kr ?_
    refine qh_then ?_
    refine wh_ret ?_
    have h9 := Option.some.inj h9; subst h9
    exact q_end (l := [.bool r2]) [] 4 ⟨rfl, rfl⟩ (.inl rfl) kr kr kr
theorem c_field_Exponent {p_p : Nat} {r : Int} (h : field_Exponent p_p = some r) : Ct Tryd.prog 150 [.int .u64 p_p] [exF] (fun v L => v = .int .i64 r ∧ L = []) := by
 refine ct_intro Tryd.func150 rfl kr (fun F => ?_)
 unfold field_Exponent at h
 refine wh_seq ?_
 refine wh_region ?_
 refine w_p Tb_ok 1 kr ?_
 refine wi_end kr ?_
 refine qh_then ?_
 refine wh_seq ?_
 refine wh_seq ?_
 refine wh_region ?_
 refine w_ldF 0 0 rfl kr ti_202 rfl rfl ?_
 refine w_p Tb_ok 1 kr ?_
 refine wi_end kr ?_
 refine qh_then ?_
 obtain ⟨u1, eu1, h1⟩ := bnd h
 have hN1 := ckN_some eu1
 obtain ⟨r1, el1, h2⟩ := bnd h1
 refine h_join (X := Unit × Unit) (fun g => []) (fun g => [exF] ++ F) (fun g => r1 = .go g.2) ?_ ?_
 ·
  refine wh_block ?_
  refine h_rg (fun (k1 : Nat) (st : Unit) (g : Unit) => [(0, .int .u64 p_p), (5, .agg #[.int .i64 ((5 : Nat) : Int), .int .i64 ((7 : Nat) : Int), .int .i64 ((13 : Nat) : Int), .int .i64 ((17 : Nat) : Int), .int .i64 ((19 : Nat) : Int), .int .i64 ((31 : Nat) : Int), .int .i64 ((61 : Nat) : Int)]), (6, .int .i64 ((k1 : Nat) : Int))]) (fun (k1 : Nat) (st : Unit) (g : Unit) => [exF] ++ F) () el1 (Nat.zero_le _) aK (tH [(0, true)] 1) ?_ ?_
  ·
   rintro ⟨⟩ ⟨⟩ hr1 j
   refine wh_seq ?_
   refine wh_region ?_
   refine w_p Tb_ok 1 kr ?_
   refine wi_end kr ?_
   refine qh_then ?_
   refine wh_seq ?_
   refine h_cf (b := false) rfl kr ?_
   refine wh_exit ?_
   refine qh_then_exit ?_
   refine q_rzX ?_
   refine qh_block_exit ?_
   exact q_join ((), ()) hr1 aK (tH [(0, true)] 1)
  ·
   rintro rem k1 ⟨⟩ ⟨⟩ o1 hk1 h3 hn1 j
   have h3 : field_Exponent_L0 p_p k1 = some o1 := h3
   unfold field_Exponent_L0 at h3
   refine wh_seq ?_
   refine wh_region ?_
   refine w_p Tb_ok 1 kr ?_
   refine wi_end kr ?_
   refine qh_then ?_
   refine wh_seq ?_
   refine h_ct (b := (decide (((k1 : Nat) : Int) < (7 : Int)))) (rgT hk1) kr ?_
   refine wh_skip ?_
   refine qh_then ?_
   refine wh_seq ?_
   refine wh_block ?_
   refine wh_seq ?_
   refine wh_region ?_
   obtain ⟨x1, ex1, h4⟩ := bnd h3
   refine w_ixA (xs := ([5, 7, 13, 17, 19, 31, 61] : List Int)) (e := 3) (t := 202) (k := .i64) (m := k1) ex1 kr kr ti_3 ?_
   refine w_p Tb_ok 1 kr ?_
   refine wi_end kr ?_
   refine qh_then ?_
   refine wh_seq ?_
   refine wh_region ?_
   refine w_p Tb_ok 2 kr ?_
   obtain ⟨x2, ex2, h5⟩ := bnd h4
   refine w_sh (yk := .i64) (.inl rfl) (zshl ex2) kr ?_
   obtain ⟨x3, ex3, h6⟩ := bnd h5
   refine w_bi (esubU ex3) kr ?_
   refine w_p Tb_ok 1 kr ?_
   refine wi_end kr ?_
   refine qh_then ?_
   rcases bcase h6 with ⟨t1, h7⟩ | ⟨t1, h7⟩
   ·
    refine h_ct (b := (((p_p : Nat) : Int) == ((x3 : Nat) : Int))) t1 kr ?_
    refine wh_seq ?_
    refine wh_region ?_
    refine w_p Tb_ok 2 kr ?_
    refine wi_end kr ?_
    refine qh_then ?_
    refine wh_ret ?_
    refine qh_block_ret ?_
    refine qh_then_ret ?_
    refine q_rgR ?_
    refine qh_block_ret ?_
    refine q_joinR ?_
    refine qh_then_ret ?_
    have h7 := Option.some.inj h7; subst h7
    have hn := (show _ = _ from hn1); subst hn
    have h2 := Option.some.inj (show some _ = some _ from h2); subst h2
    exact q_end (l := [.int .i64 x1]) [] 1 ⟨rfl, rfl⟩ (.inl rfl) kr kr kr
   ·
    refine h_cf (b := (((p_p : Nat) : Int) == ((x3 : Nat) : Int))) t1 kr ?_
    refine wh_skip ?_
    refine qh_block_normal ?_
    refine qh_then ?_
    refine wh_region ?_
    refine w_bi (zinc hk1 hN1) kr ?_
    refine w_p Tb_ok 1 kr ?_
    refine wi_end kr ?_
    have h7 := Option.some.inj h7; subst h7
    exact q_rgo () hn1 aK (tH [(0, true)] 1)
 ·
  rintro ⟨⟨⟩, ⟨⟩⟩ hc j
  subst hc
  refine qh_then ?_
  refine wh_seq ?_
  refine wh_region ?_
  refine w_p Tb_ok 1 kr ?_
  refine wi_end kr ?_
  refine qh_then ?_
  refine wh_ret ?_
  have h2 := Option.some.inj h2; subst h2
  exact q_end (l := [.int .i64 ((0 : Nat) : Int)]) [] 1 ⟨rfl, rfl⟩ (.inl rfl) kr kr kr
theorem c_field_Supported {p_p : Nat} {r : Bool} (h : field_Supported p_p = some r) : Ct Tryd.prog 145 [.int .u64 p_p] [exF] (fun v L => v = .bool r ∧ L = []) := by
 refine ct_intro Tryd.func145 rfl kr (fun F => ?_)
 unfold field_Supported at h
 refine wh_seq ?_
 refine wh_region ?_
 refine w_p Tb_ok 1 kr ?_
 refine wi_end kr ?_
 refine qh_then ?_
 refine wh_seq ?_
 refine wh_region ?_
 refine w_p Tb_ok 1 kr ?_
 obtain ⟨r1, er1, h1⟩ := bnd h
 refine w_fn [(0, true)] (c_field_Exponent er1) rfl fok_150 kr ?_
 rintro _ _ ⟨hv, rfl⟩; have hv := hv.symm; subst hv
 refine w_p Tb_ok 2 kr ?_
 refine wi_end kr ?_
 refine qh_then ?_
 refine wh_ret ?_
 have h1 := Option.some.inj h1; subst h1
 exact q_end (l := [.bool (r1 != (0 : Int))]) [] 1 ⟨rfl, rfl⟩ (.inl rfl) kr kr kr
theorem c_params_Valid {p_s : T_api_Params} {r : Bool} (h : params_Valid p_s = some r) : Ct Tryd.prog 130 [.agg #[.int .u64 p_s.P, .int .i64 p_s.N, .int .i64 p_s.T]] [exF] (fun v L => v = .bool r ∧ L = []) := by
 refine ct_intro Tryd.func130 rfl kr (fun F => ?_)
 unfold params_Valid at h
 refine wh_seq ?_
 refine wh_region ?_
 refine w_box (t := 24) (v := .agg #[.int .u64 p_s.P, .int .i64 p_s.N, .int .i64 p_s.T]) (cs := [.int .u64 p_s.P, .int .i64 p_s.N, .int .i64 p_s.T]) (cv0 kr) kr (fun q1 => ?_)
 refine WI.hd (y := blkP q1 24 [.int .u64 p_s.P, .int .i64 p_s.N, .int .i64 p_s.T]) kr ?_
 refine w_opP 0 rfl (fun b1 hb => ?_)
 subst hb
 refine w_p Tb_ok 1 kr ?_
 refine wi_end kr ?_
 refine qh_then ?_
 refine wh_seq ?_
 refine wh_region ?_
 refine w_p Tb_ok 1 kr ?_
 refine w_ldB 0 0 rfl kr ti_22 rfl rfl ?_
 obtain ⟨r1, er1, h1⟩ := bnd h
 refine w_fn [(1, true)] (c_field_Supported er1) rfl fok_145 kr ?_
 rintro _ _ ⟨hv, rfl⟩; have hv := hv.symm; subst hv
 refine w_p Tb_ok 1 kr ?_
 rcases bcase h1 with ⟨t1, h2⟩ | ⟨t1, h2⟩
 ·
  refine w_kb (t := 6) t1 kr ?_
  refine w_p Tb_ok 1 kr ?_
  refine w_ldB 0 1 rfl kr ti_3 rfl rfl ?_
  refine w_p Tb_ok 3 kr ?_
  rcases bcase h2 with ⟨t2, h3⟩ | ⟨t2, h3⟩
  ·
   refine w_kb (t := 11) t2 kr ?_
   refine w_p Tb_ok 1 kr ?_
   refine w_ldB 0 1 rfl kr ti_3 rfl rfl ?_
   refine w_p Tb_ok 3 kr ?_
   rcases bcase h3 with ⟨t3, h4⟩ | ⟨t3, h4⟩
   ·
    refine w_kb (t := 16) t3 kr ?_
    refine w_p Tb_ok 1 kr ?_
    refine w_ldB 0 1 rfl kr ti_3 rfl rfl ?_
    obtain ⟨x1, ex1, h5⟩ := bnd h4
    refine w_cv Tb_ok (ecU ex1) kr ?_
    refine w_p Tb_ok 1 kr ?_
    refine w_ldB 0 0 rfl kr ti_22 rfl rfl ?_
    refine w_p Tb_ok 3 kr ?_
    rcases bcase h5 with ⟨t4, h6⟩ | ⟨t4, h6⟩
    ·
     refine w_kb (t := 24) t4 kr ?_
     refine w_p Tb_ok 1 kr ?_
     refine w_ldB 0 2 rfl kr ti_3 rfl rfl ?_
     refine w_p Tb_ok 3 kr ?_
     rcases bcase h6 with ⟨t5, h7⟩ | ⟨t5, h7⟩
     ·
      refine w_kb (t := 29) t5 kr ?_
      refine w_p Tb_ok 1 kr ?_
      refine w_ldB 0 2 rfl kr ti_3 rfl rfl ?_
      refine w_p Tb_ok 1 kr ?_
      refine w_ldB 0 1 rfl kr ti_3 rfl rfl ?_
      refine w_p Tb_ok 3 kr ?_
      rcases bcase h7 with ⟨t6, h8⟩ | ⟨t6, h8⟩
      ·
       refine w_kb (t := 36) t6 kr ?_
       refine w_p Tb_ok 1 kr ?_
       refine w_ldB 0 2 rfl kr ti_3 rfl rfl ?_
       obtain ⟨x2, ex2, h9⟩ := bnd h8
       refine w_bi (zmulI ex2) kr ?_
       refine w_p Tb_ok 1 kr ?_
       refine w_ldB 0 1 rfl kr ti_3 rfl rfl ?_
       refine w_p Tb_ok 3 kr ?_
       refine wi_end kr ?_
       refine qh_then ?_
       refine wh_ret ?_
       have h9 := Option.some.inj h9; subst h9
       exact q_end (l := [.bool (decide (x2 < p_s.N))]) [] 2 ⟨rfl, rfl⟩ (.inl rfl) kr kr kr
      ·
       refine w_kb (t := 36) t6 kr ?_
       refine w_p Tb_ok 8 kr ?_
       refine wi_end kr ?_
       refine qh_then ?_
       refine wh_ret ?_
       have h8 := Option.some.inj h8; subst h8
       exact q_end (l := [.bool false]) [] 2 ⟨rfl, rfl⟩ (.inl rfl) kr kr kr
     ·
      refine w_kb (t := 29) t5 kr ?_
      refine w_p Tb_ok 15 kr ?_
      refine wi_end kr ?_
      refine qh_then ?_
      refine wh_ret ?_
      have h7 := Option.some.inj h7; subst h7
      exact q_end (l := [.bool false]) [] 2 ⟨rfl, rfl⟩ (.inl rfl) kr kr kr
    ·
     refine w_kb (t := 24) t4 kr ?_
     refine w_p Tb_ok 20 kr ?_
     refine wi_end kr ?_
     refine qh_then ?_
     refine wh_ret ?_
     have h6 := Option.some.inj h6; subst h6
     exact q_end (l := [.bool false]) [] 2 ⟨rfl, rfl⟩ (.inl rfl) kr kr kr
   ·
    refine w_kb (t := 16) t3 kr ?_
    refine w_p Tb_ok 28 kr ?_
    refine wi_end kr ?_
    refine qh_then ?_
    refine wh_ret ?_
    have h4 := Option.some.inj h4; subst h4
    exact q_end (l := [.bool false]) [] 2 ⟨rfl, rfl⟩ (.inl rfl) kr kr kr
  ·
   refine w_kb (t := 11) t2 kr ?_
   refine w_p Tb_ok 33 kr ?_
   refine wi_end kr ?_
   refine qh_then ?_
   refine wh_ret ?_
   have h3 := Option.some.inj h3; subst h3
   exact q_end (l := [.bool false]) [] 2 ⟨rfl, rfl⟩ (.inl rfl) kr kr kr
 ·
  refine w_kb (t := 6) t1 kr ?_
  refine w_p Tb_ok 38 kr ?_
  refine wi_end kr ?_
  refine qh_then ?_
  refine wh_ret ?_
  have h2 := Option.some.inj h2; subst h2
  exact q_end (l := [.bool false]) [] 2 ⟨rfl, rfl⟩ (.inl rfl) kr kr kr
theorem c_params_ValidCoalition {p_s : T_api_Params} {p_l : List Int} {vp_l_1 : Value} {r : Bool} (h : params_ValidCoalition p_s p_l = some r) : Ct Tryd.prog 108 [.agg #[.int .u64 p_s.P, .int .i64 p_s.N, .int .i64 p_s.T], vp_l_1] [rdV Kd.i64 vp_l_1 p_l, exF] (fun v L => v = .bool r ∧ L = []) := by
 refine ct_intro Tryd.func108 rfl kr (fun F => ?_)
 unfold params_ValidCoalition at h
 refine wh_seq ?_
 refine wh_region ?_
 refine w_box (t := 24) (v := .agg #[.int .u64 p_s.P, .int .i64 p_s.N, .int .i64 p_s.T]) (cs := [.int .u64 p_s.P, .int .i64 p_s.N, .int .i64 p_s.T]) (cv0 kr) kr (fun q1 => ?_)
 refine WI.hd (y := blkP q1 24 [.int .u64 p_s.P, .int .i64 p_s.N, .int .i64 p_s.T]) kr ?_
 refine w_opP 0 rfl (fun b1 hb => ?_)
 subst hb
 refine w_p Tb_ok 1 kr ?_
 refine wi_end kr ?_
 refine qh_then ?_
 refine wh_seq ?_
 refine wh_seq ?_
 obtain ⟨x1, ej1, h1⟩ := bnd h
 refine h_join (X := Unit) (fun g => [(1, vp_l_1), (2, (.pointer (some ⟨b1, 0, none⟩))), (16, .bool x1)]) (fun g => [rdV Kd.i64 vp_l_1 p_l, blkP (.pointer (some ⟨b1, 0, none⟩)) 24 [.int .u64 p_s.P, .int .i64 p_s.N, .int .i64 p_s.T], exF] ++ F) (fun _ => True) ?_ ?_
 ·
  refine wh_region ?_
  refine w_ldB 0 0 rfl kr ti_24 rfl rfl ?_
  obtain ⟨r1, er1, h2⟩ := bnd ej1
  refine w_fn [(2, true)] (c_params_Valid er1) rfl fok_130 kr ?_
  rintro _ _ ⟨hv, rfl⟩; have hv := hv.symm; subst hv
  refine w_p Tb_ok 2 kr ?_
  rcases bcase h2 with ⟨t1, h3⟩ | ⟨t1, h3⟩
  ·
   refine w_kb (t := 10) t1 kr ?_
   refine w_p Tb_ok 6 kr ?_
   refine wi_end kr ?_
   cases h3
   exact q_join () trivial aK (tH [(1, true), (0, false), (1, true)] 2)
  ·
   refine w_kb (t := 10) t1 kr ?_
   refine w_p Tb_ok 1 kr ?_
   refine w_len (rd_hd 1 rfl) kr ts_25 ?_
   refine w_p Tb_ok 1 kr ?_
   refine w_ldB 0 2 rfl kr ti_3 rfl rfl ?_
   refine w_p Tb_ok 2 kr ?_
   refine wi_end kr ?_
   cases h3
   exact q_join () trivial aK (tH [(1, true), (0, false), (1, true)] 2)
 ·
  rintro ⟨⟩ - j
  refine qh_then ?_
  rcases bcase h1 with ⟨t2, h4⟩ | ⟨t2, h4⟩
  ·
   refine h_ct (b := x1) t2 kr ?_
   refine wh_seq ?_
   refine wh_region ?_
   refine w_p Tb_ok 1 kr ?_
   refine wi_end kr ?_
   refine qh_then ?_
   refine wh_ret ?_
   refine qh_then_ret ?_
   have h4 := Option.some.inj h4; subst h4
   exact q_end (l := [.bool false]) [] 3 ⟨rfl, rfl⟩ (.inl rfl) kr kr kr
  ·
   refine h_cf (b := x1) t2 kr ?_
   refine wh_skip ?_
   refine qh_then ?_
   refine wh_seq ?_
   refine wh_seq ?_
   refine wh_region ?_
   refine w_p Tb_ok 1 kr ?_
   refine w_len (rd_hd 0 rfl) kr ts_25 ?_
   refine w_p Tb_ok 1 kr ?_
   refine wi_end kr ?_
   refine qh_then ?_
   refine h_lenle (rd_lenle 0 rfl) (fun hN1 => ?_)
   obtain ⟨r2, el1, h5⟩ := bnd h4
   refine h_join (X := Unit × Unit) (fun g => []) (fun g => [exF] ++ F) (fun g => r2 = .go g.2) ?_ ?_
   ·
    refine wh_block ?_
    refine h_rg (fun (k1 : Nat) (st : Unit) (g : Unit) => [(1, vp_l_1), (2, (.pointer (some ⟨b1, 0, none⟩))), (17, vp_l_1), (18, .int .i64 ((p_l.length : Nat) : Int)), (19, .int .i64 ((k1 : Nat) : Int))]) (fun (k1 : Nat) (st : Unit) (g : Unit) => [rdV Kd.i64 vp_l_1 p_l, blkP (.pointer (some ⟨b1, 0, none⟩)) 24 [.int .u64 p_s.P, .int .i64 p_s.N, .int .i64 p_s.T], exF] ++ F) () el1 (Nat.zero_le _) aK (tH [(0, true), (1, false), (1, true)] 2) ?_ ?_
    ·
     rintro ⟨⟩ ⟨⟩ hr1 j
     refine wh_seq ?_
     refine wh_region ?_
     refine w_p Tb_ok 1 kr ?_
     refine wi_end kr ?_
     refine qh_then ?_
     refine wh_seq ?_
     refine h_cf (b := (decide ((((p_l.length) : Nat) : Int) < ((p_l.length : Nat) : Int)))) rgF kr ?_
     refine wh_exit ?_
     refine qh_then_exit ?_
     refine q_rzX ?_
     refine qh_block_exit ?_
     exact q_join ((), ()) hr1 aK (tH [(2, true)] 3)
    ·
     rintro rem k1 ⟨⟩ ⟨⟩ o1 hk1 h6 hn1 j
     have h6 : params_ValidCoalition_L0 p_s p_l k1 = some o1 := h6
     unfold params_ValidCoalition_L0 at h6
     refine wh_seq ?_
     refine wh_region ?_
     refine w_p Tb_ok 1 kr ?_
     refine wi_end kr ?_
     refine qh_then ?_
     refine wh_seq ?_
     refine h_ct (b := (decide (((k1 : Nat) : Int) < ((p_l.length : Nat) : Int)))) (rgT hk1) kr ?_
     refine wh_skip ?_
     refine qh_then ?_
     refine wh_seq ?_
     refine wh_block ?_
     refine wh_seq ?_
     refine wh_region ?_
     refine w_p Tb_ok 1 kr ?_
     obtain ⟨x2, ex2, h7⟩ := bnd h6
     refine w_ix (k := .i64) (rd_hd 0 rfl) (nbd ex2) rfl kr ts_25 ti_3 ?_
     refine w_ldR 0 0 rfl ex2 kr ti_3 rfl rfl ?_
     rintro _
     refine w_p Tb_ok 2 kr ?_
     refine wi_end kr ?_
     refine qh_then ?_
     refine wh_seq ?_
     refine wh_region ?_
     refine w_p Tb_ok 3 kr ?_
     rcases bcase h7 with ⟨t3, h8⟩ | ⟨t3, h8⟩
     ·
      refine w_kb (t := 26) t3 kr ?_
      refine w_p Tb_ok 18 kr ?_
      refine wi_end kr ?_
      refine qh_then ?_
      refine h_ct (b := true) rfl kr ?_
      refine wh_seq ?_
      refine wh_region ?_
      refine w_p Tb_ok 1 kr ?_
      refine wi_end kr ?_
      refine qh_then ?_
      refine wh_ret ?_
      refine qh_block_ret ?_
      refine qh_then_ret ?_
      refine q_rgR ?_
      refine qh_block_ret ?_
      refine q_joinR ?_
      refine qh_then_ret ?_
      have h8 := Option.some.inj h8; subst h8
      have hn := (show _ = _ from hn1); subst hn
      have h5 := Option.some.inj (show some _ = some _ from h5); subst h5
      exact q_end (l := [.bool false]) [] 3 ⟨rfl, rfl⟩ (.inl rfl) kr kr kr
     ·
      refine w_kb (t := 26) t3 kr ?_
      refine w_p Tb_ok 2 kr ?_
      refine w_ldB 1 1 rfl kr ti_3 rfl rfl ?_
      refine w_p Tb_ok 3 kr ?_
      rcases bcase h8 with ⟨t4, h9⟩ | ⟨t4, h9⟩
      ·
       refine w_kb (t := 32) t4 kr ?_
       refine w_p Tb_ok 12 kr ?_
       refine wi_end kr ?_
       refine qh_then ?_
       refine h_ct (b := true) rfl kr ?_
       refine wh_seq ?_
       refine wh_region ?_
       refine w_p Tb_ok 1 kr ?_
       refine wi_end kr ?_
       refine qh_then ?_
       refine wh_ret ?_
       refine qh_block_ret ?_
       refine qh_then_ret ?_
       refine q_rgR ?_
       refine qh_block_ret ?_
       refine q_joinR ?_
       refine qh_then_ret ?_
       have h9 := Option.some.inj h9; subst h9
       have hn := (show _ = _ from hn1); subst hn
       have h5 := Option.some.inj (show some _ = some _ from h5); subst h5
       exact q_end (l := [.bool false]) [] 3 ⟨rfl, rfl⟩ (.inl rfl) kr kr kr
      ·
       refine w_kb (t := 32) t4 kr ?_
       refine w_p Tb_ok 3 kr ?_
       rcases bcase h9 with ⟨t5, h10⟩ | ⟨t5, h10⟩
       ·
        refine w_kb (t := 35) t5 kr ?_
        refine w_p Tb_ok 2 kr ?_
        obtain ⟨x3, ex3, h11⟩ := bnd h10
        refine w_bi (zsubI ex3) kr ?_
        obtain ⟨x4, ex4, h12⟩ := bnd h11
        refine w_ix (k := .i64) (rd_hd 0 rfl) (ib ex4) (iz ex4) kr ts_25 ti_3 ?_
        refine w_ldR 0 0 rfl (ig ex4) kr ti_3 rfl rfl ?_
        rintro _
        refine w_p Tb_ok 4 kr ?_
        refine wi_end kr ?_
        refine qh_then ?_
        rcases bcase h12 with ⟨t6, h13⟩ | ⟨t6, h13⟩
        ·
         refine h_ct (b := (decide (x4 ≥ x2))) t6 kr ?_
         refine wh_seq ?_
         refine wh_region ?_
         refine w_p Tb_ok 1 kr ?_
         refine wi_end kr ?_
         refine qh_then ?_
         refine wh_ret ?_
         refine qh_block_ret ?_
         refine qh_then_ret ?_
         refine q_rgR ?_
         refine qh_block_ret ?_
         refine q_joinR ?_
         refine qh_then_ret ?_
         have h13 := Option.some.inj h13; subst h13
         have hn := (show _ = _ from hn1); subst hn
         have h5 := Option.some.inj (show some _ = some _ from h5); subst h5
         exact q_end (l := [.bool false]) [] 3 ⟨rfl, rfl⟩ (.inl rfl) kr kr kr
        ·
         refine h_cf (b := (decide (x4 ≥ x2))) t6 kr ?_
         refine wh_skip ?_
         refine qh_block_normal ?_
         refine qh_then ?_
         refine wh_region ?_
         refine w_bi (zinc hk1 hN1) kr ?_
         refine w_p Tb_ok 1 kr ?_
         refine wi_end kr ?_
         have h13 := Option.some.inj h13; subst h13
         exact q_rgo () hn1 aK (tH [(0, true), (1, false), (1, true)] 2)
       ·
        refine w_kb (t := 35) t5 kr ?_
        refine w_p Tb_ok 9 kr ?_
        refine wi_end kr ?_
        refine qh_then ?_
        refine h_cf (b := false) rfl kr ?_
        refine wh_skip ?_
        refine qh_block_normal ?_
        refine qh_then ?_
        refine wh_region ?_
        refine w_bi (zinc hk1 hN1) kr ?_
        refine w_p Tb_ok 1 kr ?_
        refine wi_end kr ?_
        have h10 := Option.some.inj h10; subst h10
        exact q_rgo () hn1 aK (tH [(0, true), (1, false), (1, true)] 2)
   ·
    rintro ⟨⟨⟩, ⟨⟩⟩ hc j
    subst hc
    refine qh_then ?_
    refine wh_seq ?_
    refine wh_region ?_
    refine w_p Tb_ok 1 kr ?_
    refine wi_end kr ?_
    refine qh_then ?_
    refine wh_ret ?_
    have h5 := Option.some.inj h5; subst h5
    exact q_end (l := [.bool true]) [] 1 ⟨rfl, rfl⟩ (.inl rfl) kr kr kr
theorem c_params_lie {p_s : T_api_Params} {p_l : T_api_Deviation} {r : Bool} (h : params_lie p_s p_l = some r) : Ct Tryd.prog 111 [.agg #[.int .u64 p_s.P, .int .i64 p_s.N, .int .i64 p_s.T], .agg #[.int .i64 p_l.Round, .int .i64 p_l.From, .int .i64 p_l.To, .int .i64 p_l.At, .int .i64 p_l.Kind, .int .u64 p_l.K, .int .i64 p_l.Of, .int .i64 p_l.SrcIndex]] [] (fun v L => v = .bool r ∧ L = []) := by
 refine ct_intro Tryd.func111 rfl kr (fun F => ?_)
 unfold params_lie at h
 refine wh_seq ?_
 refine wh_region ?_
 refine w_box (t := 24) (v := .agg #[.int .u64 p_s.P, .int .i64 p_s.N, .int .i64 p_s.T]) (cs := [.int .u64 p_s.P, .int .i64 p_s.N, .int .i64 p_s.T]) (cv0 kr) kr (fun q1 => ?_)
 refine WI.hd (y := blkP q1 24 [.int .u64 p_s.P, .int .i64 p_s.N, .int .i64 p_s.T]) kr ?_
 refine w_opP 0 rfl (fun b1 hb => ?_)
 subst hb
 refine w_box (t := 124) (v := .agg #[.int .i64 p_l.Round, .int .i64 p_l.From, .int .i64 p_l.To, .int .i64 p_l.At, .int .i64 p_l.Kind, .int .u64 p_l.K, .int .i64 p_l.Of, .int .i64 p_l.SrcIndex]) (cs := [.int .i64 p_l.Round, .int .i64 p_l.From, .int .i64 p_l.To, .int .i64 p_l.At, .int .i64 p_l.Kind, .int .u64 p_l.K, .int .i64 p_l.Of, .int .i64 p_l.SrcIndex]) (cv0 kr) kr (fun q2 => ?_)
 refine WI.hd (y := blkP q2 124 [.int .i64 p_l.Round, .int .i64 p_l.From, .int .i64 p_l.To, .int .i64 p_l.At, .int .i64 p_l.Kind, .int .u64 p_l.K, .int .i64 p_l.Of, .int .i64 p_l.SrcIndex]) kr ?_
 refine w_opP 0 rfl (fun b2 hb => ?_)
 subst hb
 refine w_p Tb_ok 1 kr ?_
 refine wi_end kr ?_
 refine qh_then ?_
 refine wh_seq ?_
 refine wh_region ?_
 refine w_p Tb_ok 1 kr ?_
 refine wi_end kr ?_
 refine qh_then ?_
 refine wh_seq ?_
 refine wh_seq ?_
 refine wh_region ?_
 refine w_p Tb_ok 1 kr ?_
 refine w_ldB 0 4 rfl kr ti_3 rfl rfl ?_
 refine w_p Tb_ok 1 kr ?_
 refine wi_end kr ?_
 refine qh_then ?_
 obtain ⟨x1, ej1, h1⟩ := bnd h
 refine h_join (X := Unit) (fun g => [(2, (.pointer (some ⟨b1, 0, none⟩))), (3, (.pointer (some ⟨b2, 0, none⟩))), (5, .int .i64 x1)]) (fun g => [blkP (.pointer (some ⟨b1, 0, none⟩)) 24 [.int .u64 p_s.P, .int .i64 p_s.N, .int .i64 p_s.T], blkP (.pointer (some ⟨b2, 0, none⟩)) 124 [.int .i64 p_l.Round, .int .i64 p_l.From, .int .i64 p_l.To, .int .i64 p_l.At, .int .i64 p_l.Kind, .int .u64 p_l.K, .int .i64 p_l.Of, .int .i64 p_l.SrcIndex]] ++ F) (fun _ => True) ?_ ?_
 ·
  rcases bcase ej1 with ⟨t1, h2⟩ | ⟨t1, h2⟩
  ·
   refine h_ct (b := (p_l.Kind == (3 : Int))) t1 kr ?_
   refine wh_region ?_
   refine w_p Tb_ok 1 kr ?_
   refine wi_end kr ?_
   cases h2
   exact q_join () trivial aK (tH [(1, false), (0, false)] 0)
  ·
   refine h_cf (b := (p_l.Kind == (3 : Int))) t1 kr ?_
   refine wh_skip ?_
   cases h2
   exact q_join () trivial aK (tH [(1, false), (0, false)] 0)
 ·
  rintro ⟨⟩ - j
  refine qh_then ?_
  refine wh_seq ?_
  refine wh_region ?_
  refine w_p Tb_ok 1 kr ?_
  refine w_ldB 1 0 rfl kr ti_3 rfl rfl ?_
  refine w_p Tb_ok 2 kr ?_
  rcases bcase h1 with ⟨t2, h3⟩ | ⟨t2, h3⟩
  ·
   refine w_kb (t := 12) t2 kr ?_
   refine w_p Tb_ok 1 kr ?_
   refine w_ldB 1 3 rfl kr ti_3 rfl rfl ?_
   refine w_p Tb_ok 3 kr ?_
   rcases bcase h3 with ⟨t3, h4⟩ | ⟨t3, h4⟩
   ·
    refine w_kb (t := 17) t3 kr ?_
    refine w_p Tb_ok 1 kr ?_
    refine w_ldB 1 7 rfl kr ti_3 rfl rfl ?_
    refine w_p Tb_ok 3 kr ?_
    rcases bcase h4 with ⟨t4, h5⟩ | ⟨t4, h5⟩
    ·
     refine w_kb (t := 22) t4 kr ?_
     refine w_p Tb_ok 1 kr ?_
     refine w_ldB 1 1 rfl kr ti_3 rfl rfl ?_
     refine w_p Tb_ok 3 kr ?_
     rcases bcase h5 with ⟨t5, h6⟩ | ⟨t5, h6⟩
     ·
      refine w_kb (t := 27) t5 kr ?_
      refine w_p Tb_ok 1 kr ?_
      refine w_ldB 1 1 rfl kr ti_3 rfl rfl ?_
      refine w_p Tb_ok 1 kr ?_
      refine w_ldB 0 1 rfl kr ti_3 rfl rfl ?_
      refine w_p Tb_ok 3 kr ?_
      rcases bcase h6 with ⟨t6, h7⟩ | ⟨t6, h7⟩
      ·
       refine w_kb (t := 34) t6 kr ?_
       refine w_p Tb_ok 1 kr ?_
       refine w_ldB 1 2 rfl kr ti_3 rfl rfl ?_
       refine w_p Tb_ok 3 kr ?_
       rcases bcase h7 with ⟨t7, h8⟩ | ⟨t7, h8⟩
       ·
        refine w_kb (t := 39) t7 kr ?_
        refine w_p Tb_ok 1 kr ?_
        refine w_ldB 1 2 rfl kr ti_3 rfl rfl ?_
        refine w_p Tb_ok 1 kr ?_
        refine w_ldB 0 1 rfl kr ti_3 rfl rfl ?_
        refine w_p Tb_ok 3 kr ?_
        rcases bcase h8 with ⟨t8, h9⟩ | ⟨t8, h9⟩
        ·
         refine w_kb (t := 46) t8 kr ?_
         refine w_p Tb_ok 1 kr ?_
         refine w_ldB 1 4 rfl kr ti_3 rfl rfl ?_
         refine w_p Tb_ok 3 kr ?_
         rcases bcase h9 with ⟨t9, h10⟩ | ⟨t9, h10⟩
         ·
          refine w_kb (t := 51) t9 kr ?_
          refine w_p Tb_ok 1 kr ?_
          refine w_ldB 1 4 rfl kr ti_3 rfl rfl ?_
          refine w_p Tb_ok 3 kr ?_
          rcases bcase h10 with ⟨t10, h11⟩ | ⟨t10, h11⟩
          ·
           refine w_kb (t := 56) t10 kr ?_
           refine w_p Tb_ok 1 kr ?_
           refine w_ldB 1 6 rfl kr ti_3 rfl rfl ?_
           refine w_p Tb_ok 4 kr ?_
           rcases bcase h11 with ⟨t11, h12⟩ | ⟨t11, h12⟩
           ·
            refine w_kb (t := 62) t11 kr ?_
            refine w_p Tb_ok 1 kr ?_
            refine w_ldB 1 6 rfl kr ti_3 rfl rfl ?_
            refine w_p Tb_ok 1 kr ?_
            refine w_ldB 0 1 rfl kr ti_3 rfl rfl ?_
            refine w_p Tb_ok 3 kr ?_
            refine wi_end kr ?_
            refine qh_then ?_
            refine wh_ret ?_
            have h12 := Option.some.inj h12; subst h12
            exact q_end (l := [.bool (decide (p_l.Of ≤ p_s.N))]) [] 2 ⟨rfl, rfl⟩ (.inl rfl) kr kr kr
           ·
            refine w_kb (t := 62) t11 kr ?_
            refine w_p Tb_ok 7 kr ?_
            refine wi_end kr ?_
            refine qh_then ?_
            refine wh_ret ?_
            have h12 := Option.some.inj h12; subst h12
            exact q_end (l := [.bool false]) [] 2 ⟨rfl, rfl⟩ (.inl rfl) kr kr kr
          ·
           refine w_kb (t := 56) t10 kr ?_
           refine w_p Tb_ok 13 kr ?_
           refine wi_end kr ?_
           refine qh_then ?_
           refine wh_ret ?_
           have h11 := Option.some.inj h11; subst h11
           exact q_end (l := [.bool false]) [] 2 ⟨rfl, rfl⟩ (.inl rfl) kr kr kr
         ·
          refine w_kb (t := 51) t9 kr ?_
          refine w_p Tb_ok 18 kr ?_
          refine wi_end kr ?_
          refine qh_then ?_
          refine wh_ret ?_
          have h10 := Option.some.inj h10; subst h10
          exact q_end (l := [.bool false]) [] 2 ⟨rfl, rfl⟩ (.inl rfl) kr kr kr
        ·
         refine w_kb (t := 46) t8 kr ?_
         refine w_p Tb_ok 23 kr ?_
         refine wi_end kr ?_
         refine qh_then ?_
         refine wh_ret ?_
         have h9 := Option.some.inj h9; subst h9
         exact q_end (l := [.bool false]) [] 2 ⟨rfl, rfl⟩ (.inl rfl) kr kr kr
       ·
        refine w_kb (t := 39) t7 kr ?_
        refine w_p Tb_ok 30 kr ?_
        refine wi_end kr ?_
        refine qh_then ?_
        refine wh_ret ?_
        have h8 := Option.some.inj h8; subst h8
        exact q_end (l := [.bool false]) [] 2 ⟨rfl, rfl⟩ (.inl rfl) kr kr kr
      ·
       refine w_kb (t := 34) t6 kr ?_
       refine w_p Tb_ok 35 kr ?_
       refine wi_end kr ?_
       refine qh_then ?_
       refine wh_ret ?_
       have h7 := Option.some.inj h7; subst h7
       exact q_end (l := [.bool false]) [] 2 ⟨rfl, rfl⟩ (.inl rfl) kr kr kr
     ·
      refine w_kb (t := 27) t5 kr ?_
      refine w_p Tb_ok 42 kr ?_
      refine wi_end kr ?_
      refine qh_then ?_
      refine wh_ret ?_
      have h6 := Option.some.inj h6; subst h6
      exact q_end (l := [.bool false]) [] 2 ⟨rfl, rfl⟩ (.inl rfl) kr kr kr
    ·
     refine w_kb (t := 22) t4 kr ?_
     refine w_p Tb_ok 47 kr ?_
     refine wi_end kr ?_
     refine qh_then ?_
     refine wh_ret ?_
     have h5 := Option.some.inj h5; subst h5
     exact q_end (l := [.bool false]) [] 2 ⟨rfl, rfl⟩ (.inl rfl) kr kr kr
   ·
    refine w_kb (t := 17) t3 kr ?_
    refine w_p Tb_ok 52 kr ?_
    refine wi_end kr ?_
    refine qh_then ?_
    refine wh_ret ?_
    have h4 := Option.some.inj h4; subst h4
    exact q_end (l := [.bool false]) [] 2 ⟨rfl, rfl⟩ (.inl rfl) kr kr kr
  ·
   refine w_kb (t := 12) t2 kr ?_
   refine w_p Tb_ok 57 kr ?_
   refine wi_end kr ?_
   refine qh_then ?_
   refine wh_ret ?_
   have h3 := Option.some.inj h3; subst h3
   exact q_end (l := [.bool false]) [] 2 ⟨rfl, rfl⟩ (.inl rfl) kr kr kr
theorem c_params_ValidScenario_1 {p_l : T_api_Deviation} {p_a1 : T_api_Scenario} {bp_a1 : Nat} {vp_a1_1 : Value} {vp_a1_2 : Value} {vp_a1_3 : Value} {r : Bool} (h : params_ValidScenario_1 p_l p_a1 = some r) : Ct Tryd.prog 110 [.agg #[.int .i64 p_l.Round, .int .i64 p_l.From, .int .i64 p_l.To, .int .i64 p_l.At, .int .i64 p_l.Kind, .int .u64 p_l.K, .int .i64 p_l.Of, .int .i64 p_l.SrcIndex], (.pointer (some ⟨bp_a1, 0, none⟩))] [blkP (.pointer (some ⟨bp_a1, 0, none⟩)) 29 [.int .u64 p_a1.S.P, .int .i64 p_a1.S.N, .int .i64 p_a1.S.T, vp_a1_1, vp_a1_2, vp_a1_3], rdV Kd.i64 vp_a1_1 p_a1.Corrupt, rdV K_api_Deviation vp_a1_2 p_a1.Deviations, rdV (Kd.sl Kd.u64) vp_a1_3 p_a1.Tapes] (fun v L => v = .bool r ∧ L = [blkP (.pointer (some ⟨bp_a1, 0, none⟩)) 29 [.int .u64 p_a1.S.P, .int .i64 p_a1.S.N, .int .i64 p_a1.S.T, vp_a1_1, vp_a1_2, vp_a1_3]]) := by
 refine ct_intro Tryd.func110 rfl kr (fun F => ?_)
 unfold params_ValidScenario_1 at h
 refine wh_seq ?_
 refine wh_region ?_
 refine w_box (t := 124) (v := .agg #[.int .i64 p_l.Round, .int .i64 p_l.From, .int .i64 p_l.To, .int .i64 p_l.At, .int .i64 p_l.Kind, .int .u64 p_l.K, .int .i64 p_l.Of, .int .i64 p_l.SrcIndex]) (cs := [.int .i64 p_l.Round, .int .i64 p_l.From, .int .i64 p_l.To, .int .i64 p_l.At, .int .i64 p_l.Kind, .int .u64 p_l.K, .int .i64 p_l.Of, .int .i64 p_l.SrcIndex]) (cv0 kr) kr (fun q1 => ?_)
 refine WI.hd (y := blkP q1 124 [.int .i64 p_l.Round, .int .i64 p_l.From, .int .i64 p_l.To, .int .i64 p_l.At, .int .i64 p_l.Kind, .int .u64 p_l.K, .int .i64 p_l.Of, .int .i64 p_l.SrcIndex]) kr ?_
 refine w_opP 0 rfl (fun b1 hb => ?_)
 subst hb
 refine w_p Tb_ok 1 kr ?_
 refine wi_end kr ?_
 refine qh_then ?_
 refine wh_seq ?_
 refine wh_region ?_
 refine w_p Tb_ok 1 kr ?_
 refine w_ldB 1 0 rfl kr ti_24 rfl rfl ?_
 refine w_ldB 0 0 rfl kr ti_124 rfl rfl ?_
 obtain ⟨r1, er1, h1⟩ := bnd h
 refine w_fn [] (c_params_lie er1) rfl fok_111 kr ?_
 rintro _ _ ⟨hv, rfl⟩; have hv := hv.symm; subst hv
 refine w_p Tb_ok 2 kr ?_
 refine wi_end kr ?_
 refine qh_then ?_
 refine wh_ret ?_
 have h1 := Option.some.inj h1; subst h1
 exact q_end (l := [.bool (!r1)]) [(1, false)] 4 ⟨rfl, rfl⟩ (.inl rfl) kr kr kr
theorem c_slices_IndexFunc_Lapi_Deviation_api_Deviation_params_ValidScenario_1 {p_s : List T_api_Deviation} {p_f_c0 : T_api_Scenario} {vp_s_1 : Value} {bp_f_c0 : Nat} {vp_f_c0_1 : Value} {vp_f_c0_2 : Value} {vp_f_c0_3 : Value} {r : Int} (h : slices_IndexFunc_Lapi_Deviation_api_Deviation_params_ValidScenario_1 p_s p_f_c0 = some r) : Ct Tryd.prog 131 [vp_s_1, .func (.func 110) #[] #[(.pointer (some ⟨bp_f_c0, 0, none⟩))]] [rdV K_api_Deviation vp_s_1 p_s, blkP (.pointer (some ⟨bp_f_c0, 0, none⟩)) 29 [.int .u64 p_f_c0.S.P, .int .i64 p_f_c0.S.N, .int .i64 p_f_c0.S.T, vp_f_c0_1, vp_f_c0_2, vp_f_c0_3], rdV Kd.i64 vp_f_c0_1 p_f_c0.Corrupt, rdV K_api_Deviation vp_f_c0_2 p_f_c0.Deviations, rdV (Kd.sl Kd.u64) vp_f_c0_3 p_f_c0.Tapes] (fun v L => v = .int .i64 r ∧ L = [blkP (.pointer (some ⟨bp_f_c0, 0, none⟩)) 29 [.int .u64 p_f_c0.S.P, .int .i64 p_f_c0.S.N, .int .i64 p_f_c0.S.T, vp_f_c0_1, vp_f_c0_2, vp_f_c0_3]]) := by
 refine ct_intro Tryd.func131 rfl kr (fun F => ?_)
 unfold slices_IndexFunc_Lapi_Deviation_api_Deviation_params_ValidScenario_1 at h
 refine wh_seq ?_
 refine wh_region ?_
 refine w_p Tb_ok 1 kr ?_
 refine wi_end kr ?_
 refine qh_then ?_
 refine wh_seq ?_
 refine wh_seq ?_
 refine wh_region ?_
 refine w_p Tb_ok 1 kr ?_
 refine w_len (rd_hd 0 rfl) kr ts_26 ?_
 refine w_p Tb_ok 1 kr ?_
 refine wi_end kr ?_
 refine qh_then ?_
 refine h_lenle (rd_lenle 0 rfl) (fun hN1 => ?_)
 obtain ⟨r1, el1, h1⟩ := bnd h
 refine h_join (X := Unit × Unit) (fun g => []) (fun g => [blkP (.pointer (some ⟨bp_f_c0, 0, none⟩)) 29 [.int .u64 p_f_c0.S.P, .int .i64 p_f_c0.S.N, .int .i64 p_f_c0.S.T, vp_f_c0_1, vp_f_c0_2, vp_f_c0_3], rdV Kd.i64 vp_f_c0_1 p_f_c0.Corrupt, rdV K_api_Deviation vp_f_c0_2 p_f_c0.Deviations, rdV (Kd.sl Kd.u64) vp_f_c0_3 p_f_c0.Tapes] ++ F) (fun g => r1 = .go g.2) ?_ ?_
 ·
  refine wh_block ?_
  refine h_rg (fun (k1 : Nat) (st : Unit) (g : Unit) => [(0, vp_s_1), (1, .func (.func 110) #[] #[(.pointer (some ⟨bp_f_c0, 0, none⟩))]), (7, .int .i64 ((p_s.length : Nat) : Int)), (8, .int .i64 ((k1 : Nat) : Int))]) (fun (k1 : Nat) (st : Unit) (g : Unit) => [rdV K_api_Deviation vp_s_1 p_s, blkP (.pointer (some ⟨bp_f_c0, 0, none⟩)) 29 [.int .u64 p_f_c0.S.P, .int .i64 p_f_c0.S.N, .int .i64 p_f_c0.S.T, vp_f_c0_1, vp_f_c0_2, vp_f_c0_3], rdV Kd.i64 vp_f_c0_1 p_f_c0.Corrupt, rdV K_api_Deviation vp_f_c0_2 p_f_c0.Deviations, rdV (Kd.sl Kd.u64) vp_f_c0_3 p_f_c0.Tapes] ++ F) () el1 (Nat.zero_le _) aK (tH [(0, true), (1, false), (1, true), (2, true), (3, true)] 4) ?_ ?_
  ·
   rintro ⟨⟩ ⟨⟩ hr1 j
   refine wh_seq ?_
   refine wh_region ?_
   refine w_p Tb_ok 1 kr ?_
   refine wi_end kr ?_
   refine qh_then ?_
   refine wh_seq ?_
   refine h_cf (b := (decide ((((p_s.length) : Nat) : Int) < ((p_s.length : Nat) : Int)))) rgF kr ?_
   refine wh_exit ?_
   refine qh_then_exit ?_
   refine q_rzX ?_
   refine qh_block_exit ?_
   exact q_join ((), ()) hr1 aK (tH [(1, false), (1, true), (2, true), (3, true)] 4)
  ·
   rintro rem k1 ⟨⟩ ⟨⟩ o1 hk1 h2 hn1 j
   have h2 : slices_IndexFunc_Lapi_Deviation_api_Deviation_params_ValidScenario_1_L0 p_s p_f_c0 k1 = some o1 := h2
   unfold slices_IndexFunc_Lapi_Deviation_api_Deviation_params_ValidScenario_1_L0 at h2
   refine wh_seq ?_
   refine wh_region ?_
   refine w_p Tb_ok 1 kr ?_
   refine wi_end kr ?_
   refine qh_then ?_
   refine wh_seq ?_
   refine h_ct (b := (decide (((k1 : Nat) : Int) < ((p_s.length : Nat) : Int)))) (rgT hk1) kr ?_
   refine wh_skip ?_
   refine qh_then ?_
   refine wh_seq ?_
   refine wh_block ?_
   refine wh_seq ?_
   refine wh_region ?_
   refine w_p Tb_ok 2 kr ?_
   refine wi_end kr ?_
   refine qh_then ?_
   refine wh_seq ?_
   refine wh_region ?_
   refine w_p Tb_ok 3 kr ?_
   obtain ⟨x1, ex1, h3⟩ := bnd h2
   refine w_ix (k := .i64) (rd_hd 0 rfl) (nbd ex1) rfl kr ts_26 ti_124 ?_
   refine w_ldR 0 0 rfl ex1 kr ti_124 rfl rfl ?_
   rintro ⟨_, _, _, _, _, _, _, _⟩
   obtain ⟨r2, er2, h4⟩ := bnd h3
   refine w_fn [(1, false), (1, true), (2, true), (3, true)] (c_params_ValidScenario_1 er2) rfl fok_110 kr ?_
   rintro _ _ ⟨hv, rfl⟩; have hv := hv.symm; subst hv
   refine wi_end kr ?_
   refine qh_then ?_
   rcases bcase h4 with ⟨t1, h5⟩ | ⟨t1, h5⟩
   ·
    refine h_ct (b := r2) t1 kr ?_
    refine wh_seq ?_
    refine wh_region ?_
    refine w_p Tb_ok 2 kr ?_
    refine wi_end kr ?_
    refine qh_then ?_
    refine wh_ret ?_
    refine qh_block_ret ?_
    refine qh_then_ret ?_
    refine q_rgR ?_
    refine qh_block_ret ?_
    refine q_joinR ?_
    refine qh_then_ret ?_
    have h5 := Option.some.inj h5; subst h5
    have hn := (show _ = _ from hn1); subst hn
    have h1 := Option.some.inj (show some _ = some _ from h1); subst h1
    exact q_end (l := [.int .i64 ((k1 : Nat) : Int)]) [(0, false)] 4 ⟨rfl, rfl⟩ (.inl rfl) kr kr kr
   ·
    refine h_cf (b := r2) t1 kr ?_
    refine wh_skip ?_
    refine qh_block_normal ?_
    refine qh_then ?_
    refine wh_region ?_
    refine w_bi (zinc hk1 hN1) kr ?_
    refine w_p Tb_ok 1 kr ?_
    refine wi_end kr ?_
    have h5 := Option.some.inj h5; subst h5
    exact q_rgo () hn1 aK (tH [(1, true), (0, false), (1, true), (2, true), (3, true)] 4)
 ·
  rintro ⟨⟨⟩, ⟨⟩⟩ hc j
  subst hc
  refine qh_then ?_
  refine wh_seq ?_
  refine wh_region ?_
  refine w_p Tb_ok 1 kr ?_
  refine wi_end kr ?_
  refine qh_then ?_
  refine wh_ret ?_
  have h1 := Option.some.inj h1; subst h1
  exact q_end (l := [.int .i64 (-1)]) [(0, false)] 3 ⟨rfl, rfl⟩ (.inl rfl) kr kr kr
theorem c_slices_ContainsFunc_Lapi_Deviation_api_Deviation_params_ValidScenario_1 {p_s : List T_api_Deviation} {p_f_c0 : T_api_Scenario} {vp_s_1 : Value} {bp_f_c0 : Nat} {vp_f_c0_1 : Value} {vp_f_c0_2 : Value} {vp_f_c0_3 : Value} {r : Bool} (h : slices_ContainsFunc_Lapi_Deviation_api_Deviation_params_ValidScenario_1 p_s p_f_c0 = some r) : Ct Tryd.prog 109 [vp_s_1, .func (.func 110) #[] #[(.pointer (some ⟨bp_f_c0, 0, none⟩))]] [rdV K_api_Deviation vp_s_1 p_s, blkP (.pointer (some ⟨bp_f_c0, 0, none⟩)) 29 [.int .u64 p_f_c0.S.P, .int .i64 p_f_c0.S.N, .int .i64 p_f_c0.S.T, vp_f_c0_1, vp_f_c0_2, vp_f_c0_3], rdV Kd.i64 vp_f_c0_1 p_f_c0.Corrupt, rdV K_api_Deviation vp_f_c0_2 p_f_c0.Deviations, rdV (Kd.sl Kd.u64) vp_f_c0_3 p_f_c0.Tapes] (fun v L => v = .bool r ∧ L = [blkP (.pointer (some ⟨bp_f_c0, 0, none⟩)) 29 [.int .u64 p_f_c0.S.P, .int .i64 p_f_c0.S.N, .int .i64 p_f_c0.S.T, vp_f_c0_1, vp_f_c0_2, vp_f_c0_3]]) := by
 refine ct_intro Tryd.func109 rfl kr (fun F => ?_)
 unfold slices_ContainsFunc_Lapi_Deviation_api_Deviation_params_ValidScenario_1 at h
 refine wh_seq ?_
 refine wh_region ?_
 refine w_p Tb_ok 1 kr ?_
 refine wi_end kr ?_
 refine qh_then ?_
 refine wh_seq ?_
 refine wh_region ?_
 refine w_p Tb_ok 2 kr ?_
 obtain ⟨r1, er1, h1⟩ := bnd h
 refine w_fn [(0, true), (1, false), (1, true), (2, true), (3, true)] (c_slices_IndexFunc_Lapi_Deviation_api_Deviation_params_ValidScenario_1 er1) rfl fok_131 kr ?_
 rintro _ _ ⟨hv, rfl⟩; have hv := hv.symm; subst hv
 refine w_p Tb_ok 2 kr ?_
 refine wi_end kr ?_
 refine qh_then ?_
 refine wh_ret ?_
 have h1 := Option.some.inj h1; subst h1
 exact q_end (l := [.bool (decide (r1 ≥ (0 : Int)))]) [(0, false)] 4 ⟨rfl, rfl⟩ (.inl rfl) kr kr kr
theorem c_params_ValidScenario_2_1 {p_x : Nat} {p_a1 : T_api_Scenario} {bp_a1 : Nat} {vp_a1_1 : Value} {vp_a1_2 : Value} {vp_a1_3 : Value} {r : Bool} (h : params_ValidScenario_2_1 p_x p_a1 = some r) : Ct Tryd.prog 115 [.int .u64 p_x, (.pointer (some ⟨bp_a1, 0, none⟩))] [blkP (.pointer (some ⟨bp_a1, 0, none⟩)) 29 [.int .u64 p_a1.S.P, .int .i64 p_a1.S.N, .int .i64 p_a1.S.T, vp_a1_1, vp_a1_2, vp_a1_3], rdV Kd.i64 vp_a1_1 p_a1.Corrupt, rdV K_api_Deviation vp_a1_2 p_a1.Deviations, rdV (Kd.sl Kd.u64) vp_a1_3 p_a1.Tapes] (fun v L => v = .bool r ∧ L = [blkP (.pointer (some ⟨bp_a1, 0, none⟩)) 29 [.int .u64 p_a1.S.P, .int .i64 p_a1.S.N, .int .i64 p_a1.S.T, vp_a1_1, vp_a1_2, vp_a1_3]]) := by
 refine ct_intro Tryd.func115 rfl kr (fun F => ?_)
 unfold params_ValidScenario_2_1 at h
 refine wh_seq ?_
 refine wh_region ?_
 refine w_p Tb_ok 1 kr ?_
 refine wi_end kr ?_
 refine qh_then ?_
 refine wh_seq ?_
 refine wh_region ?_
 refine w_p Tb_ok 3 kr ?_
 refine w_ldB 0 0 rfl kr ti_22 rfl rfl ?_
 refine w_p Tb_ok 2 kr ?_
 refine wi_end kr ?_
 refine qh_then ?_
 refine wh_ret ?_
 have h := Option.some.inj h; subst h
 exact q_end (l := [.bool (decide (((p_x : Nat) : Int) ≥ ((p_a1.S.P : Nat) : Int)))]) [(0, false)] 3 ⟨rfl, rfl⟩ (.inl rfl) kr kr kr
theorem c_slices_IndexFunc_Luint64_uint64_params_ValidScenario_2_1 {p_s : List Nat} {p_f_c0 : T_api_Scenario} {vp_s_1 : Value} {bp_f_c0 : Nat} {vp_f_c0_1 : Value} {vp_f_c0_2 : Value} {vp_f_c0_3 : Value} {r : Int} (h : slices_IndexFunc_Luint64_uint64_params_ValidScenario_2_1 p_s p_f_c0 = some r) : Ct Tryd.prog 133 [vp_s_1, .func (.func 115) #[] #[(.pointer (some ⟨bp_f_c0, 0, none⟩))]] [rdV Kd.u64 vp_s_1 p_s, blkP (.pointer (some ⟨bp_f_c0, 0, none⟩)) 29 [.int .u64 p_f_c0.S.P, .int .i64 p_f_c0.S.N, .int .i64 p_f_c0.S.T, vp_f_c0_1, vp_f_c0_2, vp_f_c0_3], rdV Kd.i64 vp_f_c0_1 p_f_c0.Corrupt, rdV K_api_Deviation vp_f_c0_2 p_f_c0.Deviations, rdV (Kd.sl Kd.u64) vp_f_c0_3 p_f_c0.Tapes] (fun v L => v = .int .i64 r ∧ L = [blkP (.pointer (some ⟨bp_f_c0, 0, none⟩)) 29 [.int .u64 p_f_c0.S.P, .int .i64 p_f_c0.S.N, .int .i64 p_f_c0.S.T, vp_f_c0_1, vp_f_c0_2, vp_f_c0_3]]) := by
 refine ct_intro Tryd.func133 rfl kr (fun F => ?_)
 unfold slices_IndexFunc_Luint64_uint64_params_ValidScenario_2_1 at h
 refine wh_seq ?_
 refine wh_region ?_
 refine w_p Tb_ok 1 kr ?_
 refine wi_end kr ?_
 refine qh_then ?_
 refine wh_seq ?_
 refine wh_seq ?_
 refine wh_region ?_
 refine w_p Tb_ok 1 kr ?_
 refine w_len (rd_hd 0 rfl) kr ts_30 ?_
 refine w_p Tb_ok 1 kr ?_
 refine wi_end kr ?_
 refine qh_then ?_
 refine h_lenle (rd_lenle 0 rfl) (fun hN1 => ?_)
 obtain ⟨r1, el1, h1⟩ := bnd h
 refine h_join (X := Unit × Unit) (fun g => []) (fun g => [blkP (.pointer (some ⟨bp_f_c0, 0, none⟩)) 29 [.int .u64 p_f_c0.S.P, .int .i64 p_f_c0.S.N, .int .i64 p_f_c0.S.T, vp_f_c0_1, vp_f_c0_2, vp_f_c0_3], rdV Kd.i64 vp_f_c0_1 p_f_c0.Corrupt, rdV K_api_Deviation vp_f_c0_2 p_f_c0.Deviations, rdV (Kd.sl Kd.u64) vp_f_c0_3 p_f_c0.Tapes] ++ F) (fun g => r1 = .go g.2) ?_ ?_
 ·
  refine wh_block ?_
  refine h_rg (fun (k1 : Nat) (st : Unit) (g : Unit) => [(0, vp_s_1), (1, .func (.func 115) #[] #[(.pointer (some ⟨bp_f_c0, 0, none⟩))]), (7, .int .i64 ((p_s.length : Nat) : Int)), (8, .int .i64 ((k1 : Nat) : Int))]) (fun (k1 : Nat) (st : Unit) (g : Unit) => [rdV Kd.u64 vp_s_1 p_s, blkP (.pointer (some ⟨bp_f_c0, 0, none⟩)) 29 [.int .u64 p_f_c0.S.P, .int .i64 p_f_c0.S.N, .int .i64 p_f_c0.S.T, vp_f_c0_1, vp_f_c0_2, vp_f_c0_3], rdV Kd.i64 vp_f_c0_1 p_f_c0.Corrupt, rdV K_api_Deviation vp_f_c0_2 p_f_c0.Deviations, rdV (Kd.sl Kd.u64) vp_f_c0_3 p_f_c0.Tapes] ++ F) () el1 (Nat.zero_le _) aK (tH [(0, true), (1, false), (1, true), (2, true), (3, true)] 4) ?_ ?_
  ·
   rintro ⟨⟩ ⟨⟩ hr1 j
   refine wh_seq ?_
   refine wh_region ?_
   refine w_p Tb_ok 1 kr ?_
   refine wi_end kr ?_
   refine qh_then ?_
   refine wh_seq ?_
   refine h_cf (b := (decide ((((p_s.length) : Nat) : Int) < ((p_s.length : Nat) : Int)))) rgF kr ?_
   refine wh_exit ?_
   refine qh_then_exit ?_
   refine q_rzX ?_
   refine qh_block_exit ?_
   exact q_join ((), ()) hr1 aK (tH [(1, false), (1, true), (2, true), (3, true)] 4)
  ·
   rintro rem k1 ⟨⟩ ⟨⟩ o1 hk1 h2 hn1 j
   have h2 : slices_IndexFunc_Luint64_uint64_params_ValidScenario_2_1_L0 p_s p_f_c0 k1 = some o1 := h2
   unfold slices_IndexFunc_Luint64_uint64_params_ValidScenario_2_1_L0 at h2
   refine wh_seq ?_
   refine wh_region ?_
   refine w_p Tb_ok 1 kr ?_
   refine wi_end kr ?_
   refine qh_then ?_
   refine wh_seq ?_
   refine h_ct (b := (decide (((k1 : Nat) : Int) < ((p_s.length : Nat) : Int)))) (rgT hk1) kr ?_
   refine wh_skip ?_
   refine qh_then ?_
   refine wh_seq ?_
   refine wh_block ?_
   refine wh_seq ?_
   refine wh_region ?_
   refine w_p Tb_ok 2 kr ?_
   refine wi_end kr ?_
   refine qh_then ?_
   refine wh_seq ?_
   refine wh_region ?_
   refine w_p Tb_ok 3 kr ?_
   obtain ⟨x1, ex1, h3⟩ := bnd h2
   refine w_ix (k := .i64) (rd_hd 0 rfl) (nbd ex1) rfl kr ts_30 ti_22 ?_
   refine w_ldR 0 0 rfl ex1 kr ti_22 rfl rfl ?_
   rintro _
   obtain ⟨r2, er2, h4⟩ := bnd h3
   refine w_fn [(1, false), (1, true), (2, true), (3, true)] (c_params_ValidScenario_2_1 er2) rfl fok_115 kr ?_
   rintro _ _ ⟨hv, rfl⟩; have hv := hv.symm; subst hv
   refine wi_end kr ?_
   refine qh_then ?_
   rcases bcase h4 with ⟨t1, h5⟩ | ⟨t1, h5⟩
   ·
    refine h_ct (b := r2) t1 kr ?_
    refine wh_seq ?_
    refine wh_region ?_
    refine w_p Tb_ok 2 kr ?_
    refine wi_end kr ?_
    refine qh_then ?_
    refine wh_ret ?_
    refine qh_block_ret ?_
    refine qh_then_ret ?_
    refine q_rgR ?_
    refine qh_block_ret ?_
    refine q_joinR ?_
    refine qh_then_ret ?_
    have h5 := Option.some.inj h5; subst h5
    have hn := (show _ = _ from hn1); subst hn
    have h1 := Option.some.inj (show some _ = some _ from h1); subst h1
    exact q_end (l := [.int .i64 ((k1 : Nat) : Int)]) [(0, false)] 4 ⟨rfl, rfl⟩ (.inl rfl) kr kr kr
   ·
    refine h_cf (b := r2) t1 kr ?_
    refine wh_skip ?_
    refine qh_block_normal ?_
    refine qh_then ?_
    refine wh_region ?_
    refine w_bi (zinc hk1 hN1) kr ?_
    refine w_p Tb_ok 1 kr ?_
    refine wi_end kr ?_
    have h5 := Option.some.inj h5; subst h5
    exact q_rgo () hn1 aK (tH [(1, true), (0, false), (1, true), (2, true), (3, true)] 4)
 ·
  rintro ⟨⟨⟩, ⟨⟩⟩ hc j
  subst hc
  refine qh_then ?_
  refine wh_seq ?_
  refine wh_region ?_
  refine w_p Tb_ok 1 kr ?_
  refine wi_end kr ?_
  refine qh_then ?_
  refine wh_ret ?_
  have h1 := Option.some.inj h1; subst h1
  exact q_end (l := [.int .i64 (-1)]) [(0, false)] 3 ⟨rfl, rfl⟩ (.inl rfl) kr kr kr
theorem c_slices_ContainsFunc_Luint64_uint64_params_ValidScenario_2_1 {p_s : List Nat} {p_f_c0 : T_api_Scenario} {vp_s_1 : Value} {bp_f_c0 : Nat} {vp_f_c0_1 : Value} {vp_f_c0_2 : Value} {vp_f_c0_3 : Value} {r : Bool} (h : slices_ContainsFunc_Luint64_uint64_params_ValidScenario_2_1 p_s p_f_c0 = some r) : Ct Tryd.prog 114 [vp_s_1, .func (.func 115) #[] #[(.pointer (some ⟨bp_f_c0, 0, none⟩))]] [rdV Kd.u64 vp_s_1 p_s, blkP (.pointer (some ⟨bp_f_c0, 0, none⟩)) 29 [.int .u64 p_f_c0.S.P, .int .i64 p_f_c0.S.N, .int .i64 p_f_c0.S.T, vp_f_c0_1, vp_f_c0_2, vp_f_c0_3], rdV Kd.i64 vp_f_c0_1 p_f_c0.Corrupt, rdV K_api_Deviation vp_f_c0_2 p_f_c0.Deviations, rdV (Kd.sl Kd.u64) vp_f_c0_3 p_f_c0.Tapes] (fun v L => v = .bool r ∧ L = [blkP (.pointer (some ⟨bp_f_c0, 0, none⟩)) 29 [.int .u64 p_f_c0.S.P, .int .i64 p_f_c0.S.N, .int .i64 p_f_c0.S.T, vp_f_c0_1, vp_f_c0_2, vp_f_c0_3]]) := by
 refine ct_intro Tryd.func114 rfl kr (fun F => ?_)
 unfold slices_ContainsFunc_Luint64_uint64_params_ValidScenario_2_1 at h
 refine wh_seq ?_
 refine wh_region ?_
 refine w_p Tb_ok 1 kr ?_
 refine wi_end kr ?_
 refine qh_then ?_
 refine wh_seq ?_
 refine wh_region ?_
 refine w_p Tb_ok 2 kr ?_
 obtain ⟨r1, er1, h1⟩ := bnd h
 refine w_fn [(0, true), (1, false), (1, true), (2, true), (3, true)] (c_slices_IndexFunc_Luint64_uint64_params_ValidScenario_2_1 er1) rfl fok_133 kr ?_
 rintro _ _ ⟨hv, rfl⟩; have hv := hv.symm; subst hv
 refine w_p Tb_ok 2 kr ?_
 refine wi_end kr ?_
 refine qh_then ?_
 refine wh_ret ?_
 have h1 := Option.some.inj h1; subst h1
 exact q_end (l := [.bool (decide (r1 ≥ (0 : Int)))]) [(0, false)] 4 ⟨rfl, rfl⟩ (.inl rfl) kr kr kr
theorem c_params_ValidScenario_2 {p_l : List Nat} {p_a1 : T_api_Scenario} {vp_l_1 : Value} {bp_a1 : Nat} {vp_a1_1 : Value} {vp_a1_2 : Value} {vp_a1_3 : Value} {r : Bool} (h : params_ValidScenario_2 p_l p_a1 = some r) : Ct Tryd.prog 113 [vp_l_1, (.pointer (some ⟨bp_a1, 0, none⟩))] [rdV Kd.u64 vp_l_1 p_l, blkP (.pointer (some ⟨bp_a1, 0, none⟩)) 29 [.int .u64 p_a1.S.P, .int .i64 p_a1.S.N, .int .i64 p_a1.S.T, vp_a1_1, vp_a1_2, vp_a1_3], rdV Kd.i64 vp_a1_1 p_a1.Corrupt, rdV K_api_Deviation vp_a1_2 p_a1.Deviations, rdV (Kd.sl Kd.u64) vp_a1_3 p_a1.Tapes] (fun v L => v = .bool r ∧ L = [blkP (.pointer (some ⟨bp_a1, 0, none⟩)) 29 [.int .u64 p_a1.S.P, .int .i64 p_a1.S.N, .int .i64 p_a1.S.T, vp_a1_1, vp_a1_2, vp_a1_3]]) := by
 refine ct_intro Tryd.func113 rfl kr (fun F => ?_)
 unfold params_ValidScenario_2 at h
 refine wh_seq ?_
 refine wh_region ?_
 refine w_p Tb_ok 1 kr ?_
 refine wi_end kr ?_
 refine qh_then ?_
 refine wh_seq ?_
 refine wh_region ?_
 refine w_p Tb_ok 2 kr ?_
 obtain ⟨r1, er1, h1⟩ := bnd h
 refine w_fn [(0, true), (1, false), (1, true), (2, true), (3, true)] (c_slices_ContainsFunc_Luint64_uint64_params_ValidScenario_2_1 er1) rfl fok_114 kr ?_
 rintro _ _ ⟨hv, rfl⟩; have hv := hv.symm; subst hv
 refine w_p Tb_ok 1 kr ?_
 refine wi_end kr ?_
 refine qh_then ?_
 refine wh_ret ?_
 have h1 := Option.some.inj h1; subst h1
 exact q_end (l := [.bool r1]) [(0, false)] 4 ⟨rfl, rfl⟩ (.inl rfl) kr kr kr
theorem c_slices_IndexFunc_LLuint64_Luint64_params_ValidScenario_2 {p_s : List (List Nat)} {p_f_c0 : T_api_Scenario} {vp_s_1 : Value} {bp_f_c0 : Nat} {vp_f_c0_1 : Value} {vp_f_c0_2 : Value} {vp_f_c0_3 : Value} {r : Int} (h : slices_IndexFunc_LLuint64_Luint64_params_ValidScenario_2 p_s p_f_c0 = some r) : Ct Tryd.prog 132 [vp_s_1, .func (.func 113) #[] #[(.pointer (some ⟨bp_f_c0, 0, none⟩))]] [rdV (Kd.sl Kd.u64) vp_s_1 p_s, blkP (.pointer (some ⟨bp_f_c0, 0, none⟩)) 29 [.int .u64 p_f_c0.S.P, .int .i64 p_f_c0.S.N, .int .i64 p_f_c0.S.T, vp_f_c0_1, vp_f_c0_2, vp_f_c0_3], rdV Kd.i64 vp_f_c0_1 p_f_c0.Corrupt, rdV K_api_Deviation vp_f_c0_2 p_f_c0.Deviations, rdV (Kd.sl Kd.u64) vp_f_c0_3 p_f_c0.Tapes] (fun v L => v = .int .i64 r ∧ L = [blkP (.pointer (some ⟨bp_f_c0, 0, none⟩)) 29 [.int .u64 p_f_c0.S.P, .int .i64 p_f_c0.S.N, .int .i64 p_f_c0.S.T, vp_f_c0_1, vp_f_c0_2, vp_f_c0_3]]) := by
 refine ct_intro Tryd.func132 rfl kr (fun F => ?_)
 unfold slices_IndexFunc_LLuint64_Luint64_params_ValidScenario_2 at h
 refine wh_seq ?_
 refine wh_region ?_
 refine w_p Tb_ok 1 kr ?_
 refine wi_end kr ?_
 refine qh_then ?_
 refine wh_seq ?_
 refine wh_seq ?_
 refine wh_region ?_
 refine w_p Tb_ok 1 kr ?_
 refine w_len (rd_hd 0 rfl) kr ts_27 ?_
 refine w_p Tb_ok 1 kr ?_
 refine wi_end kr ?_
 refine qh_then ?_
 refine h_lenle (rd_lenle 0 rfl) (fun hN1 => ?_)
 obtain ⟨r1, el1, h1⟩ := bnd h
 refine h_join (X := Unit × Unit) (fun g => []) (fun g => [blkP (.pointer (some ⟨bp_f_c0, 0, none⟩)) 29 [.int .u64 p_f_c0.S.P, .int .i64 p_f_c0.S.N, .int .i64 p_f_c0.S.T, vp_f_c0_1, vp_f_c0_2, vp_f_c0_3], rdV Kd.i64 vp_f_c0_1 p_f_c0.Corrupt, rdV K_api_Deviation vp_f_c0_2 p_f_c0.Deviations, rdV (Kd.sl Kd.u64) vp_f_c0_3 p_f_c0.Tapes] ++ F) (fun g => r1 = .go g.2) ?_ ?_
 ·
  refine wh_block ?_
  refine h_rg (fun (k1 : Nat) (st : Unit) (g : Unit) => [(0, vp_s_1), (1, .func (.func 113) #[] #[(.pointer (some ⟨bp_f_c0, 0, none⟩))]), (7, .int .i64 ((p_s.length : Nat) : Int)), (8, .int .i64 ((k1 : Nat) : Int))]) (fun (k1 : Nat) (st : Unit) (g : Unit) => [rdV (Kd.sl Kd.u64) vp_s_1 p_s, blkP (.pointer (some ⟨bp_f_c0, 0, none⟩)) 29 [.int .u64 p_f_c0.S.P, .int .i64 p_f_c0.S.N, .int .i64 p_f_c0.S.T, vp_f_c0_1, vp_f_c0_2, vp_f_c0_3], rdV Kd.i64 vp_f_c0_1 p_f_c0.Corrupt, rdV K_api_Deviation vp_f_c0_2 p_f_c0.Deviations, rdV (Kd.sl Kd.u64) vp_f_c0_3 p_f_c0.Tapes] ++ F) () el1 (Nat.zero_le _) aK (tH [(0, true), (1, false), (1, true), (2, true), (3, true)] 4) ?_ ?_
  ·
   rintro ⟨⟩ ⟨⟩ hr1 j
   refine wh_seq ?_
   refine wh_region ?_
   refine w_p Tb_ok 1 kr ?_
   refine wi_end kr ?_
   refine qh_then ?_
   refine wh_seq ?_
   refine h_cf (b := (decide ((((p_s.length) : Nat) : Int) < ((p_s.length : Nat) : Int)))) rgF kr ?_
   refine wh_exit ?_
   refine qh_then_exit ?_
   refine q_rzX ?_
   refine qh_block_exit ?_
   exact q_join ((), ()) hr1 aK (tH [(1, false), (1, true), (2, true), (3, true)] 4)
  ·
   rintro rem k1 ⟨⟩ ⟨⟩ o1 hk1 h2 hn1 j
   have h2 : slices_IndexFunc_LLuint64_Luint64_params_ValidScenario_2_L0 p_s p_f_c0 k1 = some o1 := h2
   unfold slices_IndexFunc_LLuint64_Luint64_params_ValidScenario_2_L0 at h2
   refine wh_seq ?_
   refine wh_region ?_
   refine w_p Tb_ok 1 kr ?_
   refine wi_end kr ?_
   refine qh_then ?_
   refine wh_seq ?_
   refine h_ct (b := (decide (((k1 : Nat) : Int) < ((p_s.length : Nat) : Int)))) (rgT hk1) kr ?_
   refine wh_skip ?_
   refine qh_then ?_
   refine wh_seq ?_
   refine wh_block ?_
   refine wh_seq ?_
   refine wh_region ?_
   refine w_p Tb_ok 2 kr ?_
   refine wi_end kr ?_
   refine qh_then ?_
   refine wh_seq ?_
   refine wh_region ?_
   refine w_p Tb_ok 3 kr ?_
   obtain ⟨x1, ex1, h3⟩ := bnd h2
   refine w_ix (k := .i64) (rd_hd 0 rfl) (nbd ex1) rfl kr ts_27 ti_30 ?_
   refine w_ldR 0 0 rfl ex1 kr ti_30 rfl rfl ?_
   rintro v1
   obtain ⟨r2, er2, h4⟩ := bnd h3
   refine w_fn [(0, true), (2, false), (2, true), (3, true), (4, true)] (c_params_ValidScenario_2 er2) rfl fok_113 kr ?_
   rintro _ _ ⟨hv, rfl⟩; have hv := hv.symm; subst hv
   refine wi_end kr ?_
   refine qh_then ?_
   rcases bcase h4 with ⟨t1, h5⟩ | ⟨t1, h5⟩
   ·
    refine h_ct (b := r2) t1 kr ?_
    refine wh_seq ?_
    refine wh_region ?_
    refine w_p Tb_ok 2 kr ?_
    refine wi_end kr ?_
    refine qh_then ?_
    refine wh_ret ?_
    refine qh_block_ret ?_
    refine qh_then_ret ?_
    refine q_rgR ?_
    refine qh_block_ret ?_
    refine q_joinR ?_
    refine qh_then_ret ?_
    have h5 := Option.some.inj h5; subst h5
    have hn := (show _ = _ from hn1); subst hn
    have h1 := Option.some.inj (show some _ = some _ from h1); subst h1
    exact q_end (l := [.int .i64 ((k1 : Nat) : Int)]) [(0, false)] 5 ⟨rfl, rfl⟩ (.inl rfl) kr kr kr
   ·
    refine h_cf (b := r2) t1 kr ?_
    refine wh_skip ?_
    refine qh_block_normal ?_
    refine qh_then ?_
    refine wh_region ?_
    refine w_bi (zinc hk1 hN1) kr ?_
    refine w_p Tb_ok 1 kr ?_
    refine wi_end kr ?_
    have h5 := Option.some.inj h5; subst h5
    exact q_rgo () hn1 aK (tH [(2, true), (0, false), (2, true), (3, true), (4, true)] 5)
 ·
  rintro ⟨⟨⟩, ⟨⟩⟩ hc j
  subst hc
  refine qh_then ?_
  refine wh_seq ?_
  refine wh_region ?_
  refine w_p Tb_ok 1 kr ?_
  refine wi_end kr ?_
  refine qh_then ?_
  refine wh_ret ?_
  have h1 := Option.some.inj h1; subst h1
  exact q_end (l := [.int .i64 (-1)]) [(0, false)] 3 ⟨rfl, rfl⟩ (.inl rfl) kr kr kr
theorem c_slices_ContainsFunc_LLuint64_Luint64_params_ValidScenario_2 {p_s : List (List Nat)} {p_f_c0 : T_api_Scenario} {vp_s_1 : Value} {bp_f_c0 : Nat} {vp_f_c0_1 : Value} {vp_f_c0_2 : Value} {vp_f_c0_3 : Value} {r : Bool} (h : slices_ContainsFunc_LLuint64_Luint64_params_ValidScenario_2 p_s p_f_c0 = some r) : Ct Tryd.prog 112 [vp_s_1, .func (.func 113) #[] #[(.pointer (some ⟨bp_f_c0, 0, none⟩))]] [rdV (Kd.sl Kd.u64) vp_s_1 p_s, blkP (.pointer (some ⟨bp_f_c0, 0, none⟩)) 29 [.int .u64 p_f_c0.S.P, .int .i64 p_f_c0.S.N, .int .i64 p_f_c0.S.T, vp_f_c0_1, vp_f_c0_2, vp_f_c0_3], rdV Kd.i64 vp_f_c0_1 p_f_c0.Corrupt, rdV K_api_Deviation vp_f_c0_2 p_f_c0.Deviations, rdV (Kd.sl Kd.u64) vp_f_c0_3 p_f_c0.Tapes] (fun v L => v = .bool r ∧ L = [blkP (.pointer (some ⟨bp_f_c0, 0, none⟩)) 29 [.int .u64 p_f_c0.S.P, .int .i64 p_f_c0.S.N, .int .i64 p_f_c0.S.T, vp_f_c0_1, vp_f_c0_2, vp_f_c0_3]]) := by
 refine ct_intro Tryd.func112 rfl kr (fun F => ?_)
 unfold slices_ContainsFunc_LLuint64_Luint64_params_ValidScenario_2 at h
 refine wh_seq ?_
 refine wh_region ?_
 refine w_p Tb_ok 1 kr ?_
 refine wi_end kr ?_
 refine qh_then ?_
 refine wh_seq ?_
 refine wh_region ?_
 refine w_p Tb_ok 2 kr ?_
 obtain ⟨r1, er1, h1⟩ := bnd h
 refine w_fn [(0, true), (1, false), (1, true), (2, true), (3, true)] (c_slices_IndexFunc_LLuint64_Luint64_params_ValidScenario_2 er1) rfl fok_132 kr ?_
 rintro _ _ ⟨hv, rfl⟩; have hv := hv.symm; subst hv
 refine w_p Tb_ok 2 kr ?_
 refine wi_end kr ?_
 refine qh_then ?_
 refine wh_ret ?_
 have h1 := Option.some.inj h1; subst h1
 exact q_end (l := [.bool (decide (r1 ≥ (0 : Int)))]) [(0, false)] 4 ⟨rfl, rfl⟩ (.inl rfl) kr kr kr
theorem c_params_ValidScenario {p_w : T_api_Scenario} {vp_w_1 : Value} {vp_w_2 : Value} {vp_w_3 : Value} {r : Bool} (h : params_ValidScenario p_w = some r) : Ct Tryd.prog 82 [.agg #[.int .u64 p_w.S.P, .int .i64 p_w.S.N, .int .i64 p_w.S.T, vp_w_1, vp_w_2, vp_w_3]] [rdV Kd.i64 vp_w_1 p_w.Corrupt, rdV K_api_Deviation vp_w_2 p_w.Deviations, rdV (Kd.sl Kd.u64) vp_w_3 p_w.Tapes, exF] (fun v L => v = .bool r ∧ L = []) := by
 refine ct_intro Tryd.func82 rfl kr (fun F => ?_)
 unfold params_ValidScenario at h
 refine wh_seq ?_
 refine wh_region ?_
 refine w_box (t := 29) (v := .agg #[.int .u64 p_w.S.P, .int .i64 p_w.S.N, .int .i64 p_w.S.T, vp_w_1, vp_w_2, vp_w_3]) (cs := [.int .u64 p_w.S.P, .int .i64 p_w.S.N, .int .i64 p_w.S.T, vp_w_1, vp_w_2, vp_w_3]) (cv0 kr) kr (fun q1 => ?_)
 refine WI.hd (y := blkP q1 29 [.int .u64 p_w.S.P, .int .i64 p_w.S.N, .int .i64 p_w.S.T, vp_w_1, vp_w_2, vp_w_3]) kr ?_
 refine w_opP 0 rfl (fun b1 hb => ?_)
 subst hb
 refine w_p Tb_ok 1 kr ?_
 refine wi_end kr ?_
 refine qh_then ?_
 refine wh_seq ?_
 refine wh_seq ?_
 refine wh_region ?_
 refine w_p Tb_ok 1 kr ?_
 refine w_ldB 0 0 rfl kr ti_24 rfl rfl ?_
 refine w_p Tb_ok 1 kr ?_
 refine w_ldB 0 3 rfl kr ti_25 rfl rfl ?_
 obtain ⟨r1, er1, h1⟩ := bnd h
 refine w_fn [(1, true), (4, true)] (c_params_ValidCoalition er1) rfl fok_108 kr ?_
 rintro _ _ ⟨hv, rfl⟩; have hv := hv.symm; subst hv
 refine w_p Tb_ok 2 kr ?_
 rcases bcase h1 with ⟨t1, h2⟩ | ⟨t1, h2⟩
 ·
  refine w_kb (t := 9) t1 kr ?_
  refine w_p Tb_ok 14 kr ?_
  refine wi_end kr ?_
  refine qh_then ?_
  refine h_ct (b := true) rfl kr ?_
  refine wh_seq ?_
  refine wh_region ?_
  refine w_p Tb_ok 1 kr ?_
  refine wi_end kr ?_
  refine qh_then ?_
  refine wh_ret ?_
  refine qh_then_ret ?_
  have h2 := Option.some.inj h2; subst h2
  exact q_end (l := [.bool false]) [] 5 ⟨rfl, rfl⟩ (.inl rfl) kr kr kr
 ·
  refine w_kb (t := 9) t1 kr ?_
  refine w_p Tb_ok 1 kr ?_
  refine w_ldB 0 5 rfl kr ti_27 rfl rfl ?_
  refine w_len (rd_hd 3 rfl) kr ts_27 ?_
  refine w_p Tb_ok 2 kr ?_
  refine w_ldB 0 1 rfl kr ti_3 rfl rfl ?_
  refine w_p Tb_ok 3 kr ?_
  rcases bcase h2 with ⟨t2, h3⟩ | ⟨t2, h3⟩
  ·
   refine w_kb (t := 18) t2 kr ?_
   refine w_p Tb_ok 5 kr ?_
   refine wi_end kr ?_
   refine qh_then ?_
   refine h_ct (b := true) rfl kr ?_
   refine wh_seq ?_
   refine wh_region ?_
   refine w_p Tb_ok 1 kr ?_
   refine wi_end kr ?_
   refine qh_then ?_
   refine wh_ret ?_
   refine qh_then_ret ?_
   have h3 := Option.some.inj h3; subst h3
   exact q_end (l := [.bool false]) [] 5 ⟨rfl, rfl⟩ (.inl rfl) kr kr kr
  ·
   refine w_kb (t := 18) t2 kr ?_
   refine w_p Tb_ok 1 kr ?_
   refine w_ldB 0 4 rfl kr ti_26 rfl rfl ?_
   refine w_p Tb_ok 1 kr ?_
   obtain ⟨r2, er2, h4⟩ := bnd h3
   refine w_fn [(2, true), (0, false), (0, true), (1, true), (2, true)] (c_slices_ContainsFunc_Lapi_Deviation_api_Deviation_params_ValidScenario_1 er2) rfl fok_109 kr ?_
   rintro _ _ ⟨hv, rfl⟩; have hv := hv.symm; subst hv
   refine w_p Tb_ok 1 kr ?_
   refine wi_end kr ?_
   refine qh_then ?_
   rcases bcase h4 with ⟨t3, h5⟩ | ⟨t3, h5⟩
   ·
    refine h_ct (b := r2) t3 kr ?_
    refine wh_seq ?_
    refine wh_region ?_
    refine w_p Tb_ok 1 kr ?_
    refine wi_end kr ?_
    refine qh_then ?_
    refine wh_ret ?_
    refine qh_then_ret ?_
    have h5 := Option.some.inj h5; subst h5
    exact q_end (l := [.bool false]) [] 5 ⟨rfl, rfl⟩ (.inl rfl) kr kr kr
   ·
    refine h_cf (b := r2) t3 kr ?_
    refine wh_skip ?_
    refine qh_then ?_
    refine wh_seq ?_
    refine wh_region ?_
    refine w_p Tb_ok 1 kr ?_
    refine w_ldB 0 5 rfl kr ti_27 rfl rfl ?_
    refine w_p Tb_ok 1 kr ?_
    obtain ⟨r3, er3, h6⟩ := bnd h5
    refine w_fn [(3, true), (0, false), (0, true), (1, true), (2, true)] (c_slices_ContainsFunc_LLuint64_Luint64_params_ValidScenario_2 er3) rfl fok_112 kr ?_
    rintro _ _ ⟨hv, rfl⟩; have hv := hv.symm; subst hv
    refine w_p Tb_ok 2 kr ?_
    refine wi_end kr ?_
    refine qh_then ?_
    refine wh_ret ?_
    have h6 := Option.some.inj h6; subst h6
    exact q_end (l := [.bool (!r3)]) [] 5 ⟨rfl, rfl⟩ (.inl rfl) kr kr kr
theorem c_tape_New {p_words : List Nat} {vp_words_1 : Value} {r : T_tape_Tape} (h : tape_New p_words = some r) : Ct Tryd.prog 83 [vp_words_1] [rdV Kd.u64 vp_words_1 p_words] (fun v L => ∃ w0 w0__0 : Value, v = w0 ∧ L = [blkP w0 169 [w0__0, .int .i64 r.zat], rdV Kd.u64 w0__0 r.zwords]) := by
 refine ct_intro Tryd.func83 rfl kr (fun F => ?_)
 unfold tape_New at h
 refine wh_seq ?_
 refine wh_region ?_
 refine w_p Tb_ok 1 kr ?_
 refine wi_end kr ?_
 refine qh_then ?_
 refine wh_seq ?_
 refine wh_region ?_
 refine w_p Tb_ok 1 kr ?_
 refine w_bd (v := .agg #[vp_words_1, .int .i64 ((0 : Nat) : Int)]) (t := 169) (ps0 := [(0, vp_words_1)]) (ps := [(0, .agg #[vp_words_1])]) (scS (rd_hd 0 rfl) sc0) kr (fun w => by kernel_rfl) ?_
 refine w_box (t := 169) (v := .agg #[vp_words_1, .int .i64 ((0 : Nat) : Int)]) (cs := [vp_words_1, .int .i64 ((0 : Nat) : Int)]) (cv0 kr) kr (fun q1 => ?_)
 refine WI.hd (y := blkP q1 169 [vp_words_1, .int .i64 ((0 : Nat) : Int)]) kr ?_
 refine w_opP 0 rfl (fun b1 hb => ?_)
 subst hb
 refine w_p Tb_ok 1 kr ?_
 refine wi_end kr ?_
 refine qh_then ?_
 refine wh_ret ?_
 have h := Option.some.inj h; subst h
 exact q_end (l := [(.pointer (some ⟨b1, 0, none⟩))]) [(0, false), (0, true)] 1 ⟨(.pointer (some ⟨b1, 0, none⟩)), vp_words_1, rfl, rfl⟩ (.inl rfl) kr kr kr
theorem c_network_New {p_w : T_api_Scenario} {vp_w_1 : Value} {vp_w_2 : Value} {vp_w_3 : Value} {r : Unit ⊕ T_network_Net} (h : network_New p_w = some r) : Ct Tryd.prog 56 [.agg #[.int .u64 p_w.S.P, .int .i64 p_w.S.N, .int .i64 p_w.S.T, vp_w_1, vp_w_2, vp_w_3]] [rdV Kd.i64 vp_w_1 p_w.Corrupt, rdV K_api_Deviation vp_w_2 p_w.Deviations, rdV (Kd.sl Kd.u64) vp_w_3 p_w.Tapes, exF] ((sumP (fun r v L => v = .tuple #[(.pointer none), .int .i64 ((1 : Nat) : Int)] ∧ L = []) (fun r v L => ∃ w0 w0__0_1 w0__0_2 w0__0_3 w0__2 w0__3 : Value, v = .tuple #[w0, .int .i64 ((0 : Nat) : Int)] ∧ L = [blkP w0 119 [.int .u64 r.zw.S.P, .int .i64 r.zw.S.N, .int .i64 r.zw.S.T, w0__0_1, w0__0_2, w0__0_3, .int .i64 r.zround, (th w0__2), w0__3], rdV Kd.i64 w0__0_1 r.zw.Corrupt, rdV K_api_Deviation w0__0_2 r.zw.Deviations, rdV (Kd.sl Kd.u64) w0__0_3 r.zw.Tapes, treeV (rowK K_api_Event 67) 46 (th w0__2) (tg w0__2) r.zviews, ownV Kd.any 137 w0__3 r.ztapes])) r) := by
 refine ct_intro Tryd.func56 rfl kr (fun F => ?_)
 unfold network_New at h
 refine wh_seq ?_
 refine wh_region ?_
 refine w_box (t := 29) (v := .agg #[.int .u64 p_w.S.P, .int .i64 p_w.S.N, .int .i64 p_w.S.T, vp_w_1, vp_w_2, vp_w_3]) (cs := [.int .u64 p_w.S.P, .int .i64 p_w.S.N, .int .i64 p_w.S.T, vp_w_1, vp_w_2, vp_w_3]) (cv0 kr) kr (fun q1 => ?_)
 refine WI.hd (y := blkP q1 29 [.int .u64 p_w.S.P, .int .i64 p_w.S.N, .int .i64 p_w.S.T, vp_w_1, vp_w_2, vp_w_3]) kr ?_
 refine w_opP 0 rfl (fun b1 hb => ?_)
 subst hb
 refine w_p Tb_ok 2 kr ?_
 refine wi_end kr ?_
 refine qh_then ?_
 refine wh_seq ?_
 refine wh_seq ?_
 refine wh_region ?_
 refine w_ldB 0 0 rfl kr ti_29 rfl rfl ?_
 obtain ⟨r1, er1, h1⟩ := bnd h
 refine w_fn [(1, true), (2, true), (3, true), (4, true)] (c_params_ValidScenario er1) rfl fok_82 kr ?_
 rintro _ _ ⟨hv, rfl⟩; have hv := hv.symm; subst hv
 refine w_p Tb_ok 1 kr ?_
 refine wi_end kr ?_
 refine qh_then ?_
 rcases bcase h1 with ⟨t1, h2⟩ | ⟨t1, h2⟩
 ·
  refine h_ct (b := (!r1)) t1 kr ?_
  refine wh_seq ?_
  refine wh_region ?_
  refine w_p Tb_ok 2 kr ?_
  refine wi_end kr ?_
  refine qh_then ?_
  refine wh_ret ?_
  refine qh_then_ret ?_
  have h2 := Option.some.inj h2; subst h2
  exact q_end (l := [(.pointer none), .int .i64 ((1 : Nat) : Int)]) [] 5 (inlP ⟨rfl, rfl⟩) (.inl rfl) kr kr kr
 ·
  refine h_cf (b := (!r1)) t1 kr ?_
  refine wh_skip ?_
  refine qh_then ?_
  refine wh_seq ?_
  obtain ⟨l1, el1, h3⟩ := bnd h2
  refine h_flow [0, 0, 2, 6, 14, 31, 63, 127] ⟨5, [0, 0, 0, 0, 1, 0, 1, 0], [], [(0, [(0, 0)]), (3, [(0, 0)]), (5, [(5, 0)])], []⟩ (fun γ => [.agg #[.int .u64 p_w.S.P, .int .i64 p_w.S.N, .int .i64 p_w.S.T, vp_w_1, vp_w_2, vp_w_3], .pointer (some ⟨b1, 0, none⟩), .pointer (some ⟨b1, 1, none⟩), .int .i64 p_w.S.N, (γ 4 0), .agg #[.int .u64 p_w.S.P, .int .i64 p_w.S.N, .int .i64 p_w.S.T, vp_w_1, vp_w_2, vp_w_3, .int .i64 ((0 : Nat) : Int), (γ 4 0), (.slice none 0 0)], (γ 6 0), (γ 6 0)]) (fun i γ => match i with | 4 => [treeV (rowK K_api_Event 67) 46 (γ 4 0) (List.replicate p_w.S.N.toNat (.slice none 0 0)) l1] | 6 => [blkP (γ 6 0) 119 [.int .u64 p_w.S.P, .int .i64 p_w.S.N, .int .i64 p_w.S.T, vp_w_1, vp_w_2, vp_w_3, .int .i64 ((0 : Nat) : Int), (γ 4 0), (.slice none 0 0)]] | _ => []) (fun γ => [blkP (.pointer (some ⟨b1, 0, none⟩)) 29 [.int .u64 p_w.S.P, .int .i64 p_w.S.N, .int .i64 p_w.S.T, vp_w_1, vp_w_2, vp_w_3], rdV Kd.i64 vp_w_1 p_w.Corrupt, rdV K_api_Deviation vp_w_2 p_w.Deviations, rdV (Kd.sl Kd.u64) vp_w_3 p_w.Tapes, exF, treeV (rowK K_api_Event 67) 46 (γ 4 0) (List.replicate p_w.S.N.toNat (.slice none 0 0)) l1, blkP (γ 6 0) 119 [.int .u64 p_w.S.P, .int .i64 p_w.S.N, .int .i64 p_w.S.T, vp_w_1, vp_w_2, vp_w_3, .int .i64 ((0 : Nat) : Int), (γ 4 0), (.slice none 0 0)]] ++ F) [1, 2, 7] tryd_mix Tb_ok kr kr (fun _ => by kernel_rfl) (fun _ => by kernel_rfl) (fun _ => by kernel_rfl) (fun _ => by kernel_rfl) (fun _ => by kernel_rfl) (fun _ => by kernel_rfl) (fun _ => by kernel_rfl) ?_ ?_
  ·
   refine ⟨?_, ?_, ?_, ?_, ?_, trivial⟩
   ·
    intro γ F
    refine WI.reH (H' := [blkP (.pointer (some ⟨b1, 0, none⟩)) 29 [.int .u64 p_w.S.P, .int .i64 p_w.S.N, .int .i64 p_w.S.T, vp_w_1, vp_w_2, vp_w_3]] ++ F) kr ?_
    refine w_ldB 0 0 rfl kr ti_29 rfl rfl ?_
    exact wE (gl []) [(0, false)] 0
   ·
    intro γ F
    refine WI.reH (H' := [blkP (.pointer (some ⟨b1, 0, none⟩)) 29 [.int .u64 p_w.S.P, .int .i64 p_w.S.N, .int .i64 p_w.S.T, vp_w_1, vp_w_2, vp_w_3]] ++ F) kr ?_
    refine w_ldB 0 1 rfl kr ti_3 rfl rfl ?_
    exact wE (gl []) [(0, false)] 0
   ·
    intro γ F
    refine WI.reH (H' := [] ++ F) kr ?_
    refine w_mkT (rowK K_api_Event 67) new_row (kl := .i64) (kc := .i64) el1 kr ts_116 ti_46 rfl (fun v1 => ?_)
    exact wE (gl [v1]) [(0, false)] 0
   ·
    intro γ F
    refine WI.reH (H' := [treeV (rowK K_api_Event 67) 46 (γ 4 0) (List.replicate p_w.S.N.toNat (.slice none 0 0)) l1] ++ F) kr ?_
    refine w_bd (v := .agg #[.int .u64 p_w.S.P, .int .i64 p_w.S.N, .int .i64 p_w.S.T, vp_w_1, vp_w_2, vp_w_3, .int .i64 ((0 : Nat) : Int), (γ 4 0), (.slice none 0 0)]) (t := 119) (ps0 := [(0, .agg #[.int .u64 p_w.S.P, .int .i64 p_w.S.N, .int .i64 p_w.S.T, vp_w_1, vp_w_2, vp_w_3]), (2, (γ 4 0))]) (ps := [(0, .agg #[.int .u64 p_w.S.P, .int .i64 p_w.S.N, .int .i64 p_w.S.T, vp_w_1, vp_w_2, vp_w_3]), (2, .agg #[(γ 4 0)])]) (scI (scS (tree_hdI (inP 0 rfl)) sc0)) kr (fun w => by kernel_rfl) ?_
    exact wE (gl []) [(0, false)] 0
   ·
    intro γ F
    refine WI.reH (H' := [] ++ F) kr ?_
    refine w_box (t := 119) (v := .agg #[.int .u64 p_w.S.P, .int .i64 p_w.S.N, .int .i64 p_w.S.T, vp_w_1, vp_w_2, vp_w_3, .int .i64 ((0 : Nat) : Int), (γ 4 0), (.slice none 0 0)]) (cs := [.int .u64 p_w.S.P, .int .i64 p_w.S.N, .int .i64 p_w.S.T, vp_w_1, vp_w_2, vp_w_3, .int .i64 ((0 : Nat) : Int), (γ 4 0), (.slice none 0 0)]) (cv0 kr) kr (fun q2 => ?_)
    refine WI.hd (y := blkP q2 119 [.int .u64 p_w.S.P, .int .i64 p_w.S.N, .int .i64 p_w.S.T, vp_w_1, vp_w_2, vp_w_3, .int .i64 ((0 : Nat) : Int), (γ 4 0), (.slice none 0 0)]) kr ?_
    exact wE (gl [q2]) [(0, false)] 0
  ·
   intro γ1
   refine q_opS 4 6 kr rfl (fun b2 => ?_)
   refine qh_then ?_
   refine wh_seq ?_
   refine wh_seq ?_
   refine wh_region ?_
   refine w_p Tb_ok 1 kr ?_
   refine w_ldB 1 5 rfl kr ti_27 rfl rfl ?_
   refine w_len (rd_hd 4 rfl) kr ts_27 ?_
   refine w_p Tb_ok 1 kr ?_
   refine wi_end kr ?_
   refine qh_then ?_
   refine WH.ent (ownNil (kd := Kd.any) (e := 137)) ?_
   refine h_lenle (rd_lenle 5 rfl) (fun hN1 => ?_)
   obtain ⟨l3, el1, h4⟩ := bnd h3
   refine h_join (X := Value) (fun g => [(4, (.pointer (some ⟨b2, 0, none⟩)))]) (fun g => [blkP (.pointer (some ⟨b2, 0, none⟩)) 119 [.int .u64 p_w.S.P, .int .i64 p_w.S.N, .int .i64 p_w.S.T, vp_w_1, vp_w_2, vp_w_3, .int .i64 ((0 : Nat) : Int), (γ1 4 0), g], rdV Kd.i64 vp_w_1 p_w.Corrupt, rdV K_api_Deviation vp_w_2 p_w.Deviations, rdV (Kd.sl Kd.u64) vp_w_3 p_w.Tapes, treeV (rowK K_api_Event 67) 46 (γ1 4 0) (List.replicate p_w.S.N.toNat (.slice none 0 0)) l1, ownV Kd.any 137 g l3, exF] ++ F) (fun _ => True) ?_ ?_
   ·
    refine wh_block ?_
    refine h_rs (fun (k1 : Nat) (st : (List Unit)) (g : Value) => [(4, (.pointer (some ⟨b2, 0, none⟩))), (18, vp_w_3), (19, .int .i64 ((p_w.Tapes.length : Nat) : Int)), (20, .int .i64 ((k1 : Nat) : Int))]) (fun (k1 : Nat) (st : (List Unit)) (g : Value) => [blkP (.pointer (some ⟨b2, 0, none⟩)) 119 [.int .u64 p_w.S.P, .int .i64 p_w.S.N, .int .i64 p_w.S.T, vp_w_1, vp_w_2, vp_w_3, .int .i64 ((0 : Nat) : Int), (γ1 4 0), g], rdV Kd.i64 vp_w_1 p_w.Corrupt, rdV K_api_Deviation vp_w_2 p_w.Deviations, rdV (Kd.sl Kd.u64) vp_w_3 p_w.Tapes, treeV (rowK K_api_Event 67) 46 (γ1 4 0) (List.replicate p_w.S.N.toNat (.slice none 0 0)) l1, ownV Kd.any 137 g st, exF] ++ F) (.slice none 0 0) el1 (Nat.zero_le _) aK (tH [(1, false), (2, true), (3, true), (4, true), (6, false), (0, false), (4, true)] 5) ?_ ?_
    ·
     rintro g3 j
     refine wh_seq ?_
     refine wh_region ?_
     refine w_p Tb_ok 1 kr ?_
     refine wi_end kr ?_
     refine qh_then ?_
     refine wh_seq ?_
     refine h_cf (b := (decide ((((p_w.Tapes.length) : Nat) : Int) < ((p_w.Tapes.length : Nat) : Int)))) rgF kr ?_
     refine wh_exit ?_
     refine qh_then_exit ?_
     refine q_rzX ?_
     refine qh_block_exit ?_
     exact q_join g3 trivial aK (tH [(0, false), (0, true), (1, true), (2, true), (3, false), (3, false), (3, true)] 4)
    ·
     rintro rem k1 l2 g1 o1 hk1 h5 hn1 j
     have h5 : network_New_L0 p_w k1 l2 = some o1 := h5
     unfold network_New_L0 at h5
     refine wh_seq ?_
     refine wh_region ?_
     refine w_p Tb_ok 1 kr ?_
     refine wi_end kr ?_
     refine qh_then ?_
     refine wh_seq ?_
     refine h_ct (b := (decide (((k1 : Nat) : Int) < ((p_w.Tapes.length : Nat) : Int)))) (rgT hk1) kr ?_
     refine wh_skip ?_
     refine qh_then ?_
     refine wh_seq ?_
     refine wh_block ?_
     refine wh_seq ?_
     refine wh_region ?_
     obtain ⟨x2, ex2, h6⟩ := bnd h5
     refine w_ix (k := .i64) (rd_hd 3 rfl) (nbd ex2) rfl kr ts_27 ti_30 ?_
     refine w_ldR 3 0 rfl ex2 kr ti_30 rfl rfl ?_
     rintro v2
     refine w_p Tb_ok 1 kr ?_
     refine wi_end kr ?_
     refine qh_then ?_
     refine WH.ent (hd_add (tree_hdI (inP 5 rfl))) ?_
     obtain ⟨r3, er3, h7⟩ := bnd h6
     obtain ⟨l4, el4, h8⟩ := bnd h7
     refine h_flow [0, 0, 2, 6, 14, 0, 32, 96, 254, 511, 1023, 2047] ⟨9, [0, 0, 0, 0, 0, 0, 2, 1, 1, 0, 0, 1], [(8, [(0, 7)]), (11, [(0, 2)])], [(4, [(0, 2)]), (7, [(7, 0)]), (8, [(8, 0)]), (11, [(9, 0)])], [(6, [(0, 1)])]⟩ (fun γ => [(.pointer (some ⟨b2, 0, none⟩)), (.pointer (some ⟨b2, 0, none⟩)), (.pointer (some ⟨b2, 0, none⟩)), .pointer (some ⟨b2, 8, none⟩), g1, v2, (γ 6 0), (γ 7 0), (γ 8 0), (.pointer (some ⟨b2, 0, none⟩)), .pointer (some ⟨b2, 8, none⟩), undef]) (fun i γ => match i with | 6 => [blkP (γ 6 0) 169 [(γ 6 1), .int .i64 r3.zat], rdV Kd.u64 (γ 6 1) r3.zwords] | 7 => [ownV Kd.any 137 (γ 7 0) ([()] : List Unit)] | 8 => [ownV Kd.any 137 (γ 8 0) l4] | 11 => [blkP (.pointer (some ⟨b2, 0, none⟩)) 119 [.int .u64 p_w.S.P, .int .i64 p_w.S.N, .int .i64 p_w.S.T, vp_w_1, vp_w_2, vp_w_3, .int .i64 ((0 : Nat) : Int), (γ1 4 0), (γ 8 0)]] | _ => []) (fun γ => [hdP (γ1 4 0) l1.length, rdV Kd.u64 v2 x2, rdV Kd.i64 vp_w_1 p_w.Corrupt, rdV K_api_Deviation vp_w_2 p_w.Deviations, rdV (Kd.sl Kd.u64) vp_w_3 p_w.Tapes, treeV (rowK K_api_Event 67) 46 (γ1 4 0) (List.replicate p_w.S.N.toNat (.slice none 0 0)) l1, exF, blkP (γ 6 0) 169 [(γ 6 1), .int .i64 r3.zat], rdV Kd.u64 (γ 6 1) r3.zwords, ownV Kd.any 137 (γ 7 0) ([()] : List Unit), ownV Kd.any 137 (γ 8 0) l4, blkP (.pointer (some ⟨b2, 0, none⟩)) 119 [.int .u64 p_w.S.P, .int .i64 p_w.S.N, .int .i64 p_w.S.T, vp_w_1, vp_w_2, vp_w_3, .int .i64 ((0 : Nat) : Int), (γ1 4 0), (γ 8 0)]] ++ F) [0, 1, 2, 3, 5, 9, 10] tryd_mix Tb_ok kr kr (fun _ => by kernel_rfl) (fun _ => by kernel_rfl) (fun _ => by kernel_rfl) (fun _ => by kernel_rfl) (fun _ => by kernel_rfl) (fun _ => by kernel_rfl) (fun _ => by kernel_rfl) ?_ ?_
     ·
      refine ⟨?_, ?_, ?_, ?_, ?_, trivial⟩
      ·
       intro γ F
       refine WI.reH (H' := [blkP (.pointer (some ⟨b2, 0, none⟩)) 119 [.int .u64 p_w.S.P, .int .i64 p_w.S.N, .int .i64 p_w.S.T, vp_w_1, vp_w_2, vp_w_3, .int .i64 ((0 : Nat) : Int), (γ1 4 0), g1]] ++ F) kr ?_
       refine w_ldB 0 8 rfl kr ti_117 rfl rfl ?_
       exact wE (gl []) [(0, false)] 0
      ·
       intro γ F
       refine WI.reH (H' := [rdV Kd.u64 v2 x2] ++ F) kr ?_
       refine w_fn [(0, true)] (c_tape_New er3) rfl fok_83 kr ?_
       rintro _ _ ⟨w2, w2__0, hv, rfl⟩; have hv := hv.symm; subst hv
       exact wE (gl [w2, w2__0]) [(0, false), (0, true)] 2
      ·
       intro γ F
       refine WI.reH (H' := [blkP (γ 6 0) 169 [(γ 6 1), .int .i64 r3.zat]] ++ F) kr ?_
       refine w_lt (kd := Kd.any) (t := 117) (len := 1) (ps0 := [(0, (γ 6 0))]) (ps := [(0, .agg #[(γ 6 0)])]) ([()] : List Unit) _ (rowC (x := ()) (g := (γ 6 0)) (itAny (any_one 0 rfl)) row0) (scP 0 rfl sc0) kr ts_117 ti_137 kr rfl rfl (fun v3 => ?_)
       exact wE (gl [v3]) [(0, false), (0, false)] 0
      ·
       intro γ F
       refine WI.reH (H' := [ownV Kd.any 137 g1 l2, ownV Kd.any 137 (γ 7 0) ([()] : List Unit)] ++ F) kr ?_
       refine w_app 0 rfl (own_src 1 rfl) el4 kr ts_117 ti_137 rfl (fun v4 => ?_)
       exact wE (gl [v4]) [(0, false), (0, false)] 0
      ·
       intro γ F
       refine WI.reH (H' := [blkP (.pointer (some ⟨b2, 0, none⟩)) 119 [.int .u64 p_w.S.P, .int .i64 p_w.S.N, .int .i64 p_w.S.T, vp_w_1, vp_w_2, vp_w_3, .int .i64 ((0 : Nat) : Int), (γ1 4 0), g1], ownV Kd.any 137 (γ 8 0) l4] ++ F) kr ?_
       refine w_stB (v := (γ 8 0)) (off := 8) (cs := [(γ 8 0)]) 0 rfl (cvS (own_hd 1 rfl)) kr ti_117 rfl rfl (oC (sl_one (own_hd 1 rfl)) oN) ?_
       refine WI.hd (y := blkP (.pointer (some ⟨b2, 0, none⟩)) 119 [.int .u64 p_w.S.P, .int .i64 p_w.S.N, .int .i64 p_w.S.T, vp_w_1, vp_w_2, vp_w_3, .int .i64 ((0 : Nat) : Int), (γ1 4 0), (γ 8 0)]) kr ?_
       exact wE (gl []) [(0, false), (0, false)] 0
     ·
      intro γ2
      refine qh_block_normal ?_
      refine qh_then ?_
      refine wh_region ?_
      refine w_bi (zinc hk1 hN1) kr ?_
      refine w_p Tb_ok 1 kr ?_
      refine wi_end kr ?_
      have h8 := Option.some.inj h8; subst h8
      exact q_rs (γ2 8 0) hn1 aK (tH [(11, false), (2, true), (3, true), (4, true), (5, false), (9, false), (5, true)] 9)
   ·
    rintro g2 - j
    refine qh_then ?_
    refine wh_seq ?_
    refine wh_region ?_
    refine w_p Tb_ok 3 kr ?_
    refine wi_end kr ?_
    refine qh_then ?_
    refine wh_ret ?_
    have h4 := Option.some.inj h4; subst h4
    exact q_end (l := [(.pointer (some ⟨b2, 0, none⟩)), .int .i64 ((0 : Nat) : Int)]) [(0, false), (0, true), (1, true), (2, true), (3, false), (3, false)] 4 (inrP ⟨(.pointer (some ⟨b2, 0, none⟩)), vp_w_1, vp_w_2, vp_w_3, (tw (γ1 4 0) (List.replicate p_w.S.N.toNat (.slice none 0 0))), g2, rfl, rfl⟩) (.inl rfl) kr kr kr
theorem c_privityref11_New {p_words : List Nat} {vp_words_1 : Value} {r : T_privityref11_Tape} (h : privityref11_New p_words = some r) : Ct Tryd.prog 94 [vp_words_1] [rdV Kd.u64 vp_words_1 p_words] (fun v L => ∃ w0 w0__0 : Value, v = w0 ∧ L = [blkP w0 177 [w0__0, .int .i64 r.At], ownV Kd.u64 22 w0__0 r.Words]) := by
 refine ct_intro Tryd.func94 rfl kr (fun F => ?_)
 unfold privityref11_New at h
 refine wh_seq ?_
 refine wh_region ?_
 refine w_p Tb_ok 1 kr ?_
 refine wi_end kr ?_
 refine qh_then ?_
 refine wh_seq ?_
 refine wh_region ?_
 refine w_lt (kd := Kd.u64) (t := 30) (len := 0) (ps0 := []) (ps := []) ([] : List Nat) _ row0 sc0 kr ts_30 ti_22 kr rfl rfl (fun v1 => ?_)
 refine w_p Tb_ok 1 kr ?_
 obtain ⟨l1, el1, h1⟩ := bnd h
 refine w_app 0 rfl (rd_src 1 rfl) el1 kr ts_30 ti_22 rfl (fun v2 => ?_)
 refine w_bd (v := .agg #[v2, .int .i64 ((0 : Nat) : Int)]) (t := 177) (ps0 := [(0, v2)]) (ps := [(0, .agg #[v2])]) (scS (own_hd 0 rfl) sc0) kr (fun w => by kernel_rfl) ?_
 refine w_box (t := 177) (v := .agg #[v2, .int .i64 ((0 : Nat) : Int)]) (cs := [v2, .int .i64 ((0 : Nat) : Int)]) (cv0 kr) kr (fun q1 => ?_)
 refine WI.hd (y := blkP q1 177 [v2, .int .i64 ((0 : Nat) : Int)]) kr ?_
 refine w_opP 0 rfl (fun b1 hb => ?_)
 subst hb
 refine w_p Tb_ok 1 kr ?_
 refine wi_end kr ?_
 refine qh_then ?_
 refine wh_ret ?_
 have h1 := Option.some.inj h1; subst h1
 exact q_end (l := [(.pointer (some ⟨b1, 0, none⟩))]) [(0, false), (0, false)] 1 ⟨(.pointer (some ⟨b1, 0, none⟩)), v2, rfl, rfl⟩ (.inl rfl) kr kr kr
theorem c_privityref14_New {p_w : T_api_Scenario} {vp_w_1 : Value} {vp_w_2 : Value} {vp_w_3 : Value} {r : Unit ⊕ T_privityref14_Net} (h : privityref14_New p_w = some r) : Ct Tryd.prog 63 [.agg #[.int .u64 p_w.S.P, .int .i64 p_w.S.N, .int .i64 p_w.S.T, vp_w_1, vp_w_2, vp_w_3]] [rdV Kd.i64 vp_w_1 p_w.Corrupt, rdV K_api_Deviation vp_w_2 p_w.Deviations, rdV (Kd.sl Kd.u64) vp_w_3 p_w.Tapes] ((sumP (fun r v L => v = .tuple #[(.pointer none), .int .i64 ((1 : Nat) : Int)] ∧ L = []) (fun r v L => ∃ w0 w0__0_1 w0__0_2 w0__0_3 w0__2 w0__3 : Value, v = .tuple #[w0, .int .i64 ((0 : Nat) : Int)] ∧ L = [blkP w0 147 [.int .u64 r.zw.S.P, .int .i64 r.zw.S.N, .int .i64 r.zw.S.T, w0__0_1, w0__0_2, w0__0_3, .int .i64 r.zround, (th w0__2), w0__3], rdV Kd.i64 w0__0_1 r.zw.Corrupt, rdV K_api_Deviation w0__0_2 r.zw.Deviations, rdV (Kd.sl Kd.u64) w0__0_3 r.zw.Tapes, treeV (rowK K_api_Event 67) 46 (th w0__2) (tg w0__2) r.zviews, ownV Kd.any 148 w0__3 r.ztapes])) r) := by
 refine ct_intro Tryd.func63 rfl kr (fun F => ?_)
 unfold privityref14_New at h
 refine wh_seq ?_
 refine wh_region ?_
 refine w_box (t := 29) (v := .agg #[.int .u64 p_w.S.P, .int .i64 p_w.S.N, .int .i64 p_w.S.T, vp_w_1, vp_w_2, vp_w_3]) (cs := [.int .u64 p_w.S.P, .int .i64 p_w.S.N, .int .i64 p_w.S.T, vp_w_1, vp_w_2, vp_w_3]) (cv0 kr) kr (fun q1 => ?_)
 refine WI.hd (y := blkP q1 29 [.int .u64 p_w.S.P, .int .i64 p_w.S.N, .int .i64 p_w.S.T, vp_w_1, vp_w_2, vp_w_3]) kr ?_
 refine w_opP 0 rfl (fun b1 hb => ?_)
 subst hb
 refine w_p Tb_ok 2 kr ?_
 refine wi_end kr ?_
 refine qh_then ?_
 refine wh_seq ?_
 refine wh_seq ?_
 refine wh_region ?_
 refine w_ldB 0 0 rfl kr ti_29 rfl rfl ?_
 obtain ⟨r1, er1, h1⟩ := bnd h
 refine w_fn [(1, true), (2, true), (3, true)] (c_privityref12_ValidScenario er1) rfl fok_75 kr ?_
 rintro _ _ ⟨hv, rfl⟩; have hv := hv.symm; subst hv
 refine w_p Tb_ok 1 kr ?_
 refine wi_end kr ?_
 refine qh_then ?_
 rcases bcase h1 with ⟨t1, h2⟩ | ⟨t1, h2⟩
 ·
  refine h_ct (b := (!r1)) t1 kr ?_
  refine wh_seq ?_
  refine wh_region ?_
  refine w_p Tb_ok 2 kr ?_
  refine wi_end kr ?_
  refine qh_then ?_
  refine wh_ret ?_
  refine qh_then_ret ?_
  have h2 := Option.some.inj h2; subst h2
  exact q_end (l := [(.pointer none), .int .i64 ((1 : Nat) : Int)]) [] 4 (inlP ⟨rfl, rfl⟩) (.inl rfl) kr kr kr
 ·
  refine h_cf (b := (!r1)) t1 kr ?_
  refine wh_skip ?_
  refine qh_then ?_
  refine wh_seq ?_
  obtain ⟨l1, el1, h3⟩ := bnd h2
  refine h_flow [0, 0, 2, 6, 14, 31, 63, 127] ⟨4, [0, 0, 0, 0, 1, 0, 1, 0], [], [(0, [(0, 0)]), (3, [(0, 0)]), (5, [(5, 0)])], []⟩ (fun γ => [.agg #[.int .u64 p_w.S.P, .int .i64 p_w.S.N, .int .i64 p_w.S.T, vp_w_1, vp_w_2, vp_w_3], .pointer (some ⟨b1, 0, none⟩), .pointer (some ⟨b1, 1, none⟩), .int .i64 p_w.S.N, (γ 4 0), .agg #[.int .u64 p_w.S.P, .int .i64 p_w.S.N, .int .i64 p_w.S.T, vp_w_1, vp_w_2, vp_w_3, .int .i64 ((0 : Nat) : Int), (γ 4 0), (.slice none 0 0)], (γ 6 0), (γ 6 0)]) (fun i γ => match i with | 4 => [treeV (rowK K_api_Event 67) 46 (γ 4 0) (List.replicate p_w.S.N.toNat (.slice none 0 0)) l1] | 6 => [blkP (γ 6 0) 147 [.int .u64 p_w.S.P, .int .i64 p_w.S.N, .int .i64 p_w.S.T, vp_w_1, vp_w_2, vp_w_3, .int .i64 ((0 : Nat) : Int), (γ 4 0), (.slice none 0 0)]] | _ => []) (fun γ => [blkP (.pointer (some ⟨b1, 0, none⟩)) 29 [.int .u64 p_w.S.P, .int .i64 p_w.S.N, .int .i64 p_w.S.T, vp_w_1, vp_w_2, vp_w_3], rdV Kd.i64 vp_w_1 p_w.Corrupt, rdV K_api_Deviation vp_w_2 p_w.Deviations, rdV (Kd.sl Kd.u64) vp_w_3 p_w.Tapes, treeV (rowK K_api_Event 67) 46 (γ 4 0) (List.replicate p_w.S.N.toNat (.slice none 0 0)) l1, blkP (γ 6 0) 147 [.int .u64 p_w.S.P, .int .i64 p_w.S.N, .int .i64 p_w.S.T, vp_w_1, vp_w_2, vp_w_3, .int .i64 ((0 : Nat) : Int), (γ 4 0), (.slice none 0 0)]] ++ F) [1, 2, 7] tryd_mix Tb_ok kr kr (fun _ => by kernel_rfl) (fun _ => by kernel_rfl) (fun _ => by kernel_rfl) (fun _ => by kernel_rfl) (fun _ => by kernel_rfl) (fun _ => by kernel_rfl) (fun _ => by kernel_rfl) ?_ ?_
  ·
   refine ⟨?_, ?_, ?_, ?_, ?_, trivial⟩
   ·
    intro γ F
    refine WI.reH (H' := [blkP (.pointer (some ⟨b1, 0, none⟩)) 29 [.int .u64 p_w.S.P, .int .i64 p_w.S.N, .int .i64 p_w.S.T, vp_w_1, vp_w_2, vp_w_3]] ++ F) kr ?_
    refine w_ldB 0 0 rfl kr ti_29 rfl rfl ?_
    exact wE (gl []) [(0, false)] 0
   ·
    intro γ F
    refine WI.reH (H' := [blkP (.pointer (some ⟨b1, 0, none⟩)) 29 [.int .u64 p_w.S.P, .int .i64 p_w.S.N, .int .i64 p_w.S.T, vp_w_1, vp_w_2, vp_w_3]] ++ F) kr ?_
    refine w_ldB 0 1 rfl kr ti_3 rfl rfl ?_
    exact wE (gl []) [(0, false)] 0
   ·
    intro γ F
    refine WI.reH (H' := [] ++ F) kr ?_
    refine w_mkT (rowK K_api_Event 67) new_row (kl := .i64) (kc := .i64) el1 kr ts_116 ti_46 rfl (fun v1 => ?_)
    exact wE (gl [v1]) [(0, false)] 0
   ·
    intro γ F
    refine WI.reH (H' := [treeV (rowK K_api_Event 67) 46 (γ 4 0) (List.replicate p_w.S.N.toNat (.slice none 0 0)) l1] ++ F) kr ?_
    refine w_bd (v := .agg #[.int .u64 p_w.S.P, .int .i64 p_w.S.N, .int .i64 p_w.S.T, vp_w_1, vp_w_2, vp_w_3, .int .i64 ((0 : Nat) : Int), (γ 4 0), (.slice none 0 0)]) (t := 147) (ps0 := [(0, .agg #[.int .u64 p_w.S.P, .int .i64 p_w.S.N, .int .i64 p_w.S.T, vp_w_1, vp_w_2, vp_w_3]), (2, (γ 4 0))]) (ps := [(0, .agg #[.int .u64 p_w.S.P, .int .i64 p_w.S.N, .int .i64 p_w.S.T, vp_w_1, vp_w_2, vp_w_3]), (2, .agg #[(γ 4 0)])]) (scI (scS (tree_hdI (inP 0 rfl)) sc0)) kr (fun w => by kernel_rfl) ?_
    exact wE (gl []) [(0, false)] 0
   ·
    intro γ F
    refine WI.reH (H' := [] ++ F) kr ?_
    refine w_box (t := 147) (v := .agg #[.int .u64 p_w.S.P, .int .i64 p_w.S.N, .int .i64 p_w.S.T, vp_w_1, vp_w_2, vp_w_3, .int .i64 ((0 : Nat) : Int), (γ 4 0), (.slice none 0 0)]) (cs := [.int .u64 p_w.S.P, .int .i64 p_w.S.N, .int .i64 p_w.S.T, vp_w_1, vp_w_2, vp_w_3, .int .i64 ((0 : Nat) : Int), (γ 4 0), (.slice none 0 0)]) (cv0 kr) kr (fun q2 => ?_)
    refine WI.hd (y := blkP q2 147 [.int .u64 p_w.S.P, .int .i64 p_w.S.N, .int .i64 p_w.S.T, vp_w_1, vp_w_2, vp_w_3, .int .i64 ((0 : Nat) : Int), (γ 4 0), (.slice none 0 0)]) kr ?_
    exact wE (gl [q2]) [(0, false)] 0
  ·
   intro γ1
   refine q_opS 4 5 kr rfl (fun b2 => ?_)
   refine qh_then ?_
   refine wh_seq ?_
   refine wh_seq ?_
   refine wh_region ?_
   refine w_p Tb_ok 1 kr ?_
   refine wi_end kr ?_
   refine qh_then ?_
   refine WH.ent (ownNil (kd := Kd.any) (e := 148)) ?_
   obtain ⟨u1, eu1, h4⟩ := bnd h3
   have hN1 := ckN_some eu1
   obtain ⟨l3, el1, h5⟩ := bnd h4
   refine h_join (X := Value) (fun g => [(4, (.pointer (some ⟨b2, 0, none⟩)))]) (fun g => [rdV Kd.i64 vp_w_1 p_w.Corrupt, rdV K_api_Deviation vp_w_2 p_w.Deviations, rdV (Kd.sl Kd.u64) vp_w_3 p_w.Tapes, blkP (.pointer (some ⟨b2, 0, none⟩)) 147 [.int .u64 p_w.S.P, .int .i64 p_w.S.N, .int .i64 p_w.S.T, vp_w_1, vp_w_2, vp_w_3, .int .i64 ((0 : Nat) : Int), (γ1 4 0), g], treeV (rowK K_api_Event 67) 46 (γ1 4 0) (List.replicate p_w.S.N.toNat (.slice none 0 0)) l1, ownV Kd.any 148 g l3] ++ F) (fun _ => True) ?_ ?_
   ·
    refine wh_block ?_
    refine h_rs (fun (k1 : Nat) (st : (List Unit)) (g : Value) => [(1, (.pointer (some ⟨b1, 0, none⟩))), (4, (.pointer (some ⟨b2, 0, none⟩))), (5, .int .i64 ((k1 : Nat) : Int))]) (fun (k1 : Nat) (st : (List Unit)) (g : Value) => [blkP (.pointer (some ⟨b1, 0, none⟩)) 29 [.int .u64 p_w.S.P, .int .i64 p_w.S.N, .int .i64 p_w.S.T, vp_w_1, vp_w_2, vp_w_3], rdV Kd.i64 vp_w_1 p_w.Corrupt, rdV K_api_Deviation vp_w_2 p_w.Deviations, rdV (Kd.sl Kd.u64) vp_w_3 p_w.Tapes, blkP (.pointer (some ⟨b2, 0, none⟩)) 147 [.int .u64 p_w.S.P, .int .i64 p_w.S.N, .int .i64 p_w.S.T, vp_w_1, vp_w_2, vp_w_3, .int .i64 ((0 : Nat) : Int), (γ1 4 0), g], treeV (rowK K_api_Event 67) 46 (γ1 4 0) (List.replicate p_w.S.N.toNat (.slice none 0 0)) l1, ownV Kd.any 148 g st] ++ F) (.slice none 0 0) el1 (Nat.le_max_left ..) aK (tH [(2, false), (2, true), (3, true), (4, true), (1, false), (4, false), (0, false)] 3) ?_ ?_
    ·
     rintro g3 j
     refine wh_seq ?_
     refine wh_seq ?_
     refine wh_region ?_
     refine w_p Tb_ok 3 kr ?_
     refine w_ldB 0 1 rfl kr ti_3 rfl rfl ?_
     refine w_p Tb_ok 1 kr ?_
     refine wi_end kr ?_
     refine qh_then ?_
     refine h_cf (b := (decide ((((max 0 (p_w.S.N).toNat) : Nat) : Int) < p_w.S.N))) rgLF kr ?_
     refine wh_exit ?_
     refine qh_then_exit ?_
     refine q_rzX ?_
     refine qh_block_exit ?_
     exact q_join g3 trivial aK (tH [(1, true), (2, true), (3, true), (4, false), (4, false), (4, false)] 4)
    ·
     rintro rem k1 l2 g1 o1 hk1 h6 hn1 j
     have h6 : privityref14_New_L0 p_w k1 l2 = some o1 := h6
     unfold privityref14_New_L0 at h6
     refine wh_seq ?_
     refine wh_seq ?_
     refine wh_region ?_
     refine w_p Tb_ok 3 kr ?_
     refine w_ldB 0 1 rfl kr ti_3 rfl rfl ?_
     refine w_p Tb_ok 1 kr ?_
     refine wi_end kr ?_
     refine qh_then ?_
     refine h_ct (b := (decide (((k1 : Nat) : Int) < p_w.S.N))) (rgLT hk1) kr ?_
     refine wh_skip ?_
     refine qh_then ?_
     refine wh_seq ?_
     refine wh_block ?_
     refine WH.ent (hd_add (tree_hdI (inP 5 rfl))) ?_
     obtain ⟨x2, ex2, h7⟩ := bnd h6
     obtain ⟨r3, er3, h8⟩ := bnd h7
     obtain ⟨l4, el4, h9⟩ := bnd h8
     refine h_flow [0, 0, 2, 6, 14, 0, 32, 0, 224, 480, 992, 2016, 4094, 8191, 16383, 32767] ⟨8, [0, 0, 0, 0, 0, 0, 0, 0, 0, 1, 2, 1, 1, 0, 0, 1], [(12, [(0, 7)]), (15, [(0, 5)])], [(4, [(0, 5)]), (6, [(0, 1)]), (11, [(11, 0)]), (12, [(12, 0)]), (15, [(13, 0)])], [(8, [(0, 4)]), (9, [(0, 4)]), (10, [(10, 0)])]⟩ (fun γ => [(.pointer (some ⟨b2, 0, none⟩)), (.pointer (some ⟨b2, 0, none⟩)), (.pointer (some ⟨b2, 0, none⟩)), .pointer (some ⟨b2, 8, none⟩), g1, .pointer (some ⟨b1, 5, none⟩), vp_w_3, .int .i64 ((k1 : Nat) : Int), .pointer (some (elV vp_w_3 (k1 * (Kd.sl Kd.u64).size))), (γ 9 0), (γ 10 0), (γ 11 0), (γ 12 0), (.pointer (some ⟨b2, 0, none⟩)), .pointer (some ⟨b2, 8, none⟩), undef]) (fun i γ => match i with | 9 => [rdV Kd.u64 (γ 9 0) x2] | 10 => [blkP (γ 10 0) 177 [(γ 10 1), .int .i64 r3.At], ownV Kd.u64 22 (γ 10 1) r3.Words] | 11 => [ownV Kd.any 148 (γ 11 0) ([()] : List Unit)] | 12 => [ownV Kd.any 148 (γ 12 0) l4] | 15 => [blkP (.pointer (some ⟨b2, 0, none⟩)) 147 [.int .u64 p_w.S.P, .int .i64 p_w.S.N, .int .i64 p_w.S.T, vp_w_1, vp_w_2, vp_w_3, .int .i64 ((0 : Nat) : Int), (γ1 4 0), (γ 12 0)]] | _ => []) (fun γ => [hdP (γ1 4 0) l1.length, blkP (.pointer (some ⟨b1, 0, none⟩)) 29 [.int .u64 p_w.S.P, .int .i64 p_w.S.N, .int .i64 p_w.S.T, vp_w_1, vp_w_2, vp_w_3], rdV Kd.i64 vp_w_1 p_w.Corrupt, rdV K_api_Deviation vp_w_2 p_w.Deviations, rdV (Kd.sl Kd.u64) vp_w_3 p_w.Tapes, treeV (rowK K_api_Event 67) 46 (γ1 4 0) (List.replicate p_w.S.N.toNat (.slice none 0 0)) l1, rdV Kd.u64 (γ 9 0) x2, blkP (γ 10 0) 177 [(γ 10 1), .int .i64 r3.At], ownV Kd.u64 22 (γ 10 1) r3.Words, ownV Kd.any 148 (γ 11 0) ([()] : List Unit), ownV Kd.any 148 (γ 12 0) l4, blkP (.pointer (some ⟨b2, 0, none⟩)) 147 [.int .u64 p_w.S.P, .int .i64 p_w.S.N, .int .i64 p_w.S.T, vp_w_1, vp_w_2, vp_w_3, .int .i64 ((0 : Nat) : Int), (γ1 4 0), (γ 12 0)]] ++ F) [0, 1, 2, 3, 5, 7, 13, 14] tryd_mix Tb_ok kr kr (fun _ => by kernel_rfl) (fun _ => by kernel_rfl) (fun _ => by kernel_rfl) (fun _ => by kernel_rfl) (fun _ => by kernel_rfl) (fun _ => by kernel_rfl) (fun _ => by kernel_rfl) ?_ ?_
     ·
      refine ⟨?_, ?_, ?_, ?_, ?_, ?_, ?_, ?_, trivial⟩
      ·
       intro γ F
       refine WI.reH (H' := [blkP (.pointer (some ⟨b2, 0, none⟩)) 147 [.int .u64 p_w.S.P, .int .i64 p_w.S.N, .int .i64 p_w.S.T, vp_w_1, vp_w_2, vp_w_3, .int .i64 ((0 : Nat) : Int), (γ1 4 0), g1]] ++ F) kr ?_
       refine w_ldB 0 8 rfl kr ti_145 rfl rfl ?_
       exact wE (gl []) [(0, false)] 0
      ·
       intro γ F
       refine WI.reH (H' := [blkP (.pointer (some ⟨b1, 0, none⟩)) 29 [.int .u64 p_w.S.P, .int .i64 p_w.S.N, .int .i64 p_w.S.T, vp_w_1, vp_w_2, vp_w_3]] ++ F) kr ?_
       refine w_ldB 0 5 rfl kr ti_27 rfl rfl ?_
       exact wE (gl []) [(0, false)] 0
      ·
       intro γ F
       refine WI.reH (H' := [rdV (Kd.sl Kd.u64) vp_w_3 p_w.Tapes] ++ F) kr ?_
       refine w_ix (k := .i64) (rd_hd 0 rfl) (nbd ex2) rfl kr ts_27 ti_30 ?_
       exact wE (gl []) [] 1
      ·
       intro γ F
       refine WI.reH (H' := [rdV (Kd.sl Kd.u64) vp_w_3 p_w.Tapes] ++ F) kr ?_
       refine w_ldR 0 0 rfl ex2 kr ti_30 rfl rfl ?_
       rintro v2
       exact wE (gl [v2]) [(0, true)] 2
      ·
       intro γ F
       refine WI.reH (H' := [rdV Kd.u64 (γ 9 0) x2] ++ F) kr ?_
       refine w_fn [(0, true)] (c_privityref11_New er3) rfl fok_94 kr ?_
       rintro _ _ ⟨w2, w2__0, hv, rfl⟩; have hv := hv.symm; subst hv
       exact wE (gl [w2, w2__0]) [(0, false), (0, false)] 1
      ·
       intro γ F
       refine WI.reH (H' := [blkP (γ 10 0) 177 [(γ 10 1), .int .i64 r3.At]] ++ F) kr ?_
       refine w_lt (kd := Kd.any) (t := 145) (len := 1) (ps0 := [(0, (γ 10 0))]) (ps := [(0, .agg #[(γ 10 0)])]) ([()] : List Unit) _ (rowC (x := ()) (g := (γ 10 0)) (itAny (any_one 0 rfl)) row0) (scP 0 rfl sc0) kr ts_145 ti_148 kr rfl rfl (fun v3 => ?_)
       exact wE (gl [v3]) [(0, false), (0, false)] 0
      ·
       intro γ F
       refine WI.reH (H' := [ownV Kd.any 148 g1 l2, ownV Kd.any 148 (γ 11 0) ([()] : List Unit)] ++ F) kr ?_
       refine w_app 0 rfl (own_src 1 rfl) el4 kr ts_145 ti_148 rfl (fun v4 => ?_)
       exact wE (gl [v4]) [(0, false), (0, false)] 0
      ·
       intro γ F
       refine WI.reH (H' := [blkP (.pointer (some ⟨b2, 0, none⟩)) 147 [.int .u64 p_w.S.P, .int .i64 p_w.S.N, .int .i64 p_w.S.T, vp_w_1, vp_w_2, vp_w_3, .int .i64 ((0 : Nat) : Int), (γ1 4 0), g1], ownV Kd.any 148 (γ 12 0) l4] ++ F) kr ?_
       refine w_stB (v := (γ 12 0)) (off := 8) (cs := [(γ 12 0)]) 0 rfl (cvS (own_hd 1 rfl)) kr ti_145 rfl rfl (oC (sl_one (own_hd 1 rfl)) oN) ?_
       refine WI.hd (y := blkP (.pointer (some ⟨b2, 0, none⟩)) 147 [.int .u64 p_w.S.P, .int .i64 p_w.S.N, .int .i64 p_w.S.T, vp_w_1, vp_w_2, vp_w_3, .int .i64 ((0 : Nat) : Int), (γ1 4 0), (γ 12 0)]) kr ?_
       exact wE (gl []) [(0, false), (0, false)] 0
     ·
      intro γ2
      refine qh_block_normal ?_
      refine qh_then ?_
      refine wh_region ?_
      refine w_p Tb_ok 1 kr ?_
      refine w_bi (zinc hk1 hN1) kr ?_
      refine w_p Tb_ok 1 kr ?_
      refine wi_end kr ?_
      have h9 := Option.some.inj h9; subst h9
      exact q_rs (γ2 12 0) hn1 aK (tH [(1, false), (1, true), (2, true), (3, true), (10, false), (4, false), (8, false)] 8)
   ·
    rintro g2 - j
    refine qh_then ?_
    refine wh_seq ?_
    refine wh_region ?_
    refine w_p Tb_ok 3 kr ?_
    refine wi_end kr ?_
    refine qh_then ?_
    refine wh_ret ?_
    have h5 := Option.some.inj h5; subst h5
    exact q_end (l := [(.pointer (some ⟨b2, 0, none⟩)), .int .i64 ((0 : Nat) : Int)]) [(3, false), (0, true), (1, true), (2, true), (3, false), (3, false)] 3 (inrP ⟨(.pointer (some ⟨b2, 0, none⟩)), vp_w_1, vp_w_2, vp_w_3, (tw (γ1 4 0) (List.replicate p_w.S.N.toNat (.slice none 0 0))), g2, rfl, rfl⟩) (.inl rfl) kr kr kr
theorem c_privitylaw20_nets {p_w : T_api_Scenario} {vp_w_1 : Value} {vp_w_2 : Value} {vp_w_3 : Value} {r : Unit ⊕ (T_privityref14_Net ⊕ (T_network_Net ⊕ (T_network_Net × T_privityref14_Net)))} (h : privitylaw20_nets p_w = some r) : Ct Tryd.prog 37 [.agg #[.int .u64 p_w.S.P, .int .i64 p_w.S.N, .int .i64 p_w.S.T, vp_w_1, vp_w_2, vp_w_3]] [rdV Kd.i64 vp_w_1 p_w.Corrupt, rdV K_api_Deviation vp_w_2 p_w.Deviations, rdV (Kd.sl Kd.u64) vp_w_3 p_w.Tapes, exF] ((sumP (fun r v L => v = .tuple #[(.pointer none), (.pointer none), .bool false] ∧ L = []) (sumP (fun r v L => ∃ w1 w1__0_1 w1__0_2 w1__0_3 w1__2 w1__3 : Value, v = .tuple #[(.pointer none), w1, .bool false] ∧ L = [blkP w1 147 [.int .u64 r.zw.S.P, .int .i64 r.zw.S.N, .int .i64 r.zw.S.T, w1__0_1, w1__0_2, w1__0_3, .int .i64 r.zround, (th w1__2), w1__3], rdV Kd.i64 w1__0_1 r.zw.Corrupt, rdV K_api_Deviation w1__0_2 r.zw.Deviations, rdV (Kd.sl Kd.u64) w1__0_3 r.zw.Tapes, treeV (rowK K_api_Event 67) 46 (th w1__2) (tg w1__2) r.zviews, ownV Kd.any 148 w1__3 r.ztapes]) (sumP (fun r v L => ∃ w0 w0__0_1 w0__0_2 w0__0_3 w0__2 w0__3 : Value, v = .tuple #[w0, (.pointer none), .bool false] ∧ L = [blkP w0 119 [.int .u64 r.zw.S.P, .int .i64 r.zw.S.N, .int .i64 r.zw.S.T, w0__0_1, w0__0_2, w0__0_3, .int .i64 r.zround, (th w0__2), w0__3], rdV Kd.i64 w0__0_1 r.zw.Corrupt, rdV K_api_Deviation w0__0_2 r.zw.Deviations, rdV (Kd.sl Kd.u64) w0__0_3 r.zw.Tapes, treeV (rowK K_api_Event 67) 46 (th w0__2) (tg w0__2) r.zviews, ownV Kd.any 137 w0__3 r.ztapes]) (fun r v L => ∃ w0 w0__0_1 w0__0_2 w0__0_3 w0__2 w0__3 w1 w1__0_1 w1__0_2 w1__0_3 w1__2 w1__3 : Value, v = .tuple #[w0, w1, .bool true] ∧ L = [blkP w0 119 [.int .u64 r.1.zw.S.P, .int .i64 r.1.zw.S.N, .int .i64 r.1.zw.S.T, w0__0_1, w0__0_2, w0__0_3, .int .i64 r.1.zround, (th w0__2), w0__3], rdV Kd.i64 w0__0_1 r.1.zw.Corrupt, rdV K_api_Deviation w0__0_2 r.1.zw.Deviations, rdV (Kd.sl Kd.u64) w0__0_3 r.1.zw.Tapes, treeV (rowK K_api_Event 67) 46 (th w0__2) (tg w0__2) r.1.zviews, ownV Kd.any 137 w0__3 r.1.ztapes, blkP w1 147 [.int .u64 r.2.zw.S.P, .int .i64 r.2.zw.S.N, .int .i64 r.2.zw.S.T, w1__0_1, w1__0_2, w1__0_3, .int .i64 r.2.zround, (th w1__2), w1__3], rdV Kd.i64 w1__0_1 r.2.zw.Corrupt, rdV K_api_Deviation w1__0_2 r.2.zw.Deviations, rdV (Kd.sl Kd.u64) w1__0_3 r.2.zw.Tapes, treeV (rowK K_api_Event 67) 46 (th w1__2) (tg w1__2) r.2.zviews, ownV Kd.any 148 w1__3 r.2.ztapes])))) r) := by
 refine ct_intro Tryd.func37 rfl kr (fun F => ?_)
 unfold privitylaw20_nets at h
 refine wh_seq ?_
 refine wh_region ?_
 refine w_box (t := 29) (v := .agg #[.int .u64 p_w.S.P, .int .i64 p_w.S.N, .int .i64 p_w.S.T, vp_w_1, vp_w_2, vp_w_3]) (cs := [.int .u64 p_w.S.P, .int .i64 p_w.S.N, .int .i64 p_w.S.T, vp_w_1, vp_w_2, vp_w_3]) (cv0 kr) kr (fun q1 => ?_)
 refine WI.hd (y := blkP q1 29 [.int .u64 p_w.S.P, .int .i64 p_w.S.N, .int .i64 p_w.S.T, vp_w_1, vp_w_2, vp_w_3]) kr ?_
 refine w_opP 0 rfl (fun b1 hb => ?_)
 subst hb
 refine w_p Tb_ok 3 kr ?_
 refine wi_end kr ?_
 refine qh_then ?_
 refine wh_seq ?_
 refine wh_region ?_
 refine w_ldB 0 0 rfl kr ti_29 rfl rfl ?_
 obtain ⟨r1, er1, h1⟩ := bnd h
 rcases r1 with r2 | r3
 ·
  have h2 := sumL h1
  refine w_fn [(1, true), (2, true), (3, true), (4, true)] (c_network_New er1) rfl fok_56 kr ?_
  rintro _ _ ⟨hv, rfl⟩; have hv := hv.symm; subst hv
  refine w_p Tb_ok 5 kr ?_
  refine wi_end kr ?_
  refine qh_then ?_
  refine wh_seq ?_
  refine wh_region ?_
  refine w_ldB 0 0 rfl kr ti_29 rfl rfl ?_
  obtain ⟨r4, er4, h3⟩ := bnd h2
  rcases r4 with r5 | r6
  ·
   have h4 := sumL h3
   refine w_fn [(1, true), (2, true), (3, true)] (c_privityref14_New er4) rfl fok_63 kr ?_
   rintro _ _ ⟨hv, rfl⟩; have hv := hv.symm; subst hv
   refine w_p Tb_ok 5 kr ?_
   refine wi_end kr ?_
   refine qh_then ?_
   refine wh_seq ?_
   refine wh_region ?_
   refine w_p Tb_ok 15 kr ?_
   refine wi_end kr ?_
   refine qh_then ?_
   refine wh_ret ?_
   have h4 := Option.some.inj h4; subst h4
   exact q_end (l := [(.pointer none), (.pointer none), .bool false]) [] 5 (inlP ⟨rfl, rfl⟩) (.inl rfl) kr kr kr
  ·
   have h5 := sumR h3
   refine w_fn [(1, true), (2, true), (3, true)] (c_privityref14_New er4) rfl fok_63 kr ?_
   rintro _ _ ⟨w5, w5__0_1, w5__0_2, w5__0_3, w5__2, w5__3, hv, rfl⟩; have hv := hv.symm; subst hv
   refine w_opP 0 rfl (fun b2 hb => ?_)
   subst hb
   refine w_p Tb_ok 5 kr ?_
   refine wi_end kr ?_
   refine qh_then ?_
   refine wh_seq ?_
   refine wh_region ?_
   refine w_p Tb_ok 15 kr ?_
   refine wi_end kr ?_
   refine qh_then ?_
   refine wh_ret ?_
   have h5 := Option.some.inj h5; subst h5
   exact q_end (l := [(.pointer none), (.pointer (some ⟨b2, 0, none⟩)), .bool false]) [(0, false), (0, true), (1, true), (2, true), (3, false), (3, false)] 8 (inrP (inlP ⟨(.pointer (some ⟨b2, 0, none⟩)), w5__0_1, w5__0_2, w5__0_3, (tw (th w5__2) (tg w5__2)), w5__3, rfl, rfl⟩)) (.inl rfl) kr kr kr
 ·
  have h6 := sumR h1
  refine w_fn [(1, true), (2, true), (3, true), (4, true)] (c_network_New er1) rfl fok_56 kr ?_
  rintro _ _ ⟨w7, w7__0_1, w7__0_2, w7__0_3, w7__2, w7__3, hv, rfl⟩; have hv := hv.symm; subst hv
  refine w_opP 0 rfl (fun b3 hb => ?_)
  subst hb
  refine w_p Tb_ok 5 kr ?_
  refine wi_end kr ?_
  refine qh_then ?_
  refine wh_seq ?_
  refine wh_region ?_
  refine w_ldB 6 0 rfl kr ti_29 rfl rfl ?_
  obtain ⟨r7, er7, h7⟩ := bnd h6
  rcases r7 with r8 | r9
  ·
   have h8 := sumL h7
   refine w_fn [(7, true), (8, true), (9, true)] (c_privityref14_New er7) rfl fok_63 kr ?_
   rintro _ _ ⟨hv, rfl⟩; have hv := hv.symm; subst hv
   refine w_p Tb_ok 5 kr ?_
   refine wi_end kr ?_
   refine qh_then ?_
   refine wh_seq ?_
   refine wh_region ?_
   refine w_p Tb_ok 15 kr ?_
   refine wi_end kr ?_
   refine qh_then ?_
   refine wh_ret ?_
   have h8 := Option.some.inj h8; subst h8
   exact q_end (l := [(.pointer (some ⟨b3, 0, none⟩)), (.pointer none), .bool false]) [(0, false), (0, true), (1, true), (2, true), (3, false), (3, false)] 8 (inrP (inrP (inlP ⟨(.pointer (some ⟨b3, 0, none⟩)), w7__0_1, w7__0_2, w7__0_3, (tw (th w7__2) (tg w7__2)), w7__3, rfl, rfl⟩))) (.inl rfl) kr kr kr
  ·
   have h9 := sumR h7
   refine w_fn [(7, true), (8, true), (9, true)] (c_privityref14_New er7) rfl fok_63 kr ?_
   rintro _ _ ⟨w11, w11__0_1, w11__0_2, w11__0_3, w11__2, w11__3, hv, rfl⟩; have hv := hv.symm; subst hv
   refine w_opP 0 rfl (fun b4 hb => ?_)
   subst hb
   refine w_p Tb_ok 5 kr ?_
   refine wi_end kr ?_
   refine qh_then ?_
   refine wh_seq ?_
   refine wh_region ?_
   refine w_p Tb_ok 10 kr ?_
   refine w_run (v := .bool true) (fun w => by kernel_rfl) ?_
   refine w_p Tb_ok 4 kr ?_
   refine wi_end kr ?_
   refine qh_then ?_
   refine wh_ret ?_
   have h9 := Option.some.inj h9; subst h9
   exact q_end (l := [(.pointer (some ⟨b3, 0, none⟩)), (.pointer (some ⟨b4, 0, none⟩)), .bool true]) [(6, false), (6, true), (7, true), (8, true), (9, false), (9, false), (0, false), (0, true), (1, true), (2, true), (3, false), (3, false)] 11 (inrP (inrP (inrP ⟨(.pointer (some ⟨b3, 0, none⟩)), w7__0_1, w7__0_2, w7__0_3, (tw (th w7__2) (tg w7__2)), w7__3, (.pointer (some ⟨b4, 0, none⟩)), w11__0_1, w11__0_2, w11__0_3, (tw (th w11__2) (tg w11__2)), w11__3, rfl, rfl⟩))) (.inl rfl) kr kr kr
theorem c_network_Net_Scenario {p_n : T_network_Net} {bp_n : Nat} {vp_n_1 : Value} {vp_n_2 : Value} {vp_n_3 : Value} {vp_n_4 : Value} {vp_n_5 : Value} {r : T_api_Scenario} (h : network_Net_Scenario p_n = some r) : Ct Tryd.prog 64 [(.pointer (some ⟨bp_n, 0, none⟩))] [blkP (.pointer (some ⟨bp_n, 0, none⟩)) 119 [.int .u64 p_n.zw.S.P, .int .i64 p_n.zw.S.N, .int .i64 p_n.zw.S.T, vp_n_1, vp_n_2, vp_n_3, .int .i64 p_n.zround, (th vp_n_4), vp_n_5], rdV Kd.i64 vp_n_1 p_n.zw.Corrupt, rdV K_api_Deviation vp_n_2 p_n.zw.Deviations, rdV (Kd.sl Kd.u64) vp_n_3 p_n.zw.Tapes, treeV (rowK K_api_Event 67) 46 (th vp_n_4) (tg vp_n_4) p_n.zviews, rdV Kd.any vp_n_5 p_n.ztapes] (fun v L => ∃ w0_1 w0_2 w0_3 : Value, v = .agg #[.int .u64 r.S.P, .int .i64 r.S.N, .int .i64 r.S.T, w0_1, w0_2, w0_3] ∧ L = [rdV Kd.i64 w0_1 r.Corrupt, rdV K_api_Deviation w0_2 r.Deviations, rdV (Kd.sl Kd.u64) w0_3 r.Tapes, blkP (.pointer (some ⟨bp_n, 0, none⟩)) 119 [.int .u64 p_n.zw.S.P, .int .i64 p_n.zw.S.N, .int .i64 p_n.zw.S.T, vp_n_1, vp_n_2, vp_n_3, .int .i64 p_n.zround, (th vp_n_4), vp_n_5], treeV (rowK K_api_Event 67) 46 (th vp_n_4) (tg vp_n_4) p_n.zviews]) := by
 refine ct_intro Tryd.func64 rfl kr (fun F => ?_)
 unfold network_Net_Scenario at h
 refine wh_seq ?_
 refine wh_region ?_
 refine w_al kr ti_29 (fun q1 => ?_)
 refine WI.hd (y := blkP q1 29 [.int .u64 ((0 : Nat) : Int), .int .i64 ((0 : Nat) : Int), .int .i64 ((0 : Nat) : Int), (.slice none 0 0), (.slice none 0 0), (.slice none 0 0)]) kr ?_
 refine w_opP 0 rfl (fun b1 hb => ?_)
 subst hb
 refine wi_end kr ?_
 refine qh_then ?_
 refine wh_seq ?_
 refine wh_region ?_
 refine w_p Tb_ok 3 kr ?_
 refine w_ldB 1 0 rfl kr ti_29 rfl rfl ?_
 refine w_stB (v := .agg #[.int .u64 p_n.zw.S.P, .int .i64 p_n.zw.S.N, .int .i64 p_n.zw.S.T, vp_n_1, vp_n_2, vp_n_3]) (off := 0) (cs := [.int .u64 p_n.zw.S.P, .int .i64 p_n.zw.S.N, .int .i64 p_n.zw.S.T, vp_n_1, vp_n_2, vp_n_3]) 0 rfl (cv0 kr) kr ti_29 rfl rfl (oC (fun _ _ => rfl) (oC (fun _ _ => rfl) (oC (fun _ _ => rfl) (oC (sl_one (rd_hd 2 rfl)) (oC (sl_one (rd_hd 3 rfl)) (oC (sl_one (rd_hd 4 rfl)) oN)))))) ?_
 refine WI.hd (y := blkP (.pointer (some ⟨b1, 0, none⟩)) 29 [.int .u64 p_n.zw.S.P, .int .i64 p_n.zw.S.N, .int .i64 p_n.zw.S.T, vp_n_1, vp_n_2, vp_n_3]) kr ?_
 refine wi_end kr ?_
 refine qh_then ?_
 refine wh_ret ?_
 have h := Option.some.inj h; subst h
 exact q_endc (l := [.agg #[.int .u64 p_n.zw.S.P, .int .i64 p_n.zw.S.N, .int .i64 p_n.zw.S.T, vp_n_1, vp_n_2, vp_n_3]]) [.blk 0 29 29] [(2, true), (3, true), (4, true), (1, false), (4, false)] 5 ⟨vp_n_1, vp_n_2, vp_n_3, rfl, rfl⟩ (.inl rfl) ⟨cellR (p := (.pointer (some ⟨b1, 0, none⟩))) 0 rfl kr ti_29 rfl kr, rfl⟩ kr kr
theorem c_slices_Clone_LLuint64_Luint64 {p_s : List (List Nat)} {vp_s_1 : Value} {r : (List (List Nat))} (h : slices_Clone_LLuint64_Luint64 p_s = some r) : Ct Tryd.prog 123 [vp_s_1] [rdV (Kd.sl Kd.u64) vp_s_1 p_s] (fun v L => ∃ w0 : Value, v = w0 ∧ L = [ownV (Kd.sl Kd.u64) 30 w0 r]) := by
 refine ct_intro Tryd.func123 rfl kr (fun F => ?_)
 unfold slices_Clone_LLuint64_Luint64 at h
 refine wh_seq ?_
 refine wh_region ?_
 refine w_p Tb_ok 1 kr ?_
 refine wi_end kr ?_
 refine qh_then ?_
 refine wh_seq ?_
 refine wh_seq ?_
 refine wh_region ?_
 refine w_p Tb_ok 1 kr ?_
 refine w_nl (b := true) 0 rfl kr ts_27 (fun hv hx => ?_) ?_
 ·
  subst hx
  refine wi_end kr ?_
  refine qh_then ?_
  refine h_ct (b := true) rfl kr ?_
  refine wh_seq ?_
  refine wh_region ?_
  refine w_p Tb_ok 1 kr ?_
  refine wi_end kr ?_
  refine qh_then ?_
  refine wh_ret ?_
  refine qh_then_ret ?_
  refine QH.ent (ownNil (kd := (Kd.sl Kd.u64)) (e := 30)) ?_
  obtain rfl : r = ([] : List (List Nat)) := by simpa [appO, cutO] using h.symm
  exact q_end (l := [(.slice none 0 0)]) [(0, false)] 1 ⟨(.slice none 0 0), rfl, rfl⟩ (.inl rfl) kr kr kr
 ·
  refine wi_end kr ?_
  refine qh_then ?_
  refine h_cf (b := false) rfl kr ?_
  refine wh_skip ?_
  refine qh_then ?_
  refine wh_seq ?_
  refine wh_region ?_
  refine w_lt (kd := (Kd.sl Kd.u64)) (t := 27) (len := 0) (ps0 := []) (ps := []) ([] : List (List Nat)) _ row0 sc0 kr ts_27 ti_30 kr rfl rfl (fun v1 => ?_)
  refine w_p Tb_ok 1 kr ?_
  obtain ⟨l1, el1, h1⟩ := bnd h
  refine w_app 0 rfl (rd_src 1 rfl) el1 kr ts_27 ti_30 rfl (fun v2 => ?_)
  refine w_p Tb_ok 1 kr ?_
  refine wi_end kr ?_
  refine qh_then ?_
  refine wh_ret ?_
  have h1 := Option.some.inj h1; subst h1
  exact q_end (l := [v2]) [(0, false)] 1 ⟨v2, rfl, rfl⟩ (.inl rfl) kr kr kr
theorem c_slices_Index_Lint_int {p_s : List Int} {p_v : Int} {vp_s_1 : Value} {r : Int} (h : slices_Index_Lint_int p_s p_v = some r) : Ct Tryd.prog 147 [vp_s_1, .int .i64 p_v] [rdV Kd.i64 vp_s_1 p_s] (fun v L => v = .int .i64 r ∧ L = []) := by
 refine ct_intro Tryd.func147 rfl kr (fun F => ?_)
 unfold slices_Index_Lint_int at h
 refine wh_seq ?_
 refine wh_region ?_
 refine w_p Tb_ok 1 kr ?_
 refine wi_end kr ?_
 refine qh_then ?_
 refine wh_seq ?_
 refine wh_seq ?_
 refine wh_region ?_
 refine w_p Tb_ok 1 kr ?_
 refine w_len (rd_hd 0 rfl) kr ts_25 ?_
 refine w_p Tb_ok 1 kr ?_
 refine wi_end kr ?_
 refine qh_then ?_
 refine h_lenle (rd_lenle 0 rfl) (fun hN1 => ?_)
 obtain ⟨r1, el1, h1⟩ := bnd h
 refine h_join (X := Unit × Unit) (fun g => []) (fun g => [] ++ F) (fun g => r1 = .go g.2) ?_ ?_
 ·
  refine wh_block ?_
  refine h_rg (fun (k1 : Nat) (st : Unit) (g : Unit) => [(0, vp_s_1), (1, .int .i64 p_v), (7, .int .i64 ((p_s.length : Nat) : Int)), (8, .int .i64 ((k1 : Nat) : Int))]) (fun (k1 : Nat) (st : Unit) (g : Unit) => [rdV Kd.i64 vp_s_1 p_s] ++ F) () el1 (Nat.zero_le _) aK (tH [(0, true)] 1) ?_ ?_
  ·
   rintro ⟨⟩ ⟨⟩ hr1 j
   refine wh_seq ?_
   refine wh_region ?_
   refine w_p Tb_ok 1 kr ?_
   refine wi_end kr ?_
   refine qh_then ?_
   refine wh_seq ?_
   refine h_cf (b := (decide ((((p_s.length) : Nat) : Int) < ((p_s.length : Nat) : Int)))) rgF kr ?_
   refine wh_exit ?_
   refine qh_then_exit ?_
   refine q_rzX ?_
   refine qh_block_exit ?_
   exact q_join ((), ()) hr1 aK (tH [] 1)
  ·
   rintro rem k1 ⟨⟩ ⟨⟩ o1 hk1 h2 hn1 j
   have h2 : slices_Index_Lint_int_L0 p_s p_v k1 = some o1 := h2
   unfold slices_Index_Lint_int_L0 at h2
   refine wh_seq ?_
   refine wh_region ?_
   refine w_p Tb_ok 1 kr ?_
   refine wi_end kr ?_
   refine qh_then ?_
   refine wh_seq ?_
   refine h_ct (b := (decide (((k1 : Nat) : Int) < ((p_s.length : Nat) : Int)))) (rgT hk1) kr ?_
   refine wh_skip ?_
   refine qh_then ?_
   refine wh_seq ?_
   refine wh_block ?_
   refine wh_seq ?_
   refine wh_region ?_
   refine w_p Tb_ok 2 kr ?_
   refine wi_end kr ?_
   refine qh_then ?_
   refine wh_seq ?_
   refine wh_region ?_
   refine w_p Tb_ok 3 kr ?_
   obtain ⟨x1, ex1, h3⟩ := bnd h2
   refine w_ix (k := .i64) (rd_hd 0 rfl) (nbd ex1) rfl kr ts_25 ti_3 ?_
   refine w_ldR 0 0 rfl ex1 kr ti_3 rfl rfl ?_
   rintro _
   refine w_p Tb_ok 1 kr ?_
   refine wi_end kr ?_
   refine qh_then ?_
   rcases bcase h3 with ⟨t1, h4⟩ | ⟨t1, h4⟩
   ·
    refine h_ct (b := (p_v == x1)) t1 kr ?_
    refine wh_seq ?_
    refine wh_region ?_
    refine w_p Tb_ok 2 kr ?_
    refine wi_end kr ?_
    refine qh_then ?_
    refine wh_ret ?_
    refine qh_block_ret ?_
    refine qh_then_ret ?_
    refine q_rgR ?_
    refine qh_block_ret ?_
    refine q_joinR ?_
    refine qh_then_ret ?_
    have h4 := Option.some.inj h4; subst h4
    have hn := (show _ = _ from hn1); subst hn
    have h1 := Option.some.inj (show some _ = some _ from h1); subst h1
    exact q_end (l := [.int .i64 ((k1 : Nat) : Int)]) [] 1 ⟨rfl, rfl⟩ (.inl rfl) kr kr kr
   ·
    refine h_cf (b := (p_v == x1)) t1 kr ?_
    refine wh_skip ?_
    refine qh_block_normal ?_
    refine qh_then ?_
    refine wh_region ?_
    refine w_bi (zinc hk1 hN1) kr ?_
    refine w_p Tb_ok 1 kr ?_
    refine wi_end kr ?_
    have h4 := Option.some.inj h4; subst h4
    exact q_rgo () hn1 aK (tH [(0, true)] 1)
 ·
  rintro ⟨⟨⟩, ⟨⟩⟩ hc j
  subst hc
  refine qh_then ?_
  refine wh_seq ?_
  refine wh_region ?_
  refine w_p Tb_ok 1 kr ?_
  refine wi_end kr ?_
  refine qh_then ?_
  refine wh_ret ?_
  have h1 := Option.some.inj h1; subst h1
  exact q_end (l := [.int .i64 (-1)]) [] 0 ⟨rfl, rfl⟩ (.inl rfl) kr kr kr
theorem c_slices_Contains_Lint_int {p_s : List Int} {p_v : Int} {vp_s_1 : Value} {r : Bool} (h : slices_Contains_Lint_int p_s p_v = some r) : Ct Tryd.prog 136 [vp_s_1, .int .i64 p_v] [rdV Kd.i64 vp_s_1 p_s] (fun v L => v = .bool r ∧ L = []) := by
 refine ct_intro Tryd.func136 rfl kr (fun F => ?_)
 unfold slices_Contains_Lint_int at h
 refine wh_seq ?_
 refine wh_region ?_
 refine w_p Tb_ok 1 kr ?_
 refine wi_end kr ?_
 refine qh_then ?_
 refine wh_seq ?_
 refine wh_region ?_
 refine w_p Tb_ok 2 kr ?_
 obtain ⟨r1, er1, h1⟩ := bnd h
 refine w_fn [(0, true)] (c_slices_Index_Lint_int er1) rfl fok_147 kr ?_
 rintro _ _ ⟨hv, rfl⟩; have hv := hv.symm; subst hv
 refine w_p Tb_ok 2 kr ?_
 refine wi_end kr ?_
 refine qh_then ?_
 refine wh_ret ?_
 have h1 := Option.some.inj h1; subst h1
 exact q_end (l := [.bool (decide (r1 ≥ (0 : Int)))]) [] 1 ⟨rfl, rfl⟩ (.inl rfl) kr kr kr
theorem c_adversary_done {p_w : T_api_Scenario} {p_x : T_api_Deviation} {p_round : Int} {vp_w_1 : Value} {vp_w_2 : Value} {vp_w_3 : Value} {r : Bool} (h : adversary_done p_w p_x p_round = some r) : Ct Tryd.prog 124 [.agg #[.int .u64 p_w.S.P, .int .i64 p_w.S.N, .int .i64 p_w.S.T, vp_w_1, vp_w_2, vp_w_3], .agg #[.int .i64 p_x.Round, .int .i64 p_x.From, .int .i64 p_x.To, .int .i64 p_x.At, .int .i64 p_x.Kind, .int .u64 p_x.K, .int .i64 p_x.Of, .int .i64 p_x.SrcIndex], .int .i64 p_round] [rdV Kd.i64 vp_w_1 p_w.Corrupt, rdV K_api_Deviation vp_w_2 p_w.Deviations, rdV (Kd.sl Kd.u64) vp_w_3 p_w.Tapes] (fun v L => v = .bool r ∧ L = []) := by
 refine ct_intro Tryd.func124 rfl kr (fun F => ?_)
 unfold adversary_done at h
 refine wh_seq ?_
 refine wh_region ?_
 refine w_box (t := 29) (v := .agg #[.int .u64 p_w.S.P, .int .i64 p_w.S.N, .int .i64 p_w.S.T, vp_w_1, vp_w_2, vp_w_3]) (cs := [.int .u64 p_w.S.P, .int .i64 p_w.S.N, .int .i64 p_w.S.T, vp_w_1, vp_w_2, vp_w_3]) (cv0 kr) kr (fun q1 => ?_)
 refine WI.hd (y := blkP q1 29 [.int .u64 p_w.S.P, .int .i64 p_w.S.N, .int .i64 p_w.S.T, vp_w_1, vp_w_2, vp_w_3]) kr ?_
 refine w_opP 0 rfl (fun b1 hb => ?_)
 subst hb
 refine w_box (t := 124) (v := .agg #[.int .i64 p_x.Round, .int .i64 p_x.From, .int .i64 p_x.To, .int .i64 p_x.At, .int .i64 p_x.Kind, .int .u64 p_x.K, .int .i64 p_x.Of, .int .i64 p_x.SrcIndex]) (cs := [.int .i64 p_x.Round, .int .i64 p_x.From, .int .i64 p_x.To, .int .i64 p_x.At, .int .i64 p_x.Kind, .int .u64 p_x.K, .int .i64 p_x.Of, .int .i64 p_x.SrcIndex]) (cv0 kr) kr (fun q2 => ?_)
 refine WI.hd (y := blkP q2 124 [.int .i64 p_x.Round, .int .i64 p_x.From, .int .i64 p_x.To, .int .i64 p_x.At, .int .i64 p_x.Kind, .int .u64 p_x.K, .int .i64 p_x.Of, .int .i64 p_x.SrcIndex]) kr ?_
 refine w_opP 0 rfl (fun b2 hb => ?_)
 subst hb
 refine w_p Tb_ok 1 kr ?_
 refine wi_end kr ?_
 refine qh_then ?_
 refine wh_seq ?_
 refine wh_region ?_
 refine w_p Tb_ok 1 kr ?_
 refine w_ldB 0 0 rfl kr ti_3 rfl rfl ?_
 refine w_p Tb_ok 3 kr ?_
 rcases bcase h with ⟨t1, h1⟩ | ⟨t1, h1⟩
 ·
  refine w_kb (t := 11) t1 kr ?_
  refine w_p Tb_ok 1 kr ?_
  refine w_ldB 1 3 rfl kr ti_25 rfl rfl ?_
  refine w_p Tb_ok 1 kr ?_
  refine w_ldB 0 1 rfl kr ti_3 rfl rfl ?_
  obtain ⟨r1, er1, h2⟩ := bnd h1
  refine w_fn [(2, true)] (c_slices_Contains_Lint_int er1) rfl fok_136 kr ?_
  rintro _ _ ⟨hv, rfl⟩; have hv := hv.symm; subst hv
  refine w_p Tb_ok 2 kr ?_
  refine wi_end kr ?_
  refine qh_then ?_
  refine wh_ret ?_
  have h2 := Option.some.inj h2; subst h2
  exact q_end (l := [.bool r1]) [] 5 ⟨rfl, rfl⟩ (.inl rfl) kr kr kr
 ·
  refine w_kb (t := 11) t1 kr ?_
  refine w_p Tb_ok 7 kr ?_
  refine wi_end kr ?_
  refine qh_then ?_
  refine wh_ret ?_
  have h1 := Option.some.inj h1; subst h1
  exact q_end (l := [.bool false]) [] 5 ⟨rfl, rfl⟩ (.inl rfl) kr kr kr
theorem c_math_bits_Len64 {p_x : Nat} {r : Int} (h : math_bits_Len64 p_x = some r) : Ct Tryd.prog 146 [.int .u64 p_x] [] (fun v L => v = .int .i64 r ∧ L = []) := by
 refine ct_intro Tryd.func146 rfl kr (fun F => ?_)
 unfold math_bits_Len64 at h
 rcases bcase h with ⟨t1, h1⟩ | ⟨t1, h1⟩
 ·
  have hq := eq_of_beq t1; subst hq
  refine wh_seq ?_
  refine wh_region ?_
  refine w_p Tb_ok 1 kr ?_
  refine wi_end kr ?_
  refine qh_then ?_
  refine wh_seq ?_
  refine wh_seq ?_
  refine wh_region ?_
  refine w_p Tb_ok 2 kr ?_
  refine wi_end kr ?_
  refine qh_then ?_
  refine h_cf (b := false) rfl kr ?_
  refine wh_skip ?_
  refine qh_then ?_
  refine wh_seq ?_
  refine wh_seq ?_
  refine wh_region ?_
  refine w_p Tb_ok 2 kr ?_
  refine wi_end kr ?_
  refine qh_then ?_
  refine h_cf (b := false) rfl kr ?_
  refine wh_skip ?_
  refine qh_then ?_
  refine wh_seq ?_
  refine wh_seq ?_
  refine wh_region ?_
  refine w_p Tb_ok 2 kr ?_
  refine wi_end kr ?_
  refine qh_then ?_
  refine h_cf (b := false) rfl kr ?_
  refine wh_skip ?_
  refine qh_then ?_
  refine wh_seq ?_
  refine wh_region ?_
  refine w_p Tb_ok 2 kr ?_
  refine w_run (v := .int .u8 ((31 : Nat) : Int)) (fun w => by kernel_rfl) ?_
  refine w_run (v := .int .u8 ((5 : Nat) : Int)) (fun w => by kernel_rfl) ?_
  refine w_run (v := .int .i64 ((5 : Nat) : Int)) (fun w => by kernel_rfl) ?_
  refine w_run (v := .int .i64 ((5 : Nat) : Int)) (fun w => by kernel_rfl) ?_
  refine w_p Tb_ok 1 kr ?_
  refine wi_end kr ?_
  refine qh_then ?_
  refine wh_ret ?_
  have h1 := Option.some.inj h1; subst h1
  exact q_end (l := [.int .i64 ((5 : Nat) : Int)]) [] 0 ⟨rfl, rfl⟩ (.inl rfl) kr kr kr
 ·
  rcases bcase h1 with ⟨t2, h2⟩ | ⟨t2, h2⟩
  ·
   have hq := eq_of_beq t2; subst hq
   refine wh_seq ?_
   refine wh_region ?_
   refine w_p Tb_ok 1 kr ?_
   refine wi_end kr ?_
   refine qh_then ?_
   refine wh_seq ?_
   refine wh_seq ?_
   refine wh_region ?_
   refine w_p Tb_ok 2 kr ?_
   refine wi_end kr ?_
   refine qh_then ?_
   refine h_cf (b := false) rfl kr ?_
   refine wh_skip ?_
   refine qh_then ?_
   refine wh_seq ?_
   refine wh_seq ?_
   refine wh_region ?_
   refine w_p Tb_ok 2 kr ?_
   refine wi_end kr ?_
   refine qh_then ?_
   refine h_cf (b := false) rfl kr ?_
   refine wh_skip ?_
   refine qh_then ?_
   refine wh_seq ?_
   refine wh_seq ?_
   refine wh_region ?_
   refine w_p Tb_ok 2 kr ?_
   refine wi_end kr ?_
   refine qh_then ?_
   refine h_cf (b := false) rfl kr ?_
   refine wh_skip ?_
   refine qh_then ?_
   refine wh_seq ?_
   refine wh_region ?_
   refine w_p Tb_ok 2 kr ?_
   refine w_run (v := .int .u8 ((127 : Nat) : Int)) (fun w => by kernel_rfl) ?_
   refine w_run (v := .int .u8 ((7 : Nat) : Int)) (fun w => by kernel_rfl) ?_
   refine w_run (v := .int .i64 ((7 : Nat) : Int)) (fun w => by kernel_rfl) ?_
   refine w_run (v := .int .i64 ((7 : Nat) : Int)) (fun w => by kernel_rfl) ?_
   refine w_p Tb_ok 1 kr ?_
   refine wi_end kr ?_
   refine qh_then ?_
   refine wh_ret ?_
   have h2 := Option.some.inj h2; subst h2
   exact q_end (l := [.int .i64 ((7 : Nat) : Int)]) [] 0 ⟨rfl, rfl⟩ (.inl rfl) kr kr kr
  ·
   rcases bcase h2 with ⟨t3, h3⟩ | ⟨t3, h3⟩
   ·
    have hq := eq_of_beq t3; subst hq
    refine wh_seq ?_
    refine wh_region ?_
    refine w_p Tb_ok 1 kr ?_
    refine wi_end kr ?_
    refine qh_then ?_
    refine wh_seq ?_
    refine wh_seq ?_
    refine wh_region ?_
    refine w_p Tb_ok 2 kr ?_
    refine wi_end kr ?_
    refine qh_then ?_
    refine h_cf (b := false) rfl kr ?_
    refine wh_skip ?_
    refine qh_then ?_
    refine wh_seq ?_
    refine wh_seq ?_
    refine wh_region ?_
    refine w_p Tb_ok 2 kr ?_
    refine wi_end kr ?_
    refine qh_then ?_
    refine h_cf (b := false) rfl kr ?_
    refine wh_skip ?_
    refine qh_then ?_
    refine wh_seq ?_
    refine wh_seq ?_
    refine wh_region ?_
    refine w_p Tb_ok 2 kr ?_
    refine wi_end kr ?_
    refine qh_then ?_
    refine h_ct (b := true) rfl kr ?_
    refine wh_seq ?_
    refine wh_region ?_
    refine w_p Tb_ok 1 kr ?_
    refine w_run (v := .int .u64 ((31 : Nat) : Int)) (fun w => by kernel_rfl) ?_
    refine w_p Tb_ok 1 kr ?_
    refine wi_end kr ?_
    refine qh_then ?_
    refine wh_region ?_
    refine w_p Tb_ok 1 kr ?_
    refine w_run (v := .int .i64 ((8 : Nat) : Int)) (fun w => by kernel_rfl) ?_
    refine w_p Tb_ok 1 kr ?_
    refine wi_end kr ?_
    refine qh_then ?_
    refine wh_seq ?_
    refine wh_region ?_
    refine w_p Tb_ok 2 kr ?_
    refine w_run (v := .int .u8 ((31 : Nat) : Int)) (fun w => by kernel_rfl) ?_
    refine w_run (v := .int .u8 ((5 : Nat) : Int)) (fun w => by kernel_rfl) ?_
    refine w_run (v := .int .i64 ((5 : Nat) : Int)) (fun w => by kernel_rfl) ?_
    refine w_run (v := .int .i64 ((13 : Nat) : Int)) (fun w => by kernel_rfl) ?_
    refine w_p Tb_ok 1 kr ?_
    refine wi_end kr ?_
    refine qh_then ?_
    refine wh_ret ?_
    have h3 := Option.some.inj h3; subst h3
    exact q_end (l := [.int .i64 ((13 : Nat) : Int)]) [] 0 ⟨rfl, rfl⟩ (.inl rfl) kr kr kr
   ·
    rcases bcase h3 with ⟨t4, h4⟩ | ⟨t4, h4⟩
    ·
     have hq := eq_of_beq t4; subst hq
     refine wh_seq ?_
     refine wh_region ?_
     refine w_p Tb_ok 1 kr ?_
     refine wi_end kr ?_
     refine qh_then ?_
     refine wh_seq ?_
     refine wh_seq ?_
     refine wh_region ?_
     refine w_p Tb_ok 2 kr ?_
     refine wi_end kr ?_
     refine qh_then ?_
     refine h_cf (b := false) rfl kr ?_
     refine wh_skip ?_
     refine qh_then ?_
     refine wh_seq ?_
     refine wh_seq ?_
     refine wh_region ?_
     refine w_p Tb_ok 2 kr ?_
     refine wi_end kr ?_
     refine qh_then ?_
     refine h_ct (b := true) rfl kr ?_
     refine wh_seq ?_
     refine wh_region ?_
     refine w_p Tb_ok 1 kr ?_
     refine w_run (v := .int .u64 ((1 : Nat) : Int)) (fun w => by kernel_rfl) ?_
     refine w_p Tb_ok 1 kr ?_
     refine wi_end kr ?_
     refine qh_then ?_
     refine wh_region ?_
     refine w_p Tb_ok 1 kr ?_
     refine w_run (v := .int .i64 ((16 : Nat) : Int)) (fun w => by kernel_rfl) ?_
     refine w_p Tb_ok 1 kr ?_
     refine wi_end kr ?_
     refine qh_then ?_
     refine wh_seq ?_
     refine wh_seq ?_
     refine wh_region ?_
     refine w_p Tb_ok 2 kr ?_
     refine wi_end kr ?_
     refine qh_then ?_
     refine h_cf (b := false) rfl kr ?_
     refine wh_skip ?_
     refine qh_then ?_
     refine wh_seq ?_
     refine wh_region ?_
     refine w_p Tb_ok 2 kr ?_
     refine w_run (v := .int .u8 ((1 : Nat) : Int)) (fun w => by kernel_rfl) ?_
     refine w_run (v := .int .u8 ((1 : Nat) : Int)) (fun w => by kernel_rfl) ?_
     refine w_run (v := .int .i64 ((1 : Nat) : Int)) (fun w => by kernel_rfl) ?_
     refine w_run (v := .int .i64 ((17 : Nat) : Int)) (fun w => by kernel_rfl) ?_
     refine w_p Tb_ok 1 kr ?_
     refine wi_end kr ?_
     refine qh_then ?_
     refine wh_ret ?_
     have h4 := Option.some.inj h4; subst h4
     exact q_end (l := [.int .i64 ((17 : Nat) : Int)]) [] 0 ⟨rfl, rfl⟩ (.inl rfl) kr kr kr
    ·
     rcases bcase h4 with ⟨t5, h5⟩ | ⟨t5, h5⟩
     ·
      have hq := eq_of_beq t5; subst hq
      refine wh_seq ?_
      refine wh_region ?_
      refine w_p Tb_ok 1 kr ?_
      refine wi_end kr ?_
      refine qh_then ?_
      refine wh_seq ?_
      refine wh_seq ?_
      refine wh_region ?_
      refine w_p Tb_ok 2 kr ?_
      refine wi_end kr ?_
      refine qh_then ?_
      refine h_cf (b := false) rfl kr ?_
      refine wh_skip ?_
      refine qh_then ?_
      refine wh_seq ?_
      refine wh_seq ?_
      refine wh_region ?_
      refine w_p Tb_ok 2 kr ?_
      refine wi_end kr ?_
      refine qh_then ?_
      refine h_ct (b := true) rfl kr ?_
      refine wh_seq ?_
      refine wh_region ?_
      refine w_p Tb_ok 1 kr ?_
      refine w_run (v := .int .u64 ((7 : Nat) : Int)) (fun w => by kernel_rfl) ?_
      refine w_p Tb_ok 1 kr ?_
      refine wi_end kr ?_
      refine qh_then ?_
      refine wh_region ?_
      refine w_p Tb_ok 1 kr ?_
      refine w_run (v := .int .i64 ((16 : Nat) : Int)) (fun w => by kernel_rfl) ?_
      refine w_p Tb_ok 1 kr ?_
      refine wi_end kr ?_
      refine qh_then ?_
      refine wh_seq ?_
      refine wh_seq ?_
      refine wh_region ?_
      refine w_p Tb_ok 2 kr ?_
      refine wi_end kr ?_
      refine qh_then ?_
      refine h_cf (b := false) rfl kr ?_
      refine wh_skip ?_
      refine qh_then ?_
      refine wh_seq ?_
      refine wh_region ?_
      refine w_p Tb_ok 2 kr ?_
      refine w_run (v := .int .u8 ((7 : Nat) : Int)) (fun w => by kernel_rfl) ?_
      refine w_run (v := .int .u8 ((3 : Nat) : Int)) (fun w => by kernel_rfl) ?_
      refine w_run (v := .int .i64 ((3 : Nat) : Int)) (fun w => by kernel_rfl) ?_
      refine w_run (v := .int .i64 ((19 : Nat) : Int)) (fun w => by kernel_rfl) ?_
      refine w_p Tb_ok 1 kr ?_
      refine wi_end kr ?_
      refine qh_then ?_
      refine wh_ret ?_
      have h5 := Option.some.inj h5; subst h5
      exact q_end (l := [.int .i64 ((19 : Nat) : Int)]) [] 0 ⟨rfl, rfl⟩ (.inl rfl) kr kr kr
     ·
      rcases bcase h5 with ⟨t6, h6⟩ | ⟨t6, h6⟩
      ·
       have hq := eq_of_beq t6; subst hq
       refine wh_seq ?_
       refine wh_region ?_
       refine w_p Tb_ok 1 kr ?_
       refine wi_end kr ?_
       refine qh_then ?_
       refine wh_seq ?_
       refine wh_seq ?_
       refine wh_region ?_
       refine w_p Tb_ok 2 kr ?_
       refine wi_end kr ?_
       refine qh_then ?_
       refine h_cf (b := false) rfl kr ?_
       refine wh_skip ?_
       refine qh_then ?_
       refine wh_seq ?_
       refine wh_seq ?_
       refine wh_region ?_
       refine w_p Tb_ok 2 kr ?_
       refine wi_end kr ?_
       refine qh_then ?_
       refine h_ct (b := true) rfl kr ?_
       refine wh_seq ?_
       refine wh_region ?_
       refine w_p Tb_ok 1 kr ?_
       refine w_run (v := .int .u64 ((32767 : Nat) : Int)) (fun w => by kernel_rfl) ?_
       refine w_p Tb_ok 1 kr ?_
       refine wi_end kr ?_
       refine qh_then ?_
       refine wh_region ?_
       refine w_p Tb_ok 1 kr ?_
       refine w_run (v := .int .i64 ((16 : Nat) : Int)) (fun w => by kernel_rfl) ?_
       refine w_p Tb_ok 1 kr ?_
       refine wi_end kr ?_
       refine qh_then ?_
       refine wh_seq ?_
       refine wh_seq ?_
       refine wh_region ?_
       refine w_p Tb_ok 2 kr ?_
       refine wi_end kr ?_
       refine qh_then ?_
       refine h_ct (b := true) rfl kr ?_
       refine wh_seq ?_
       refine wh_region ?_
       refine w_p Tb_ok 1 kr ?_
       refine w_run (v := .int .u64 ((127 : Nat) : Int)) (fun w => by kernel_rfl) ?_
       refine w_p Tb_ok 1 kr ?_
       refine wi_end kr ?_
       refine qh_then ?_
       refine wh_region ?_
       refine w_p Tb_ok 1 kr ?_
       refine w_run (v := .int .i64 ((24 : Nat) : Int)) (fun w => by kernel_rfl) ?_
       refine w_p Tb_ok 1 kr ?_
       refine wi_end kr ?_
       refine qh_then ?_
       refine wh_seq ?_
       refine wh_region ?_
       refine w_p Tb_ok 2 kr ?_
       refine w_run (v := .int .u8 ((127 : Nat) : Int)) (fun w => by kernel_rfl) ?_
       refine w_run (v := .int .u8 ((7 : Nat) : Int)) (fun w => by kernel_rfl) ?_
       refine w_run (v := .int .i64 ((7 : Nat) : Int)) (fun w => by kernel_rfl) ?_
       refine w_run (v := .int .i64 ((31 : Nat) : Int)) (fun w => by kernel_rfl) ?_
       refine w_p Tb_ok 1 kr ?_
       refine wi_end kr ?_
       refine qh_then ?_
       refine wh_ret ?_
       have h6 := Option.some.inj h6; subst h6
       exact q_end (l := [.int .i64 ((31 : Nat) : Int)]) [] 0 ⟨rfl, rfl⟩ (.inl rfl) kr kr kr
      ·
       rcases bcase h6 with ⟨t7, h7⟩ | ⟨t7, h7⟩
       ·
        have hq := eq_of_beq t7; subst hq
        refine wh_seq ?_
        refine wh_region ?_
        refine w_p Tb_ok 1 kr ?_
        refine wi_end kr ?_
        refine qh_then ?_
        refine wh_seq ?_
        refine wh_seq ?_
        refine wh_region ?_
        refine w_p Tb_ok 2 kr ?_
        refine wi_end kr ?_
        refine qh_then ?_
        refine h_ct (b := true) rfl kr ?_
        refine wh_seq ?_
        refine wh_region ?_
        refine w_p Tb_ok 1 kr ?_
        refine w_run (v := .int .u64 ((536870911 : Nat) : Int)) (fun w => by kernel_rfl) ?_
        refine w_p Tb_ok 1 kr ?_
        refine wi_end kr ?_
        refine qh_then ?_
        refine wh_region ?_
        refine w_p Tb_ok 1 kr ?_
        refine wi_end kr ?_
        refine qh_then ?_
        refine wh_seq ?_
        refine wh_seq ?_
        refine wh_region ?_
        refine w_p Tb_ok 2 kr ?_
        refine wi_end kr ?_
        refine qh_then ?_
        refine h_ct (b := true) rfl kr ?_
        refine wh_seq ?_
        refine wh_region ?_
        refine w_p Tb_ok 1 kr ?_
        refine w_run (v := .int .u64 ((8191 : Nat) : Int)) (fun w => by kernel_rfl) ?_
        refine w_p Tb_ok 1 kr ?_
        refine wi_end kr ?_
        refine qh_then ?_
        refine wh_region ?_
        refine w_p Tb_ok 1 kr ?_
        refine w_run (v := .int .i64 ((48 : Nat) : Int)) (fun w => by kernel_rfl) ?_
        refine w_p Tb_ok 1 kr ?_
        refine wi_end kr ?_
        refine qh_then ?_
        refine wh_seq ?_
        refine wh_seq ?_
        refine wh_region ?_
        refine w_p Tb_ok 2 kr ?_
        refine wi_end kr ?_
        refine qh_then ?_
        refine h_ct (b := true) rfl kr ?_
        refine wh_seq ?_
        refine wh_region ?_
        refine w_p Tb_ok 1 kr ?_
        refine w_run (v := .int .u64 ((31 : Nat) : Int)) (fun w => by kernel_rfl) ?_
        refine w_p Tb_ok 1 kr ?_
        refine wi_end kr ?_
        refine qh_then ?_
        refine wh_region ?_
        refine w_p Tb_ok 1 kr ?_
        refine w_run (v := .int .i64 ((56 : Nat) : Int)) (fun w => by kernel_rfl) ?_
        refine w_p Tb_ok 1 kr ?_
        refine wi_end kr ?_
        refine qh_then ?_
        refine wh_seq ?_
        refine wh_region ?_
        refine w_p Tb_ok 2 kr ?_
        refine w_run (v := .int .u8 ((31 : Nat) : Int)) (fun w => by kernel_rfl) ?_
        refine w_run (v := .int .u8 ((5 : Nat) : Int)) (fun w => by kernel_rfl) ?_
        refine w_run (v := .int .i64 ((5 : Nat) : Int)) (fun w => by kernel_rfl) ?_
        refine w_run (v := .int .i64 ((61 : Nat) : Int)) (fun w => by kernel_rfl) ?_
        refine w_p Tb_ok 1 kr ?_
        refine wi_end kr ?_
        refine qh_then ?_
        refine wh_ret ?_
        have h7 := Option.some.inj h7; subst h7
        exact q_end (l := [.int .i64 ((61 : Nat) : Int)]) [] 0 ⟨rfl, rfl⟩ (.inl rfl) kr kr kr
       ·
        cases h7
theorem c_field_width {p_p : Nat} {r : Nat} (h : field_width p_p = some r) : Ct Tryd.prog 134 [.int .u64 p_p] [] (fun v L => v = .int .u64 r ∧ L = []) := by
 refine ct_intro Tryd.func134 rfl kr (fun F => ?_)
 unfold field_width at h
 refine wh_seq ?_
 refine wh_region ?_
 refine w_p Tb_ok 1 kr ?_
 refine wi_end kr ?_
 refine qh_then ?_
 refine wh_seq ?_
 refine wh_region ?_
 refine w_p Tb_ok 1 kr ?_
 obtain ⟨r1, er1, h1⟩ := bnd h
 refine w_fn [] (c_math_bits_Len64 er1) rfl fok_146 kr ?_
 rintro _ _ ⟨hv, rfl⟩; have hv := hv.symm; subst hv
 obtain ⟨x1, ex1, h2⟩ := bnd h1
 refine w_cv Tb_ok (ecU ex1) kr ?_
 refine w_p Tb_ok 1 kr ?_
 refine wi_end kr ?_
 refine qh_then ?_
 refine wh_ret ?_
 have h2 := Option.some.inj h2; subst h2
 exact q_end (l := [.int .u64 x1]) [] 0 ⟨rfl, rfl⟩ (.inl rfl) kr kr kr
theorem c_field_fold {p_p : Nat} {p_hi : Nat} {p_lo : Nat} {r : Nat} (h : field_fold p_p p_hi p_lo = some r) : Ct Tryd.prog 118 [.int .u64 p_p, .int .u64 p_hi, .int .u64 p_lo] [] (fun v L => v = .int .u64 r ∧ L = []) := by
 refine ct_intro Tryd.func118 rfl kr (fun F => ?_)
 unfold field_fold at h
 refine wh_seq ?_
 refine wh_region ?_
 refine w_p Tb_ok 1 kr ?_
 refine wi_end kr ?_
 refine qh_then ?_
 refine wh_seq ?_
 refine wh_region ?_
 refine w_p Tb_ok 1 kr ?_
 obtain ⟨r1, er1, h1⟩ := bnd h
 refine w_fn [] (c_field_width er1) rfl fok_134 kr ?_
 rintro _ _ ⟨hv, rfl⟩; have hv := hv.symm; subst hv
 refine w_p Tb_ok 1 kr ?_
 refine wi_end kr ?_
 refine qh_then ?_
 refine wh_seq ?_
 obtain ⟨x4, el1, h2⟩ := bnd h1
 refine h_join (X := Unit) (fun g => [(0, .int .u64 p_p), (2, .int .u64 x4)]) (fun g => [] ++ F) (fun _ => True) ?_ ?_
 ·
  refine wh_block ?_
  refine h_lp (fun (st : Nat × Nat) (g : Unit) => [(0, .int .u64 p_p), (1, .int .u64 st.1), (2, .int .u64 st.2), (7, .int .u64 r1)]) (fun (st : Nat × Nat) (g : Unit) => [] ++ F) () el1 aK (tH [] 0) ?_
  rintro kk ⟨x1, x2⟩ ⟨⟩ o1 h3 hn1 j
  have h3 : field_fold_L0 p_p r1 x1 x2 = some o1 := h3
  unfold field_fold_L0 at h3
  refine wh_seq ?_
  refine wh_seq ?_
  obtain ⟨x5, ej1, h4⟩ := bnd h3
  refine h_join (X := Unit) (fun g => [(0, .int .u64 p_p), (1, .int .u64 x1), (2, .int .u64 x2), (7, .int .u64 r1), (19, .bool x5)]) (fun g => [] ++ F) (fun _ => True) ?_ ?_
  ·
   refine wh_region ?_
   refine w_p Tb_ok 3 kr ?_
   rcases bcase ej1 with ⟨t1, h5⟩ | ⟨t1, h5⟩
   ·
    refine w_kb (t := 15) t1 kr ?_
    refine w_p Tb_ok 4 kr ?_
    refine wi_end kr ?_
    cases h5
    exact q_join () trivial aK (tH [] 0)
   ·
    refine w_kb (t := 15) t1 kr ?_
    refine w_p Tb_ok 4 kr ?_
    refine wi_end kr ?_
    cases h5
    exact q_join () trivial aK (tH [] 0)
  ·
   rintro ⟨⟩ - j
   refine qh_then ?_
   rcases bcase h4 with ⟨t2, h6⟩ | ⟨t2, h6⟩
   ·
    refine h_ct (b := x5) t2 kr ?_
    refine wh_skip ?_
    refine qh_then ?_
    refine wh_block ?_
    refine wh_seq ?_
    refine wh_region ?_
    refine w_p Tb_ok 2 kr ?_
    obtain ⟨x6, ex6, h7⟩ := bnd h6
    refine w_bi (eandU ex6) kr ?_
    refine w_p Tb_ok 1 kr ?_
    refine wi_end kr ?_
    refine qh_then ?_
    refine wh_seq ?_
    refine wh_region ?_
    refine w_p Tb_ok 2 kr ?_
    obtain ⟨x7, ex7, h8⟩ := bnd h7
    refine w_sh (yk := .u64) (.inr rfl) (zshr ex7) kr ?_
    refine w_p Tb_ok 2 kr ?_
    obtain ⟨x8, ex8, h9⟩ := bnd h8
    refine w_bi (esubU ex8) kr ?_
    obtain ⟨x9, ex9, h10⟩ := bnd h9
    refine w_sh (yk := .u64) (.inl rfl) (zshl ex9) kr ?_
    obtain ⟨x10, ex10, h11⟩ := bnd h10
    refine w_bi (eorU ex10) kr ?_
    refine w_p Tb_ok 2 kr ?_
    obtain ⟨x11, ex11, h12⟩ := bnd h11
    refine w_sh (yk := .u64) (.inr rfl) (zshr ex11) kr ?_
    refine w_p Tb_ok 2 kr ?_
    refine wi_end kr ?_
    refine qh_then ?_
    refine wh_seq ?_
    refine wh_region ?_
    refine w_p Tb_ok 2 kr ?_
    obtain ⟨x12, ex12, h13⟩ := bnd h12
    obtain ⟨x13, ex13, h14⟩ := bnd h13
    refine w_ext ext_135 (add64E ex12 ex13) kr ?_
    refine w_p Tb_ok 5 kr ?_
    refine wi_end kr ?_
    refine qh_then ?_
    refine wh_region ?_
    refine w_p Tb_ok 3 kr ?_
    obtain ⟨x14, ex14, h15⟩ := bnd h14
    refine w_bi (eaddU ex14) kr ?_
    refine w_p Tb_ok 2 kr ?_
    refine wi_end kr ?_
    refine qh_block_normal ?_
    have h15 := Option.some.inj h15; subst h15
    exact q_go () hn1 aK (tH [] 0)
   ·
    refine h_cf (b := x5) t2 kr ?_
    refine wh_exit ?_
    refine qh_then_exit ?_
    refine q_lpX ?_
    refine qh_block_exit ?_
    have h6 := Option.some.inj h6; subst h6
    cases (show _ = _ from hn1)
    exact q_join () trivial aK (tH [] 0)
 ·
  rintro ⟨⟩ - j
  refine qh_then ?_
  refine wh_seq ?_
  refine wh_seq ?_
  refine wh_region ?_
  refine w_p Tb_ok 3 kr ?_
  refine wi_end kr ?_
  refine qh_then ?_
  rcases bcase h2 with ⟨t3, h16⟩ | ⟨t3, h16⟩
  ·
   refine h_ct (b := (((x4 : Nat) : Int) == ((p_p : Nat) : Int))) t3 kr ?_
   refine wh_seq ?_
   refine wh_region ?_
   refine w_p Tb_ok 1 kr ?_
   refine wi_end kr ?_
   refine qh_then ?_
   refine wh_ret ?_
   refine qh_then_ret ?_
   have h16 := Option.some.inj h16; subst h16
   exact q_end (l := [.int .u64 ((0 : Nat) : Int)]) [] 0 ⟨rfl, rfl⟩ (.inl rfl) kr kr kr
  ·
   refine h_cf (b := (((x4 : Nat) : Int) == ((p_p : Nat) : Int))) t3 kr ?_
   refine wh_skip ?_
   refine qh_then ?_
   refine wh_seq ?_
   refine wh_region ?_
   refine w_p Tb_ok 2 kr ?_
   refine wi_end kr ?_
   refine qh_then ?_
   refine wh_ret ?_
   have h16 := Option.some.inj h16; subst h16
   exact q_end (l := [.int .u64 x4]) [] 0 ⟨rfl, rfl⟩ (.inl rfl) kr kr kr
theorem c_field_Reduce {p_p : Nat} {p_n : Nat} {r : Nat} (h : field_Reduce p_p p_n = some r) : Ct Tryd.prog 137 [.int .u64 p_p, .int .u64 p_n] [] (fun v L => v = .int .u64 r ∧ L = []) := by
 refine ct_intro Tryd.func137 rfl kr (fun F => ?_)
 unfold field_Reduce at h
 refine wh_seq ?_
 refine wh_region ?_
 refine w_p Tb_ok 1 kr ?_
 refine wi_end kr ?_
 refine qh_then ?_
 refine wh_seq ?_
 refine wh_region ?_
 refine w_p Tb_ok 2 kr ?_
 obtain ⟨r1, er1, h1⟩ := bnd h
 refine w_fn [] (c_field_fold er1) rfl fok_118 kr ?_
 rintro _ _ ⟨hv, rfl⟩; have hv := hv.symm; subst hv
 refine w_p Tb_ok 1 kr ?_
 refine wi_end kr ?_
 refine qh_then ?_
 refine wh_ret ?_
 have h1 := Option.some.inj h1; subst h1
 exact q_end (l := [.int .u64 r1]) [] 0 ⟨rfl, rfl⟩ (.inl rfl) kr kr kr
theorem c_slices_Clone_Luint64_uint64 {p_s : List Nat} {vp_s_1 : Value} {r : (List Nat)} (h : slices_Clone_Luint64_uint64 p_s = some r) : Ct Tryd.prog 138 [vp_s_1] [rdV Kd.u64 vp_s_1 p_s] (fun v L => ∃ w0 : Value, v = w0 ∧ L = [ownV Kd.u64 22 w0 r]) := by
 refine ct_intro Tryd.func138 rfl kr (fun F => ?_)
 unfold slices_Clone_Luint64_uint64 at h
 refine wh_seq ?_
 refine wh_region ?_
 refine w_p Tb_ok 1 kr ?_
 refine wi_end kr ?_
 refine qh_then ?_
 refine wh_seq ?_
 refine wh_seq ?_
 refine wh_region ?_
 refine w_p Tb_ok 1 kr ?_
 refine w_nl (b := true) 0 rfl kr ts_30 (fun hv hx => ?_) ?_
 ·
  subst hx
  refine wi_end kr ?_
  refine qh_then ?_
  refine h_ct (b := true) rfl kr ?_
  refine wh_seq ?_
  refine wh_region ?_
  refine w_p Tb_ok 1 kr ?_
  refine wi_end kr ?_
  refine qh_then ?_
  refine wh_ret ?_
  refine qh_then_ret ?_
  refine QH.ent (ownNil (kd := Kd.u64) (e := 22)) ?_
  obtain rfl : r = ([] : List Nat) := by simpa [appO, cutO] using h.symm
  exact q_end (l := [(.slice none 0 0)]) [(0, false)] 1 ⟨(.slice none 0 0), rfl, rfl⟩ (.inl rfl) kr kr kr
 ·
  refine wi_end kr ?_
  refine qh_then ?_
  refine h_cf (b := false) rfl kr ?_
  refine wh_skip ?_
  refine qh_then ?_
  refine wh_seq ?_
  refine wh_region ?_
  refine w_lt (kd := Kd.u64) (t := 30) (len := 0) (ps0 := []) (ps := []) ([] : List Nat) _ row0 sc0 kr ts_30 ti_22 kr rfl rfl (fun v1 => ?_)
  refine w_p Tb_ok 1 kr ?_
  obtain ⟨l1, el1, h1⟩ := bnd h
  refine w_app 0 rfl (rd_src 1 rfl) el1 kr ts_30 ti_22 rfl (fun v2 => ?_)
  refine w_p Tb_ok 1 kr ?_
  refine wi_end kr ?_
  refine qh_then ?_
  refine wh_ret ?_
  have h1 := Option.some.inj h1; subst h1
  exact q_end (l := [v2]) [(0, false)] 1 ⟨v2, rfl, rfl⟩ (.inl rfl) kr kr kr
theorem c_field_Add {p_p : Nat} {p_a : Nat} {p_b : Nat} {r : Nat} (h : field_Add p_p p_a p_b = some r) : Ct Tryd.prog 89 [.int .u64 p_p, .int .u64 p_a, .int .u64 p_b] [] (fun v L => v = .int .u64 r ∧ L = []) := by
 refine ct_intro Tryd.func89 rfl kr (fun F => ?_)
 unfold field_Add at h
 refine wh_seq ?_
 refine wh_region ?_
 refine w_p Tb_ok 1 kr ?_
 refine wi_end kr ?_
 refine qh_then ?_
 refine wh_seq ?_
 refine wh_region ?_
 refine w_p Tb_ok 3 kr ?_
 obtain ⟨x1, ex1, h1⟩ := bnd h
 refine w_bi (eaddU ex1) kr ?_
 obtain ⟨r1, er1, h2⟩ := bnd h1
 refine w_fn [] (c_field_fold er1) rfl fok_118 kr ?_
 rintro _ _ ⟨hv, rfl⟩; have hv := hv.symm; subst hv
 refine w_p Tb_ok 1 kr ?_
 refine wi_end kr ?_
 refine qh_then ?_
 refine wh_ret ?_
 have h2 := Option.some.inj h2; subst h2
 exact q_end (l := [.int .u64 r1]) [] 0 ⟨rfl, rfl⟩ (.inl rfl) kr kr kr
theorem c_adversary_word {p_l : List Nat} {p_at : Int} {vp_l_1 : Value} {r : Nat} (h : adversary_word p_l p_at = some r) : Ct Tryd.prog 139 [vp_l_1, .int .i64 p_at] [rdV Kd.u64 vp_l_1 p_l] (fun v L => v = .int .u64 r ∧ L = []) := by
 refine ct_intro Tryd.func139 rfl kr (fun F => ?_)
 unfold adversary_word at h
 refine wh_seq ?_
 refine wh_region ?_
 refine w_p Tb_ok 1 kr ?_
 refine wi_end kr ?_
 refine qh_then ?_
 refine wh_seq ?_
 refine wh_seq ?_
 refine wh_region ?_
 refine w_p Tb_ok 3 kr ?_
 rcases bcase h with ⟨t1, h1⟩ | ⟨t1, h1⟩
 ·
  refine w_kb (t := 7) t1 kr ?_
  refine w_p Tb_ok 5 kr ?_
  refine wi_end kr ?_
  refine qh_then ?_
  refine h_ct (b := true) rfl kr ?_
  refine wh_seq ?_
  refine wh_region ?_
  refine w_p Tb_ok 1 kr ?_
  refine wi_end kr ?_
  refine qh_then ?_
  refine wh_ret ?_
  refine qh_then_ret ?_
  have h1 := Option.some.inj h1; subst h1
  exact q_end (l := [.int .u64 ((0 : Nat) : Int)]) [] 1 ⟨rfl, rfl⟩ (.inl rfl) kr kr kr
 ·
  refine w_kb (t := 7) t1 kr ?_
  refine w_p Tb_ok 2 kr ?_
  refine w_len (rd_hd 0 rfl) kr ts_30 ?_
  refine w_p Tb_ok 2 kr ?_
  refine wi_end kr ?_
  refine qh_then ?_
  rcases bcase h1 with ⟨t2, h2⟩ | ⟨t2, h2⟩
  ·
   refine h_ct (b := (decide (p_at ≥ ((p_l.length : Nat) : Int)))) t2 kr ?_
   refine wh_seq ?_
   refine wh_region ?_
   refine w_p Tb_ok 1 kr ?_
   refine wi_end kr ?_
   refine qh_then ?_
   refine wh_ret ?_
   refine qh_then_ret ?_
   have h2 := Option.some.inj h2; subst h2
   exact q_end (l := [.int .u64 ((0 : Nat) : Int)]) [] 1 ⟨rfl, rfl⟩ (.inl rfl) kr kr kr
  ·
   refine h_cf (b := (decide (p_at ≥ ((p_l.length : Nat) : Int)))) t2 kr ?_
   refine wh_skip ?_
   refine qh_then ?_
   refine wh_seq ?_
   refine wh_region ?_
   refine w_p Tb_ok 2 kr ?_
   obtain ⟨x1, ex1, h3⟩ := bnd h2
   refine w_ix (k := .i64) (rd_hd 0 rfl) (ib ex1) (iz ex1) kr ts_30 ti_22 ?_
   refine w_ldR 0 0 rfl (ig ex1) kr ti_22 rfl rfl ?_
   rintro _
   refine w_p Tb_ok 1 kr ?_
   refine wi_end kr ?_
   refine qh_then ?_
   refine wh_ret ?_
   have h3 := Option.some.inj h3; subst h3
   exact q_end (l := [.int .u64 x1]) [] 1 ⟨rfl, rfl⟩ (.inl rfl) kr kr kr
theorem c_math_bits_Mul64 {p_x : Nat} {p_y : Nat} {r : Nat × Nat} (h : math_bits_Mul64 p_x p_y = some r) : Ct Tryd.prog 117 [.int .u64 p_x, .int .u64 p_y] [] (fun v L => v = .tuple #[.int .u64 r.1, .int .u64 r.2] ∧ L = []) := by
 refine ct_intro Tryd.func117 rfl kr (fun F => ?_)
 unfold math_bits_Mul64 at h
 refine wh_seq ?_
 refine wh_region ?_
 refine w_p Tb_ok 2 kr ?_
 refine wi_end kr ?_
 refine qh_then ?_
 refine wh_seq ?_
 refine wh_region ?_
 refine w_p Tb_ok 1 kr ?_
 obtain ⟨x1, ex1, h1⟩ := bnd h
 refine w_bi (eandU ex1) kr ?_
 refine w_p Tb_ok 1 kr ?_
 refine wi_end kr ?_
 refine qh_then ?_
 refine wh_seq ?_
 refine wh_region ?_
 refine w_p Tb_ok 1 kr ?_
 obtain ⟨x2, ex2, h2⟩ := bnd h1
 refine w_sh (yk := .u64) (.inr rfl) (zshr ex2) kr ?_
 refine w_p Tb_ok 1 kr ?_
 refine wi_end kr ?_
 refine qh_then ?_
 refine wh_seq ?_
 refine wh_region ?_
 refine w_p Tb_ok 1 kr ?_
 obtain ⟨x3, ex3, h3⟩ := bnd h2
 refine w_bi (eandU ex3) kr ?_
 refine w_p Tb_ok 1 kr ?_
 refine wi_end kr ?_
 refine qh_then ?_
 refine wh_seq ?_
 refine wh_region ?_
 refine w_p Tb_ok 1 kr ?_
 obtain ⟨x4, ex4, h4⟩ := bnd h3
 refine w_sh (yk := .u64) (.inr rfl) (zshr ex4) kr ?_
 refine w_p Tb_ok 1 kr ?_
 refine wi_end kr ?_
 refine qh_then ?_
 refine wh_seq ?_
 refine wh_region ?_
 refine w_p Tb_ok 2 kr ?_
 obtain ⟨x5, ex5, h5⟩ := bnd h4
 refine w_bi (emulU ex5) kr ?_
 refine w_p Tb_ok 1 kr ?_
 refine wi_end kr ?_
 refine qh_then ?_
 refine wh_seq ?_
 refine wh_region ?_
 refine w_p Tb_ok 2 kr ?_
 obtain ⟨x6, ex6, h6⟩ := bnd h5
 refine w_bi (emulU ex6) kr ?_
 refine w_p Tb_ok 1 kr ?_
 obtain ⟨x7, ex7, h7⟩ := bnd h6
 refine w_sh (yk := .u64) (.inr rfl) (zshr ex7) kr ?_
 obtain ⟨x8, ex8, h8⟩ := bnd h7
 refine w_bi (eaddU ex8) kr ?_
 refine w_p Tb_ok 1 kr ?_
 refine wi_end kr ?_
 refine qh_then ?_
 refine wh_seq ?_
 refine wh_region ?_
 refine w_p Tb_ok 1 kr ?_
 obtain ⟨x9, ex9, h9⟩ := bnd h8
 refine w_bi (eandU ex9) kr ?_
 refine w_p Tb_ok 1 kr ?_
 refine wi_end kr ?_
 refine qh_then ?_
 refine wh_seq ?_
 refine wh_region ?_
 refine w_p Tb_ok 1 kr ?_
 obtain ⟨x10, ex10, h10⟩ := bnd h9
 refine w_sh (yk := .u64) (.inr rfl) (zshr ex10) kr ?_
 refine w_p Tb_ok 1 kr ?_
 refine wi_end kr ?_
 refine qh_then ?_
 refine wh_seq ?_
 refine wh_region ?_
 refine w_p Tb_ok 3 kr ?_
 obtain ⟨x11, ex11, h11⟩ := bnd h10
 refine w_bi (emulU ex11) kr ?_
 obtain ⟨x12, ex12, h12⟩ := bnd h11
 refine w_bi (eaddU ex12) kr ?_
 refine w_p Tb_ok 1 kr ?_
 refine wi_end kr ?_
 refine qh_then ?_
 refine wh_seq ?_
 refine wh_region ?_
 refine w_p Tb_ok 2 kr ?_
 obtain ⟨x13, ex13, h13⟩ := bnd h12
 refine w_bi (emulU ex13) kr ?_
 refine w_p Tb_ok 1 kr ?_
 obtain ⟨x14, ex14, h14⟩ := bnd h13
 refine w_bi (eaddU ex14) kr ?_
 refine w_p Tb_ok 1 kr ?_
 obtain ⟨x15, ex15, h15⟩ := bnd h14
 refine w_sh (yk := .u64) (.inr rfl) (zshr ex15) kr ?_
 obtain ⟨x16, ex16, h16⟩ := bnd h15
 refine w_bi (eaddU ex16) kr ?_
 refine w_p Tb_ok 1 kr ?_
 refine wi_end kr ?_
 refine qh_then ?_
 refine wh_seq ?_
 refine wh_region ?_
 refine w_p Tb_ok 2 kr ?_
 obtain ⟨x17, ex17, h17⟩ := bnd h16
 refine w_bi (emulU ex17) kr ?_
 refine w_p Tb_ok 1 kr ?_
 refine wi_end kr ?_
 refine qh_then ?_
 refine wh_ret ?_
 have h17 := Option.some.inj h17; subst h17
 exact q_end (l := [.int .u64 x16, .int .u64 x17]) [] 0 ⟨rfl, rfl⟩ (.inl rfl) kr kr kr
theorem c_field_Mul {p_p : Nat} {p_a : Nat} {p_b : Nat} {r : Nat} (h : field_Mul p_p p_a p_b = some r) : Ct Tryd.prog 87 [.int .u64 p_p, .int .u64 p_a, .int .u64 p_b] [] (fun v L => v = .int .u64 r ∧ L = []) := by
 refine ct_intro Tryd.func87 rfl kr (fun F => ?_)
 unfold field_Mul at h
 refine wh_seq ?_
 refine wh_region ?_
 refine w_p Tb_ok 1 kr ?_
 refine wi_end kr ?_
 refine qh_then ?_
 refine wh_seq ?_
 refine wh_region ?_
 refine w_p Tb_ok 2 kr ?_
 obtain ⟨r1, er1, h1⟩ := bnd h
 refine w_fn [] (c_math_bits_Mul64 er1) rfl fok_117 kr ?_
 rintro _ _ ⟨hv, rfl⟩; have hv := hv.symm; subst hv
 refine w_p Tb_ok 5 kr ?_
 refine wi_end kr ?_
 refine qh_then ?_
 refine wh_seq ?_
 refine wh_region ?_
 refine w_p Tb_ok 3 kr ?_
 obtain ⟨r2, er2, h2⟩ := bnd h1
 refine w_fn [] (c_field_fold er2) rfl fok_118 kr ?_
 rintro _ _ ⟨hv, rfl⟩; have hv := hv.symm; subst hv
 refine w_p Tb_ok 1 kr ?_
 refine wi_end kr ?_
 refine qh_then ?_
 refine wh_ret ?_
 have h2 := Option.some.inj h2; subst h2
 exact q_end (l := [.int .u64 r2]) [] 0 ⟨rfl, rfl⟩ (.inl rfl) kr kr kr
theorem c_adversary_upon {p_w : T_api_Scenario} {p_x : T_api_Deviation} {p_l : List Nat} {p_said : List Nat} {vp_w_1 : Value} {vp_w_2 : Value} {vp_w_3 : Value} {vp_l_1 : Value} {vp_said_1 : Value} {r : (List Nat)} (h : adversary_upon p_w p_x p_l p_said = some r) : Ct Tryd.prog 125 [.agg #[.int .u64 p_w.S.P, .int .i64 p_w.S.N, .int .i64 p_w.S.T, vp_w_1, vp_w_2, vp_w_3], .agg #[.int .i64 p_x.Round, .int .i64 p_x.From, .int .i64 p_x.To, .int .i64 p_x.At, .int .i64 p_x.Kind, .int .u64 p_x.K, .int .i64 p_x.Of, .int .i64 p_x.SrcIndex], vp_l_1, vp_said_1] [rdV Kd.i64 vp_w_1 p_w.Corrupt, rdV K_api_Deviation vp_w_2 p_w.Deviations, rdV (Kd.sl Kd.u64) vp_w_3 p_w.Tapes, rdV Kd.u64 vp_l_1 p_l, rdV Kd.u64 vp_said_1 p_said] (fun v L => ∃ w0 : Value, v = w0 ∧ L = [rdV Kd.u64 w0 r]) := by
 refine ct_intro Tryd.func125 rfl kr (fun F => ?_)
 unfold adversary_upon at h
 refine wh_seq ?_
 refine wh_region ?_
 refine w_box (t := 29) (v := .agg #[.int .u64 p_w.S.P, .int .i64 p_w.S.N, .int .i64 p_w.S.T, vp_w_1, vp_w_2, vp_w_3]) (cs := [.int .u64 p_w.S.P, .int .i64 p_w.S.N, .int .i64 p_w.S.T, vp_w_1, vp_w_2, vp_w_3]) (cv0 kr) kr (fun q1 => ?_)
 refine WI.hd (y := blkP q1 29 [.int .u64 p_w.S.P, .int .i64 p_w.S.N, .int .i64 p_w.S.T, vp_w_1, vp_w_2, vp_w_3]) kr ?_
 refine w_opP 0 rfl (fun b1 hb => ?_)
 subst hb
 refine w_box (t := 124) (v := .agg #[.int .i64 p_x.Round, .int .i64 p_x.From, .int .i64 p_x.To, .int .i64 p_x.At, .int .i64 p_x.Kind, .int .u64 p_x.K, .int .i64 p_x.Of, .int .i64 p_x.SrcIndex]) (cs := [.int .i64 p_x.Round, .int .i64 p_x.From, .int .i64 p_x.To, .int .i64 p_x.At, .int .i64 p_x.Kind, .int .u64 p_x.K, .int .i64 p_x.Of, .int .i64 p_x.SrcIndex]) (cv0 kr) kr (fun q2 => ?_)
 refine WI.hd (y := blkP q2 124 [.int .i64 p_x.Round, .int .i64 p_x.From, .int .i64 p_x.To, .int .i64 p_x.At, .int .i64 p_x.Kind, .int .u64 p_x.K, .int .i64 p_x.Of, .int .i64 p_x.SrcIndex]) kr ?_
 refine w_opP 0 rfl (fun b2 hb => ?_)
 subst hb
 refine w_p Tb_ok 1 kr ?_
 refine wi_end kr ?_
 refine qh_then ?_
 refine wh_seq ?_
 refine wh_seq ?_
 refine wh_region ?_
 refine w_p Tb_ok 1 kr ?_
 refine w_ldB 0 4 rfl kr ti_3 rfl rfl ?_
 refine w_p Tb_ok 1 kr ?_
 refine wi_end kr ?_
 refine qh_then ?_
 rcases bcase h with ⟨t1, h1⟩ | ⟨t1, h1⟩
 ·
  refine h_ct (b := (p_x.Kind == (4 : Int))) t1 kr ?_
  refine wh_seq ?_
  refine wh_region ?_
  refine w_p Tb_ok 1 kr ?_
  refine wi_end kr ?_
  refine qh_then ?_
  refine wh_ret ?_
  refine qh_then_ret ?_
  refine QH.ent (rdNil (kd := Kd.u64)) ?_
  have h1 := Option.some.inj h1; subst h1
  exact q_end (l := [(.slice none 0 0)]) [(0, true)] 8 ⟨(.slice none 0 0), rfl, rfl⟩ (.inl rfl) kr kr kr
 ·
  refine h_cf (b := (p_x.Kind == (4 : Int))) t1 kr ?_
  refine wh_skip ?_
  refine qh_then ?_
  refine wh_seq ?_
  refine wh_seq ?_
  refine wh_region ?_
  refine w_p Tb_ok 1 kr ?_
  refine w_ldB 0 3 rfl kr ti_3 rfl rfl ?_
  refine w_p Tb_ok 1 kr ?_
  refine w_len (rd_hd 5 rfl) kr ts_30 ?_
  refine w_p Tb_ok 1 kr ?_
  refine wi_end kr ?_
  refine qh_then ?_
  rcases bcase h1 with ⟨t2, h2⟩ | ⟨t2, h2⟩
  ·
   refine h_ct (b := (decide (p_x.At ≥ ((p_l.length : Nat) : Int)))) t2 kr ?_
   refine wh_seq ?_
   refine wh_region ?_
   refine w_p Tb_ok 2 kr ?_
   refine wi_end kr ?_
   refine qh_then ?_
   refine wh_ret ?_
   refine qh_then_ret ?_
   have h2 := Option.some.inj h2; subst h2
   exact q_end (l := [vp_l_1]) [(5, true)] 7 ⟨vp_l_1, rfl, rfl⟩ (.inl rfl) kr kr kr
  ·
   refine h_cf (b := (decide (p_x.At ≥ ((p_l.length : Nat) : Int)))) t2 kr ?_
   refine wh_skip ?_
   refine qh_then ?_
   refine wh_seq ?_
   refine wh_region ?_
   refine w_p Tb_ok 2 kr ?_
   refine w_ldB 1 0 rfl kr ti_22 rfl rfl ?_
   refine w_p Tb_ok 1 kr ?_
   refine wi_end kr ?_
   refine qh_then ?_
   refine wh_seq ?_
   refine wh_region ?_
   refine w_p Tb_ok 2 kr ?_
   refine w_ldB 0 5 rfl kr ti_22 rfl rfl ?_
   obtain ⟨r1, er1, h3⟩ := bnd h2
   refine w_fn [] (c_field_Reduce er1) rfl fok_137 kr ?_
   rintro _ _ ⟨hv, rfl⟩; have hv := hv.symm; subst hv
   refine w_p Tb_ok 1 kr ?_
   refine wi_end kr ?_
   refine qh_then ?_
   refine wh_seq ?_
   refine wh_region ?_
   refine w_p Tb_ok 1 kr ?_
   obtain ⟨r2, er2, h4⟩ := bnd h3
   refine w_fn [(5, true)] (c_slices_Clone_Luint64_uint64 er2) rfl fok_138 kr ?_
   rintro _ _ ⟨w2, hv, rfl⟩; have hv := hv.symm; subst hv
   refine w_p Tb_ok 1 kr ?_
   refine wi_end kr ?_
   refine qh_then ?_
   refine wh_seq ?_
   refine wh_seq ?_
   refine wh_region ?_
   refine w_p Tb_ok 1 kr ?_
   refine w_ldB 1 4 rfl kr ti_3 rfl rfl ?_
   refine wi_end kr ?_
   refine qh_then ?_
   refine wh_block ?_
   refine wh_seq ?_
   refine wh_region ?_
   refine w_p Tb_ok 2 kr ?_
   refine wi_end kr ?_
   refine qh_then ?_
   rcases bcase h4 with ⟨t3, h5⟩ | ⟨t3, h5⟩
   ·
    refine h_ct (b := (p_x.Kind == (1 : Int))) t3 kr ?_
    refine wh_region ?_
    refine w_p Tb_ok 2 kr ?_
    refine w_ldB 1 3 rfl kr ti_3 rfl rfl ?_
    refine w_p Tb_ok 1 kr ?_
    obtain ⟨x1, ex1, h6⟩ := bnd h5
    refine w_ix (k := .i64) (own_hd 0 rfl) (ib ex1) (iz ex1) kr ts_30 ti_22 ?_
    obtain ⟨l1, el1, h7⟩ := bnd h6
    refine w_stO (kd := Kd.u64) (w := .int .u64 r1) (m := p_x.At.toNat) (x0 := r1) 0 () rfl (ib ex1) (sinj el1) kr ti_22 (cv0 kr) (it0 rfl) ?_
    refine wi_end kr ?_
    refine qh_block_normal ?_
    refine qh_then ?_
    refine wh_seq ?_
    refine wh_region ?_
    refine w_p Tb_ok 2 kr ?_
    refine wi_end kr ?_
    refine qh_then ?_
    refine wh_ret ?_
    refine QH.ent (frzAt 0 rfl) ?_
    have h7 := Option.some.inj h7; subst h7
    exact q_end (l := [w2]) [(0, true)] 8 ⟨w2, rfl, rfl⟩ (.inl rfl) kr kr kr
   ·
    refine h_cf (b := (p_x.Kind == (1 : Int))) t3 kr ?_
    refine wh_seq ?_
    refine wh_region ?_
    refine w_p Tb_ok 2 kr ?_
    refine wi_end kr ?_
    refine qh_then ?_
    rcases bcase h5 with ⟨t4, h8⟩ | ⟨t4, h8⟩
    ·
     refine h_ct (b := (p_x.Kind == (2 : Int))) t4 kr ?_
     obtain ⟨x2, ex2, h9⟩ := bnd h8
     obtain ⟨r3, er3, h10⟩ := bnd h9
     obtain ⟨l2, el2, h11⟩ := bnd h10
     refine h_flow [0, 0, 2, 0, 0, 0, 32, 112, 240, 0, 1016, 2047, 4095] ⟨8, [0, 0, 0, 0, 0, 0, 0, 0, 0, 0, 0, 0, 1], [(12, [(0, 0)])], [(2, [(0, 1)]), (6, [(0, 1)]), (7, [(0, 0)]), (8, [(0, 0)]), (11, [(0, 0)])], []⟩ (fun γ => [w2, .pointer (some ⟨b2, 3, none⟩), .int .i64 p_x.At, .int .u64 p_w.S.P, w2, .pointer (some ⟨b2, 3, none⟩), .int .i64 p_x.At, .pointer (some (elV w2 (p_x.At.toNat * Kd.u64.size))), .int .u64 x2, .int .u64 r1, .int .u64 r3, .pointer (some (elV w2 (p_x.At.toNat * Kd.u64.size))), undef]) (fun i γ => match i with | 12 => [ownV Kd.u64 22 w2 l2] | _ => []) (fun γ => [blkP (.pointer (some ⟨b2, 0, none⟩)) 124 [.int .i64 p_x.Round, .int .i64 p_x.From, .int .i64 p_x.To, .int .i64 p_x.At, .int .i64 p_x.Kind, .int .u64 p_x.K, .int .i64 p_x.Of, .int .i64 p_x.SrcIndex], blkP (.pointer (some ⟨b1, 0, none⟩)) 29 [.int .u64 p_w.S.P, .int .i64 p_w.S.N, .int .i64 p_w.S.T, vp_w_1, vp_w_2, vp_w_3], rdV Kd.i64 vp_w_1 p_w.Corrupt, rdV K_api_Deviation vp_w_2 p_w.Deviations, rdV (Kd.sl Kd.u64) vp_w_3 p_w.Tapes, rdV Kd.u64 vp_l_1 p_l, rdV Kd.u64 vp_said_1 p_said, ownV Kd.u64 22 w2 l2] ++ F) [0, 1, 3, 4, 5, 9] tryd_mix Tb_ok kr kr (fun _ => by kernel_rfl) (fun _ => by kernel_rfl) (fun _ => by kernel_rfl) (fun _ => by kernel_rfl) (fun _ => by kernel_rfl) (fun _ => by kernel_rfl) (fun _ => by kernel_rfl) ?_ ?_
     ·
      refine ⟨?_, ?_, ?_, ?_, ?_, ?_, ?_, trivial⟩
      ·
       intro γ F
       refine WI.reH (H' := [blkP (.pointer (some ⟨b2, 0, none⟩)) 124 [.int .i64 p_x.Round, .int .i64 p_x.From, .int .i64 p_x.To, .int .i64 p_x.At, .int .i64 p_x.Kind, .int .u64 p_x.K, .int .i64 p_x.Of, .int .i64 p_x.SrcIndex]] ++ F) kr ?_
       refine w_ldB 0 3 rfl kr ti_3 rfl rfl ?_
       exact wE (gl []) [(0, false)] 0
      ·
       intro γ F
       refine WI.reH (H' := [blkP (.pointer (some ⟨b2, 0, none⟩)) 124 [.int .i64 p_x.Round, .int .i64 p_x.From, .int .i64 p_x.To, .int .i64 p_x.At, .int .i64 p_x.Kind, .int .u64 p_x.K, .int .i64 p_x.Of, .int .i64 p_x.SrcIndex]] ++ F) kr ?_
       refine w_ldB 0 3 rfl kr ti_3 rfl rfl ?_
       exact wE (gl []) [(0, false)] 0
      ·
       intro γ F
       refine WI.reH (H' := [ownV Kd.u64 22 w2 r2] ++ F) kr ?_
       refine w_ix (k := .i64) (own_hd 0 rfl) (ib ex2) (iz ex2) kr ts_30 ti_22 ?_
       exact wE (gl []) [(0, false)] 0
      ·
       intro γ F
       refine WI.reH (H' := [ownV Kd.u64 22 w2 r2] ++ F) kr ?_
       refine w_ldO 0 0 rfl (ig ex2) kr ti_22 rfl rfl ?_
       rintro _
       exact wE (gl []) [(0, false)] 0
      ·
       intro γ F
       refine WI.reH (H' := [] ++ F) kr ?_
       refine w_fn [] (c_field_Add er3) rfl fok_89 kr ?_
       rintro _ _ ⟨hv, rfl⟩; have hv := hv.symm; subst hv
       exact wE (gl []) [] 0
      ·
       intro γ F
       refine WI.reH (H' := [ownV Kd.u64 22 w2 r2] ++ F) kr ?_
       refine w_ix (k := .i64) (own_hd 0 rfl) (ib ex2) (iz ex2) kr ts_30 ti_22 ?_
       exact wE (gl []) [(0, false)] 0
      ·
       intro γ F
       refine WI.reH (H' := [ownV Kd.u64 22 w2 r2] ++ F) kr ?_
       refine w_stO (kd := Kd.u64) (w := .int .u64 r3) (m := p_x.At.toNat) (x0 := r3) 0 () rfl (ib ex2) (sinj el2) kr ti_22 (cv0 kr) (it0 rfl) ?_
       exact wE (gl []) [(0, false)] 0
     ·
      intro γ1
      refine qh_block_normal ?_
      refine qh_then ?_
      refine wh_seq ?_
      refine wh_region ?_
      refine w_p Tb_ok 2 kr ?_
      refine wi_end kr ?_
      refine qh_then ?_
      refine wh_ret ?_
      refine QH.ent (frzAt 7 rfl) ?_
      have h11 := Option.some.inj h11; subst h11
      exact q_end (l := [w2]) [(0, true)] 8 ⟨w2, rfl, rfl⟩ (.inl rfl) kr kr kr
    ·
     refine h_cf (b := (p_x.Kind == (2 : Int))) t4 kr ?_
     refine wh_seq ?_
     refine wh_region ?_
     refine w_p Tb_ok 2 kr ?_
     refine wi_end kr ?_
     refine qh_then ?_
     rcases bcase h8 with ⟨t5, h12⟩ | ⟨t5, h12⟩
     ·
      refine h_ct (b := (p_x.Kind == (3 : Int))) t5 kr ?_
      refine wh_seq ?_
      refine wh_region ?_
      refine w_p Tb_ok 1 kr ?_
      refine wi_end kr ?_
      refine qh_then ?_
      refine wh_seq ?_
      refine wh_seq ?_
      refine wh_region ?_
      refine w_p Tb_ok 1 kr ?_
      refine w_ldB 2 3 rfl kr ti_25 rfl rfl ?_
      refine w_p Tb_ok 1 kr ?_
      refine w_ldB 1 6 rfl kr ti_3 rfl rfl ?_
      obtain ⟨r4, er4, h13⟩ := bnd h12
      refine w_fn [(3, true)] (c_slices_Contains_Lint_int er4) rfl fok_136 kr ?_
      rintro _ _ ⟨hv, rfl⟩; have hv := hv.symm; subst hv
      refine w_p Tb_ok 1 kr ?_
      refine wi_end kr ?_
      refine qh_then ?_
      obtain ⟨x3, ej1, h14⟩ := bnd h13
      refine h_join (X := Unit) (fun g => [(2, w2), (5, (.pointer (some ⟨b2, 0, none⟩))), (9, .int .u64 p_w.S.P), (10, .int .u64 r1), (11, .int .u64 x3)]) (fun g => [ownV Kd.u64 22 w2 r2, blkP (.pointer (some ⟨b2, 0, none⟩)) 124 [.int .i64 p_x.Round, .int .i64 p_x.From, .int .i64 p_x.To, .int .i64 p_x.At, .int .i64 p_x.Kind, .int .u64 p_x.K, .int .i64 p_x.Of, .int .i64 p_x.SrcIndex]] ++ F) (fun _ => True) ?_ ?_
      ·
       rcases bcase ej1 with ⟨t6, h15⟩ | ⟨t6, h15⟩
       ·
        refine h_ct (b := (!r4)) t6 kr ?_
        refine wh_region ?_
        refine w_p Tb_ok 2 kr ?_
        refine w_ldB 1 7 rfl kr ti_3 rfl rfl ?_
        obtain ⟨r5, er5, h16⟩ := bnd h15
        refine w_fn [(7, true)] (c_adversary_word er5) rfl fok_139 kr ?_
        rintro _ _ ⟨hv, rfl⟩; have hv := hv.symm; subst hv
        refine w_p Tb_ok 1 kr ?_
        refine wi_end kr ?_
        cases h16
        exact q_join () trivial aK (tH [(0, false), (0, false)] 6)
       ·
        refine h_cf (b := (!r4)) t6 kr ?_
        refine wh_skip ?_
        cases h15
        exact q_join () trivial aK (tH [(0, false), (0, false)] 6)
      ·
       rintro ⟨⟩ - j
       refine qh_then ?_
       obtain ⟨x4, ex4, h17⟩ := bnd h14
       obtain ⟨r6, er6, h18⟩ := bnd h17
       obtain ⟨r7, er7, h19⟩ := bnd h18
       obtain ⟨l3, el3, h20⟩ := bnd h19
       refine h_flow [0, 0, 2, 0, 0, 0, 32, 112, 240, 0, 0, 0, 3584, 8184, 16383, 32767] ⟨2, [0, 0, 0, 0, 0, 0, 0, 0, 0, 0, 0, 0, 0, 0, 0, 1], [(15, [(0, 0)])], [(2, [(0, 1)]), (6, [(0, 1)]), (7, [(0, 0)]), (8, [(0, 0)]), (14, [(0, 0)])], []⟩ (fun γ => [w2, .pointer (some ⟨b2, 3, none⟩), .int .i64 p_x.At, .int .u64 p_w.S.P, w2, .pointer (some ⟨b2, 3, none⟩), .int .i64 p_x.At, .pointer (some (elV w2 (p_x.At.toNat * Kd.u64.size))), .int .u64 x4, .int .u64 p_w.S.P, .int .u64 r1, .int .u64 x3, .int .u64 r6, .int .u64 r7, .pointer (some (elV w2 (p_x.At.toNat * Kd.u64.size))), undef]) (fun i γ => match i with | 15 => [ownV Kd.u64 22 w2 l3] | _ => []) (fun γ => [blkP (.pointer (some ⟨b2, 0, none⟩)) 124 [.int .i64 p_x.Round, .int .i64 p_x.From, .int .i64 p_x.To, .int .i64 p_x.At, .int .i64 p_x.Kind, .int .u64 p_x.K, .int .i64 p_x.Of, .int .i64 p_x.SrcIndex], ownV Kd.u64 22 w2 l3] ++ F) [0, 1, 3, 4, 5, 9, 10, 11] tryd_mix Tb_ok kr kr (fun _ => by kernel_rfl) (fun _ => by kernel_rfl) (fun _ => by kernel_rfl) (fun _ => by kernel_rfl) (fun _ => by kernel_rfl) (fun _ => by kernel_rfl) (fun _ => by kernel_rfl) ?_ ?_
       ·
        refine ⟨?_, ?_, ?_, ?_, ?_, ?_, ?_, ?_, trivial⟩
        ·
         intro γ F
         refine WI.reH (H' := [blkP (.pointer (some ⟨b2, 0, none⟩)) 124 [.int .i64 p_x.Round, .int .i64 p_x.From, .int .i64 p_x.To, .int .i64 p_x.At, .int .i64 p_x.Kind, .int .u64 p_x.K, .int .i64 p_x.Of, .int .i64 p_x.SrcIndex]] ++ F) kr ?_
         refine w_ldB 0 3 rfl kr ti_3 rfl rfl ?_
         exact wE (gl []) [(0, false)] 0
        ·
         intro γ F
         refine WI.reH (H' := [blkP (.pointer (some ⟨b2, 0, none⟩)) 124 [.int .i64 p_x.Round, .int .i64 p_x.From, .int .i64 p_x.To, .int .i64 p_x.At, .int .i64 p_x.Kind, .int .u64 p_x.K, .int .i64 p_x.Of, .int .i64 p_x.SrcIndex]] ++ F) kr ?_
         refine w_ldB 0 3 rfl kr ti_3 rfl rfl ?_
         exact wE (gl []) [(0, false)] 0
        ·
         intro γ F
         refine WI.reH (H' := [ownV Kd.u64 22 w2 r2] ++ F) kr ?_
         refine w_ix (k := .i64) (own_hd 0 rfl) (ib ex4) (iz ex4) kr ts_30 ti_22 ?_
         exact wE (gl []) [(0, false)] 0
        ·
         intro γ F
         refine WI.reH (H' := [ownV Kd.u64 22 w2 r2] ++ F) kr ?_
         refine w_ldO 0 0 rfl (ig ex4) kr ti_22 rfl rfl ?_
         rintro _
         exact wE (gl []) [(0, false)] 0
        ·
         intro γ F
         refine WI.reH (H' := [] ++ F) kr ?_
         refine w_fn [] (c_field_Mul er6) rfl fok_87 kr ?_
         rintro _ _ ⟨hv, rfl⟩; have hv := hv.symm; subst hv
         exact wE (gl []) [] 0
        ·
         intro γ F
         refine WI.reH (H' := [] ++ F) kr ?_
         refine w_fn [] (c_field_Add er7) rfl fok_89 kr ?_
         rintro _ _ ⟨hv, rfl⟩; have hv := hv.symm; subst hv
         exact wE (gl []) [] 0
        ·
         intro γ F
         refine WI.reH (H' := [ownV Kd.u64 22 w2 r2] ++ F) kr ?_
         refine w_ix (k := .i64) (own_hd 0 rfl) (ib ex4) (iz ex4) kr ts_30 ti_22 ?_
         exact wE (gl []) [(0, false)] 0
        ·
         intro γ F
         refine WI.reH (H' := [ownV Kd.u64 22 w2 r2] ++ F) kr ?_
         refine w_stO (kd := Kd.u64) (w := .int .u64 r7) (m := p_x.At.toNat) (x0 := r7) 0 () rfl (ib ex4) (sinj el3) kr ti_22 (cv0 kr) (it0 rfl) ?_
         exact wE (gl []) [(0, false)] 0
       ·
        intro γ2
        refine qh_block_normal ?_
        refine qh_then ?_
        refine wh_seq ?_
        refine wh_region ?_
        refine w_p Tb_ok 2 kr ?_
        refine wi_end kr ?_
        refine qh_then ?_
        refine wh_ret ?_
        refine QH.ent (frzAt 1 rfl) ?_
        have h20 := Option.some.inj h20; subst h20
        exact q_end (l := [w2]) [(0, true)] 2 ⟨w2, rfl, rfl⟩ (.inl rfl) kr kr kr
     ·
      refine h_cf (b := (p_x.Kind == (3 : Int))) t5 kr ?_
      refine wh_skip ?_
      refine qh_block_normal ?_
      refine qh_then ?_
      refine wh_seq ?_
      refine wh_region ?_
      refine w_p Tb_ok 2 kr ?_
      refine wi_end kr ?_
      refine qh_then ?_
      refine wh_ret ?_
      refine QH.ent (frzAt 0 rfl) ?_
      have h12 := Option.some.inj h12; subst h12
      exact q_end (l := [w2]) [(0, true)] 8 ⟨w2, rfl, rfl⟩ (.inl rfl) kr kr kr
theorem c_adversary_ApplyToMessages {p_w : T_api_Scenario} {p_round : Int} {p_out : List (List (List Nat))} {vp_w_1 : Value} {vp_w_2 : Value} {vp_w_3 : Value} {vp_out_1 : Value} {r : (List (List (List Nat)))} (h : adversary_ApplyToMessages p_w p_round p_out = some r) : Ct Tryd.prog 96 [.agg #[.int .u64 p_w.S.P, .int .i64 p_w.S.N, .int .i64 p_w.S.T, vp_w_1, vp_w_2, vp_w_3], .int .i64 p_round, vp_out_1] [rdV Kd.i64 vp_w_1 p_w.Corrupt, rdV K_api_Deviation vp_w_2 p_w.Deviations, rdV (Kd.sl Kd.u64) vp_w_3 p_w.Tapes, rdV (Kd.sl (Kd.sl Kd.u64)) vp_out_1 p_out] (fun v L => ∃ w0 : Value, v = w0 ∧ L = [ownV (Kd.sl (Kd.sl Kd.u64)) 27 w0 r]) := by
 refine ct_intro Tryd.func96 rfl kr (fun F => ?_)
 unfold adversary_ApplyToMessages at h
 refine wh_seq ?_
 refine wh_region ?_
 refine w_box (t := 29) (v := .agg #[.int .u64 p_w.S.P, .int .i64 p_w.S.N, .int .i64 p_w.S.T, vp_w_1, vp_w_2, vp_w_3]) (cs := [.int .u64 p_w.S.P, .int .i64 p_w.S.N, .int .i64 p_w.S.T, vp_w_1, vp_w_2, vp_w_3]) (cv0 kr) kr (fun q1 => ?_)
 refine WI.hd (y := blkP q1 29 [.int .u64 p_w.S.P, .int .i64 p_w.S.N, .int .i64 p_w.S.T, vp_w_1, vp_w_2, vp_w_3]) kr ?_
 refine w_opP 0 rfl (fun b1 hb => ?_)
 subst hb
 refine w_p Tb_ok 1 kr ?_
 refine wi_end kr ?_
 refine qh_then ?_
 refine wh_seq ?_
 refine wh_region ?_
 refine w_p Tb_ok 1 kr ?_
 refine w_len (rd_hd 4 rfl) kr ts_75 ?_
 obtain ⟨l1, el1, h1⟩ := bnd h
 refine w_mkT (rowK (Kd.sl Kd.u64) 30) new_row (kl := .i64) (kc := .i64) el1 kr ts_75 ti_27 rfl (fun v1 => ?_)
 refine w_p Tb_ok 1 kr ?_
 refine wi_end kr ?_
 refine qh_then ?_
 refine wh_seq ?_
 refine wh_seq ?_
 refine wh_region ?_
 refine w_p Tb_ok 1 kr ?_
 refine w_len (rd_hd 5 rfl) kr ts_75 ?_
 refine w_p Tb_ok 1 kr ?_
 refine wi_end kr ?_
 refine qh_then ?_
 refine h_lenle (rd_lenle 5 rfl) (fun hN1 => ?_)
 obtain ⟨l3, el1, h2⟩ := bnd h1
 refine h_join (X := Value) (fun g => [(1, .int .i64 p_round), (2, vp_out_1), (3, (.pointer (some ⟨b1, 0, none⟩))), (7, (th g))]) (fun g => [rdV (Kd.sl (Kd.sl Kd.u64)) vp_out_1 p_out, blkP (.pointer (some ⟨b1, 0, none⟩)) 29 [.int .u64 p_w.S.P, .int .i64 p_w.S.N, .int .i64 p_w.S.T, vp_w_1, vp_w_2, vp_w_3], rdV Kd.i64 vp_w_1 p_w.Corrupt, rdV K_api_Deviation vp_w_2 p_w.Deviations, rdV (Kd.sl Kd.u64) vp_w_3 p_w.Tapes, treeV (rowK (Kd.sl Kd.u64) 30) 27 (th g) (tg g) l3] ++ F) (fun _ => True) ?_ ?_
 ·
  refine wh_block ?_
  refine h_rs (fun (k1 : Nat) (st : (List (List (List Nat)))) (g : Value) => [(1, .int .i64 p_round), (2, vp_out_1), (3, (.pointer (some ⟨b1, 0, none⟩))), (7, (th g)), (17, vp_out_1), (18, .int .i64 ((p_out.length : Nat) : Int)), (19, .int .i64 ((k1 : Nat) : Int))]) (fun (k1 : Nat) (st : (List (List (List Nat)))) (g : Value) => [rdV (Kd.sl (Kd.sl Kd.u64)) vp_out_1 p_out, blkP (.pointer (some ⟨b1, 0, none⟩)) 29 [.int .u64 p_w.S.P, .int .i64 p_w.S.N, .int .i64 p_w.S.T, vp_w_1, vp_w_2, vp_w_3], rdV Kd.i64 vp_w_1 p_w.Corrupt, rdV K_api_Deviation vp_w_2 p_w.Deviations, rdV (Kd.sl Kd.u64) vp_w_3 p_w.Tapes, treeV (rowK (Kd.sl Kd.u64) 30) 27 (th g) (tg g) st] ++ F) (tw v1 (List.replicate ((p_out.length : Nat) : Int).toNat (.slice none 0 0))) el1 (Nat.zero_le _) aK (tH [(5, true), (1, false), (1, true), (2, true), (3, true), (0, false)] 4) ?_ ?_
  ·
   rintro g3 j
   refine wh_seq ?_
   refine wh_region ?_
   refine w_p Tb_ok 1 kr ?_
   refine wi_end kr ?_
   refine qh_then ?_
   refine wh_seq ?_
   refine h_cf (b := (decide ((((p_out.length) : Nat) : Int) < ((p_out.length : Nat) : Int)))) rgF kr ?_
   refine wh_exit ?_
   refine qh_then_exit ?_
   refine q_rzX ?_
   refine qh_block_exit ?_
   exact q_join (tw (th g3) (tg g3)) trivial aK (tH [(0, true), (1, false), (1, true), (2, true), (3, true), (4, false)] 4)
  ·
   rintro rem k1 l2 g1 o1 hk1 h3 hn1 j
   have h3 : adversary_ApplyToMessages_L0 p_out k1 l2 = some o1 := h3
   unfold adversary_ApplyToMessages_L0 at h3
   refine wh_seq ?_
   refine wh_region ?_
   refine w_p Tb_ok 1 kr ?_
   refine wi_end kr ?_
   refine qh_then ?_
   refine wh_seq ?_
   refine h_ct (b := (decide (((k1 : Nat) : Int) < ((p_out.length : Nat) : Int)))) (rgT hk1) kr ?_
   refine wh_skip ?_
   refine qh_then ?_
   refine wh_seq ?_
   refine wh_block ?_
   refine wh_seq ?_
   refine wh_region ?_
   refine w_p Tb_ok 1 kr ?_
   obtain ⟨x2, ex2, h4⟩ := bnd h3
   refine w_ix (k := .i64) (rd_hd 0 rfl) (nbd ex2) rfl kr ts_75 ti_27 ?_
   refine w_ldR 0 0 rfl ex2 kr ti_27 rfl rfl ?_
   rintro v2
   refine w_p Tb_ok 2 kr ?_
   refine wi_end kr ?_
   refine qh_then ?_
   refine wh_region ?_
   refine w_p Tb_ok 3 kr ?_
   obtain ⟨r2, er2, h5⟩ := bnd h4
   refine w_fn [(0, true)] (c_slices_Clone_LLuint64_Luint64 er2) rfl fok_123 kr ?_
   rintro _ _ ⟨w1, hv, rfl⟩; have hv := hv.symm; subst hv
   obtain ⟨x3, ex3, h6⟩ := bnd h5
   refine w_ix (k := .i64) (tree_hdI (inP 7 rfl)) (nbd ex3) rfl kr ts_75 ti_27 ?_
   refine WI.row rs_row (inP 7 rfl) ex3 (fun g4 hg1 => ?_)
   refine WI.fact 0 rfl (fun hg2 => ?_)
   refine WI.ent (tr_out 9 rfl hg2 ex3) ?_
   obtain ⟨l4, el4, h7⟩ := bnd h6
   refine w_stH (R := (rowK (Kd.sl Kd.u64) 30)) (g' := w1) (m := k1) 4 1 rfl rfl (nbd ex3) (sinj el4) rfl (cvS (own_hd 4 rfl)) (sl_one (own_hd 4 rfl)) kr ti_27 ?_
   refine wi_end kr ?_
   refine qh_block_normal ?_
   refine qh_then ?_
   refine wh_region ?_
   refine w_bi (zinc hk1 hN1) kr ?_
   refine w_p Tb_ok 1 kr ?_
   refine wi_end kr ?_
   have h7 := Option.some.inj h7; subst h7
   exact q_rs (tw (th g1) ((tg g1).set k1 w1)) hn1 aK (tH [(5, true), (6, false), (6, true), (7, true), (8, true), (0, false)] 8)
 ·
  rintro g2 - j
  refine qh_then ?_
  refine wh_seq ?_
  refine wh_seq ?_
  refine wh_region ?_
  refine w_p Tb_ok 1 kr ?_
  refine w_ldB 1 4 rfl kr ti_26 rfl rfl ?_
  refine w_len (rd_hd 3 rfl) kr ts_26 ?_
  refine w_p Tb_ok 1 kr ?_
  refine wi_end kr ?_
  refine qh_then ?_
  refine h_lenle (rd_lenle 3 rfl) (fun hN2 => ?_)
  obtain ⟨l6, el2, h8⟩ := bnd h2
  refine h_join (X := Unit) (fun g => [(7, (th g2))]) (fun g => [treeV (rowK (Kd.sl Kd.u64) 30) 27 (th g2) (tg g2) l6] ++ F) (fun _ => True) ?_ ?_
  ·
   refine wh_block ?_
   refine h_rs (fun (k2 : Nat) (st : (List (List (List Nat)))) (g : Unit) => [(1, .int .i64 p_round), (2, vp_out_1), (3, (.pointer (some ⟨b1, 0, none⟩))), (7, (th g2)), (31, vp_w_2), (32, .int .i64 ((p_w.Deviations.length : Nat) : Int)), (33, .int .i64 ((k2 : Nat) : Int))]) (fun (k2 : Nat) (st : (List (List (List Nat)))) (g : Unit) => [rdV (Kd.sl (Kd.sl Kd.u64)) vp_out_1 p_out, blkP (.pointer (some ⟨b1, 0, none⟩)) 29 [.int .u64 p_w.S.P, .int .i64 p_w.S.N, .int .i64 p_w.S.T, vp_w_1, vp_w_2, vp_w_3], rdV Kd.i64 vp_w_1 p_w.Corrupt, rdV K_api_Deviation vp_w_2 p_w.Deviations, rdV (Kd.sl Kd.u64) vp_w_3 p_w.Tapes, treeV (rowK (Kd.sl Kd.u64) 30) 27 (th g2) (tg g2) st] ++ F) () el2 (Nat.zero_le _) aK (tH [(0, true), (1, false), (1, true), (2, true), (3, true), (4, false)] 4) ?_ ?_
   ·
    rintro ⟨⟩ j
    refine wh_seq ?_
    refine wh_region ?_
    refine w_p Tb_ok 1 kr ?_
    refine wi_end kr ?_
    refine qh_then ?_
    refine wh_seq ?_
    refine h_cf (b := (decide ((((p_w.Deviations.length) : Nat) : Int) < ((p_w.Deviations.length : Nat) : Int)))) rgF kr ?_
    refine wh_exit ?_
    refine qh_then_exit ?_
    refine q_rzX ?_
    refine qh_block_exit ?_
    exact q_join () trivial aK (tH [(5, false)] 5)
   ·
    rintro rem k2 l5 ⟨⟩ o2 hk2 h9 hn2 j
    have h9 : adversary_ApplyToMessages_L1 p_w p_round p_out k2 l5 = some o2 := h9
    unfold adversary_ApplyToMessages_L1 at h9
    refine wh_seq ?_
    refine wh_region ?_
    refine w_p Tb_ok 1 kr ?_
    refine wi_end kr ?_
    refine qh_then ?_
    refine wh_seq ?_
    refine h_ct (b := (decide (((k2 : Nat) : Int) < ((p_w.Deviations.length : Nat) : Int)))) (rgT hk2) kr ?_
    refine wh_skip ?_
    refine qh_then ?_
    refine wh_seq ?_
    refine wh_block ?_
    refine wh_seq ?_
    refine wh_region ?_
    obtain ⟨x5, ex5, h10⟩ := bnd h9
    refine w_ix (k := .i64) (rd_hd 3 rfl) (nbd ex5) rfl kr ts_26 ti_124 ?_
    refine w_ldR 3 0 rfl ex5 kr ti_124 rfl rfl ?_
    rintro ⟨_, _, _, _, _, _, _, _⟩
    refine w_al kr ti_124 (fun q2 => ?_)
    refine WI.hd (y := blkP q2 124 [.int .i64 ((0 : Nat) : Int), .int .i64 ((0 : Nat) : Int), .int .i64 ((0 : Nat) : Int), .int .i64 ((0 : Nat) : Int), .int .i64 ((0 : Nat) : Int), .int .u64 ((0 : Nat) : Int), .int .i64 ((0 : Nat) : Int), .int .i64 ((0 : Nat) : Int)]) kr ?_
    refine w_opP 0 rfl (fun b2 hb => ?_)
    subst hb
    refine w_stB (v := .agg #[.int .i64 x5.Round, .int .i64 x5.From, .int .i64 x5.To, .int .i64 x5.At, .int .i64 x5.Kind, .int .u64 x5.K, .int .i64 x5.Of, .int .i64 x5.SrcIndex]) (off := 0) (cs := [.int .i64 x5.Round, .int .i64 x5.From, .int .i64 x5.To, .int .i64 x5.At, .int .i64 x5.Kind, .int .u64 x5.K, .int .i64 x5.Of, .int .i64 x5.SrcIndex]) 0 rfl (cv0 kr) kr ti_124 rfl rfl (oC (fun _ _ => rfl) (oC (fun _ _ => rfl) (oC (fun _ _ => rfl) (oC (fun _ _ => rfl) (oC (fun _ _ => rfl) (oC (fun _ _ => rfl) (oC (fun _ _ => rfl) (oC (fun _ _ => rfl) oN)))))))) ?_
    refine WI.hd (y := blkP (.pointer (some ⟨b2, 0, none⟩)) 124 [.int .i64 x5.Round, .int .i64 x5.From, .int .i64 x5.To, .int .i64 x5.At, .int .i64 x5.Kind, .int .u64 x5.K, .int .i64 x5.Of, .int .i64 x5.SrcIndex]) kr ?_
    refine wi_end kr ?_
    refine qh_then ?_
    refine wh_seq ?_
    refine wh_seq ?_
    refine wh_region ?_
    refine w_ldB 2 0 rfl kr ti_29 rfl rfl ?_
    refine w_ldB 0 0 rfl kr ti_124 rfl rfl ?_
    refine w_p Tb_ok 1 kr ?_
    obtain ⟨r4, er4, h11⟩ := bnd h10
    refine w_fn [(3, true), (4, true), (5, true)] (c_adversary_done er4) rfl fok_124 kr ?_
    rintro _ _ ⟨hv, rfl⟩; have hv := hv.symm; subst hv
    refine w_p Tb_ok 1 kr ?_
    refine wi_end kr ?_
    refine qh_then ?_
    rcases bcase h11 with ⟨t1, h12⟩ | ⟨t1, h12⟩
    ·
     refine h_ct (b := (!r4)) t1 kr ?_
     refine wh_exit ?_
     refine qh_then_exit ?_
     refine qh_block_exit ?_
     refine qh_then ?_
     refine wh_region ?_
     refine w_bi (zinc hk2 hN2) kr ?_
     refine w_p Tb_ok 1 kr ?_
     refine wi_end kr ?_
     have h12 := Option.some.inj h12; subst h12
     exact q_rs () hn2 aK (tH [(1, true), (2, false), (2, true), (3, true), (4, true), (5, false)] 5)
    ·
     refine h_cf (b := (!r4)) t1 kr ?_
     refine wh_skip ?_
     refine qh_then ?_
     refine wh_seq ?_
     refine wh_region ?_
     refine w_p Tb_ok 1 kr ?_
     refine wi_end kr ?_
     refine qh_then ?_
     refine wh_seq ?_
     refine wh_seq ?_
     refine wh_region ?_
     refine w_p Tb_ok 1 kr ?_
     refine w_ldB 0 4 rfl kr ti_3 rfl rfl ?_
     refine w_p Tb_ok 1 kr ?_
     refine wi_end kr ?_
     refine qh_then ?_
     obtain ⟨l7, ej1, h13⟩ := bnd h12
     refine h_join (X := Value) (fun g => [(1, .int .i64 p_round), (2, vp_out_1), (3, (.pointer (some ⟨b1, 0, none⟩))), (7, (th g2)), (11, (.pointer (some ⟨b2, 0, none⟩))), (12, g), (31, vp_w_2), (32, .int .i64 ((p_w.Deviations.length : Nat) : Int)), (33, .int .i64 ((k2 : Nat) : Int))]) (fun g => [rdV (Kd.sl (Kd.sl Kd.u64)) vp_out_1 p_out, blkP (.pointer (some ⟨b1, 0, none⟩)) 29 [.int .u64 p_w.S.P, .int .i64 p_w.S.N, .int .i64 p_w.S.T, vp_w_1, vp_w_2, vp_w_3], rdV Kd.i64 vp_w_1 p_w.Corrupt, rdV K_api_Deviation vp_w_2 p_w.Deviations, rdV (Kd.sl Kd.u64) vp_w_3 p_w.Tapes, treeV (rowK (Kd.sl Kd.u64) 30) 27 (th g2) (tg g2) l5, blkP (.pointer (some ⟨b2, 0, none⟩)) 124 [.int .i64 x5.Round, .int .i64 x5.From, .int .i64 x5.To, .int .i64 x5.At, .int .i64 x5.Kind, .int .u64 x5.K, .int .i64 x5.Of, .int .i64 x5.SrcIndex], rdV Kd.u64 g l7] ++ F) (fun _ => True) ?_ ?_
     ·
      rcases bcase ej1 with ⟨t2, h14⟩ | ⟨t2, h14⟩
      ·
       refine h_ct (b := (x5.Kind == (3 : Int))) t2 kr ?_
       refine WH.ent (hd_add (tree_hdI (inP 6 rfl))) ?_
       obtain ⟨x6, ex6, h15⟩ := bnd h14
       obtain ⟨x7, ex7, h16⟩ := bnd h15
       obtain ⟨x8, ex8, h17⟩ := bnd h16
       obtain ⟨x9, ex9, h18⟩ := bnd h17
       refine h_flow [0, 0, 2, 6, 15, 31, 0, 64, 192, 511, 1023, 2047] ⟨8, [0, 0, 0, 0, 0, 1, 0, 0, 0, 0, 1, 0], [], [(2, [(0, 1)]), (7, [(0, 1)])], [(4, [(0, 2)]), (5, [(0, 2)]), (9, [(6, 0)]), (10, [(6, 0)])]⟩ (fun γ => [vp_out_1, .pointer (some ⟨b2, 6, none⟩), .int .i64 x5.Of, .int .i64 x6, .pointer (some (elV vp_out_1 (x6.toNat * (Kd.sl (Kd.sl Kd.u64)).size))), (γ 5 0), .pointer (some ⟨b2, 1, none⟩), .int .i64 x5.From, .int .i64 x8, .pointer (some (elV (γ 5 0) (x8.toNat * (Kd.sl Kd.u64).size))), (γ 10 0), (γ 10 0)]) (fun i γ => match i with | 5 => [rdV (Kd.sl Kd.u64) (γ 5 0) x7] | 10 => [rdV Kd.u64 (γ 10 0) x9] | _ => []) (fun γ => [hdP (th g2) l5.length, blkP (.pointer (some ⟨b2, 0, none⟩)) 124 [.int .i64 x5.Round, .int .i64 x5.From, .int .i64 x5.To, .int .i64 x5.At, .int .i64 x5.Kind, .int .u64 x5.K, .int .i64 x5.Of, .int .i64 x5.SrcIndex], rdV (Kd.sl (Kd.sl Kd.u64)) vp_out_1 p_out, blkP (.pointer (some ⟨b1, 0, none⟩)) 29 [.int .u64 p_w.S.P, .int .i64 p_w.S.N, .int .i64 p_w.S.T, vp_w_1, vp_w_2, vp_w_3], rdV Kd.i64 vp_w_1 p_w.Corrupt, rdV K_api_Deviation vp_w_2 p_w.Deviations, rdV (Kd.sl Kd.u64) vp_w_3 p_w.Tapes, treeV (rowK (Kd.sl Kd.u64) 30) 27 (th g2) (tg g2) l5, rdV (Kd.sl Kd.u64) (γ 5 0) x7, rdV Kd.u64 (γ 10 0) x9] ++ F) [0, 1, 6, 11] tryd_mix Tb_ok kr kr (fun _ => by kernel_rfl) (fun _ => by kernel_rfl) (fun _ => by kernel_rfl) (fun _ => by kernel_rfl) (fun _ => by kernel_rfl) (fun _ => by kernel_rfl) (fun _ => by kernel_rfl) ?_ ?_
       ·
        refine ⟨?_, ?_, ?_, ?_, ?_, ?_, ?_, ?_, trivial⟩
        ·
         intro γ F
         refine WI.reH (H' := [blkP (.pointer (some ⟨b2, 0, none⟩)) 124 [.int .i64 x5.Round, .int .i64 x5.From, .int .i64 x5.To, .int .i64 x5.At, .int .i64 x5.Kind, .int .u64 x5.K, .int .i64 x5.Of, .int .i64 x5.SrcIndex]] ++ F) kr ?_
         refine w_ldB 0 6 rfl kr ti_3 rfl rfl ?_
         exact wE (gl []) [(0, false)] 0
        ·
         intro γ F
         refine WI.reH (H' := [] ++ F) kr ?_
         refine w_bi (zsubI ex6) kr ?_
         exact wE (gl []) [] 0
        ·
         intro γ F
         refine WI.reH (H' := [rdV (Kd.sl (Kd.sl Kd.u64)) vp_out_1 p_out] ++ F) kr ?_
         refine w_ix (k := .i64) (rd_hd 0 rfl) (ib ex7) (iz ex7) kr ts_75 ti_27 ?_
         exact wE (gl []) [] 1
        ·
         intro γ F
         refine WI.reH (H' := [rdV (Kd.sl (Kd.sl Kd.u64)) vp_out_1 p_out] ++ F) kr ?_
         refine w_ldR 0 0 rfl (ig ex7) kr ti_27 rfl rfl ?_
         rintro v3
         exact wE (gl [v3]) [(0, true)] 2
        ·
         intro γ F
         refine WI.reH (H' := [blkP (.pointer (some ⟨b2, 0, none⟩)) 124 [.int .i64 x5.Round, .int .i64 x5.From, .int .i64 x5.To, .int .i64 x5.At, .int .i64 x5.Kind, .int .u64 x5.K, .int .i64 x5.Of, .int .i64 x5.SrcIndex]] ++ F) kr ?_
         refine w_ldB 0 1 rfl kr ti_3 rfl rfl ?_
         exact wE (gl []) [(0, false)] 0
        ·
         intro γ F
         refine WI.reH (H' := [] ++ F) kr ?_
         refine w_bi (zsubI ex8) kr ?_
         exact wE (gl []) [] 0
        ·
         intro γ F
         refine WI.reH (H' := [rdV (Kd.sl Kd.u64) (γ 5 0) x7] ++ F) kr ?_
         refine w_ix (k := .i64) (rd_hd 0 rfl) (ib ex9) (iz ex9) kr ts_27 ti_30 ?_
         exact wE (gl []) [] 1
        ·
         intro γ F
         refine WI.reH (H' := [rdV (Kd.sl Kd.u64) (γ 5 0) x7] ++ F) kr ?_
         refine w_ldR 0 0 rfl (ig ex9) kr ti_30 rfl rfl ?_
         rintro v4
         exact wE (gl [v4]) [(0, true)] 2
       ·
        intro γ1
        cases h18
        exact q_join (γ1 10 0) trivial aK (tH [(2, true), (3, false), (3, true), (4, true), (5, true), (6, false), (1, false), (6, true)] 7)
      ·
       refine h_cf (b := (x5.Kind == (3 : Int))) t2 kr ?_
       refine wh_skip ?_
       refine QH.ent (rdNil (kd := Kd.u64)) ?_
       cases h14
       exact q_join (.slice none 0 0) trivial aK (tH [(2, true), (3, false), (3, true), (4, true), (5, true), (6, false), (1, false), (0, true)] 5)
     ·
      rintro g5 - j
      refine qh_then ?_
      refine wh_seq ?_
      refine wh_region ?_
      refine w_p Tb_ok 2 kr ?_
      refine w_ldB 6 1 rfl kr ti_3 rfl rfl ?_
      obtain ⟨x10, ex10, h19⟩ := bnd h13
      refine w_bi (zsubI ex10) kr ?_
      obtain ⟨x11, ex11, h20⟩ := bnd h19
      refine w_ix (k := .i64) (tree_hdI (inP 5 rfl)) (ib ex11) (iz ex11) kr ts_75 ti_27 ?_
      refine w_ldN rs_row (inP 5 rfl) (ig ex11) kr ti_27 (fun g6 => ?_)
      refine w_len (hdI 1 rfl) kr ts_27 ?_
      refine w_p Tb_ok 1 kr ?_
      refine wi_end kr ?_
      refine qh_then ?_
      obtain ⟨u1, eu1, h21⟩ := bnd h20
      have hN3 := ckN_some eu1
      obtain ⟨l9, el3, h22⟩ := bnd h21
      refine h_join (X := Unit) (fun g => [(1, .int .i64 p_round), (2, vp_out_1), (3, (.pointer (some ⟨b1, 0, none⟩))), (7, (th g2)), (31, vp_w_2), (32, .int .i64 ((p_w.Deviations.length : Nat) : Int)), (33, .int .i64 ((k2 : Nat) : Int))]) (fun g => [rdV (Kd.sl (Kd.sl Kd.u64)) vp_out_1 p_out, blkP (.pointer (some ⟨b1, 0, none⟩)) 29 [.int .u64 p_w.S.P, .int .i64 p_w.S.N, .int .i64 p_w.S.T, vp_w_1, vp_w_2, vp_w_3], rdV Kd.i64 vp_w_1 p_w.Corrupt, rdV K_api_Deviation vp_w_2 p_w.Deviations, rdV (Kd.sl Kd.u64) vp_w_3 p_w.Tapes, treeV (rowK (Kd.sl Kd.u64) 30) 27 (th g2) (tg g2) l9] ++ F) (fun _ => True) ?_ ?_
      ·
       refine wh_block ?_
       refine h_rs (fun (k3 : Nat) (st : (List (List (List Nat)))) (g : Unit) => [(1, .int .i64 p_round), (2, vp_out_1), (3, (.pointer (some ⟨b1, 0, none⟩))), (7, (th g2)), (11, (.pointer (some ⟨b2, 0, none⟩))), (12, g5), (31, vp_w_2), (32, .int .i64 ((p_w.Deviations.length : Nat) : Int)), (33, .int .i64 ((k2 : Nat) : Int)), (62, .int .i64 ((x11.length : Nat) : Int)), (63, .int .i64 ((k3 : Nat) : Int))]) (fun (k3 : Nat) (st : (List (List (List Nat)))) (g : Unit) => [rdV (Kd.sl (Kd.sl Kd.u64)) vp_out_1 p_out, blkP (.pointer (some ⟨b1, 0, none⟩)) 29 [.int .u64 p_w.S.P, .int .i64 p_w.S.N, .int .i64 p_w.S.T, vp_w_1, vp_w_2, vp_w_3], rdV Kd.i64 vp_w_1 p_w.Corrupt, rdV K_api_Deviation vp_w_2 p_w.Deviations, rdV (Kd.sl Kd.u64) vp_w_3 p_w.Tapes, treeV (rowK (Kd.sl Kd.u64) 30) 27 (th g2) (tg g2) st, blkP (.pointer (some ⟨b2, 0, none⟩)) 124 [.int .i64 x5.Round, .int .i64 x5.From, .int .i64 x5.To, .int .i64 x5.At, .int .i64 x5.Kind, .int .u64 x5.K, .int .i64 x5.Of, .int .i64 x5.SrcIndex], rdV Kd.u64 g5 l7] ++ F) () el3 (Nat.zero_le _) aK (tH [(2, true), (3, false), (3, true), (4, true), (5, true), (6, false), (6, false), (6, true)] 7) ?_ ?_
       ·
        rintro ⟨⟩ j
        refine wh_seq ?_
        refine wh_region ?_
        refine w_p Tb_ok 1 kr ?_
        refine wi_end kr ?_
        refine qh_then ?_
        refine wh_seq ?_
        refine h_cf (b := (decide ((((x11.length) : Nat) : Int) < ((x11.length : Nat) : Int)))) rgF kr ?_
        refine wh_exit ?_
        refine qh_then_exit ?_
        refine q_rzX ?_
        refine qh_block_exit ?_
        exact q_join () trivial aK (tH [(0, true), (1, false), (1, true), (2, true), (3, true), (4, false)] 6)
       ·
        rintro rem k3 l8 ⟨⟩ o3 hk3 h23 hn3 j
        have h23 : adversary_ApplyToMessages_L2 p_w x5 l7 x10 k3 l8 = some o3 := h23
        unfold adversary_ApplyToMessages_L2 at h23
        refine wh_seq ?_
        refine wh_region ?_
        refine w_p Tb_ok 1 kr ?_
        refine wi_end kr ?_
        refine qh_then ?_
        refine wh_seq ?_
        refine h_ct (b := (decide (((k3 : Nat) : Int) < ((x11.length : Nat) : Int)))) (rgT hk3) kr ?_
        refine wh_skip ?_
        refine qh_then ?_
        refine wh_seq ?_
        refine wh_block ?_
        refine wh_seq ?_
        refine wh_region ?_
        refine w_p Tb_ok 2 kr ?_
        refine wi_end kr ?_
        refine qh_then ?_
        refine wh_seq ?_
        obtain ⟨x13, ej2, h24⟩ := bnd h23
        refine h_join (X := Unit) (fun g => [(1, .int .i64 p_round), (2, vp_out_1), (3, (.pointer (some ⟨b1, 0, none⟩))), (7, (th g2)), (11, (.pointer (some ⟨b2, 0, none⟩))), (12, g5), (13, .int .i64 ((k3 : Nat) : Int)), (31, vp_w_2), (32, .int .i64 ((p_w.Deviations.length : Nat) : Int)), (33, .int .i64 ((k2 : Nat) : Int)), (62, .int .i64 ((x11.length : Nat) : Int)), (63, .int .i64 ((k3 : Nat) : Int)), (82, .bool x13)]) (fun g => [rdV (Kd.sl (Kd.sl Kd.u64)) vp_out_1 p_out, blkP (.pointer (some ⟨b1, 0, none⟩)) 29 [.int .u64 p_w.S.P, .int .i64 p_w.S.N, .int .i64 p_w.S.T, vp_w_1, vp_w_2, vp_w_3], rdV Kd.i64 vp_w_1 p_w.Corrupt, rdV K_api_Deviation vp_w_2 p_w.Deviations, rdV (Kd.sl Kd.u64) vp_w_3 p_w.Tapes, treeV (rowK (Kd.sl Kd.u64) 30) 27 (th g2) (tg g2) l8, blkP (.pointer (some ⟨b2, 0, none⟩)) 124 [.int .i64 x5.Round, .int .i64 x5.From, .int .i64 x5.To, .int .i64 x5.At, .int .i64 x5.Kind, .int .u64 x5.K, .int .i64 x5.Of, .int .i64 x5.SrcIndex], rdV Kd.u64 g5 l7] ++ F) (fun _ => True) ?_ ?_
        ·
         refine wh_region ?_
         refine w_p Tb_ok 1 kr ?_
         obtain ⟨x14, ex14, h25⟩ := bnd ej2
         refine w_bi (zaddI ex14) kr ?_
         refine w_p Tb_ok 1 kr ?_
         refine w_ldB 6 1 rfl kr ti_3 rfl rfl ?_
         refine w_p Tb_ok 2 kr ?_
         rcases bcase h25 with ⟨t3, h26⟩ | ⟨t3, h26⟩
         ·
          refine w_kb (t := 71) t3 kr ?_
          refine w_p Tb_ok 1 kr ?_
          refine w_ldB 6 2 rfl kr ti_3 rfl rfl ?_
          refine w_p Tb_ok 2 kr ?_
          rcases bcase h26 with ⟨t4, h27⟩ | ⟨t4, h27⟩
          ·
           refine w_kb (t := 75) t4 kr ?_
           refine w_p Tb_ok 7 kr ?_
           refine wi_end kr ?_
           cases h27
           exact q_join () trivial aK (tH [(0, true), (1, false), (1, true), (2, true), (3, true), (4, false), (4, false), (4, true)] 5)
          ·
           refine w_kb (t := 75) t4 kr ?_
           refine w_p Tb_ok 1 kr ?_
           refine w_ldB 6 2 rfl kr ti_3 rfl rfl ?_
           refine w_p Tb_ok 1 kr ?_
           refine w_bi (zaddI ex14) kr ?_
           refine w_p Tb_ok 3 kr ?_
           refine wi_end kr ?_
           cases h27
           exact q_join () trivial aK (tH [(0, true), (1, false), (1, true), (2, true), (3, true), (4, false), (4, false), (4, true)] 5)
         ·
          refine w_kb (t := 71) t3 kr ?_
          refine w_p Tb_ok 11 kr ?_
          refine wi_end kr ?_
          cases h26
          exact q_join () trivial aK (tH [(0, true), (1, false), (1, true), (2, true), (3, true), (4, false), (4, false), (4, true)] 5)
        ·
         rintro ⟨⟩ - j
         refine qh_then ?_
         rcases bcase h24 with ⟨t5, h28⟩ | ⟨t5, h28⟩
         ·
          refine h_ct (b := x13) t5 kr ?_
          refine WH.ent (hd_add (tree_hdI (inP 5 rfl))) ?_
          obtain ⟨x15, ex15, h29⟩ := bnd h28
          obtain ⟨x16, ex16, h30⟩ := bnd h29
          obtain ⟨r6, er6, h31⟩ := bnd h30
          obtain ⟨l10, el10, h32⟩ := bnd h31
          obtain ⟨l11, el11, h33⟩ := bnd h32
          refine h_flow [0, 0, 2, 6, 15, 31, 0, 0, 0, 0, 0, 1024, 3072, 7680, 15872, 0, 65024, 130560, 0, 524160, 1048575, 2097151] ⟨9, [0, 0, 0, 0, 0, 2, 0, 0, 0, 0, 0, 0, 0, 0, 2, 0, 0, 1, 0, 1, 0, 1], [(21, [(0, 6)])], [(2, [(0, 7)]), (5, [(0, 6)]), (7, [(0, 2)]), (8, [(0, 7)]), (11, [(0, 7)]), (14, [(0, 6)]), (17, [(0, 6)])], [(4, [(0, 0)]), (13, [(0, 0)]), (16, [(15, 1)]), (17, [(15, 0)]), (19, [(18, 0), (0, 3), (0, 4), (0, 5), (0, 8)]), (20, [(6, 1)]), (21, [(20, 0), (6, 0)])]⟩ (fun γ => [(th g2), .pointer (some ⟨b2, 1, none⟩), .int .i64 x5.From, .int .i64 x10, .pointer (some (elV (th g2) (x10.toNat * 1))), (γ 5 0), .int .i64 ((k3 : Nat) : Int), .agg #[.int .u64 p_w.S.P, .int .i64 p_w.S.N, .int .i64 p_w.S.T, vp_w_1, vp_w_2, vp_w_3], .agg #[.int .i64 x5.Round, .int .i64 x5.From, .int .i64 x5.To, .int .i64 x5.At, .int .i64 x5.Kind, .int .u64 x5.K, .int .i64 x5.Of, .int .i64 x5.SrcIndex], (th g2), .pointer (some ⟨b2, 1, none⟩), .int .i64 x5.From, .int .i64 x10, .pointer (some (elV (th g2) (x10.toNat * 1))), (γ 14 0), .int .i64 ((k3 : Nat) : Int), .pointer (some (elV (γ 14 0) (k3 * (Kd.sl Kd.u64).size))), (γ 17 0), g5, (γ 19 0), .pointer (some (elV (γ 5 0) (k3 * (Kd.sl Kd.u64).size))), undef]) (fun i γ => match i with | 5 => [fact ((tg g2)[x10.toNat]? = some (γ 5 0)), hdP (γ 5 0) x15.length] | 14 => [fact ((tg g2)[x10.toNat]? = some (γ 14 0)), hdP (γ 14 0) x15.length] | 17 => [rdV Kd.u64 (γ 17 0) x16] | 19 => [rdV Kd.u64 (γ 19 0) r6] | 21 => [treeV (rowK (Kd.sl Kd.u64) 30) 27 (th g2) (tg g2) l11] | _ => []) (fun γ => [hdP (th g2) l8.length, rdV (Kd.sl (Kd.sl Kd.u64)) vp_out_1 p_out, blkP (.pointer (some ⟨b1, 0, none⟩)) 29 [.int .u64 p_w.S.P, .int .i64 p_w.S.N, .int .i64 p_w.S.T, vp_w_1, vp_w_2, vp_w_3], rdV Kd.i64 vp_w_1 p_w.Corrupt, rdV K_api_Deviation vp_w_2 p_w.Deviations, rdV (Kd.sl Kd.u64) vp_w_3 p_w.Tapes, blkP (.pointer (some ⟨b2, 0, none⟩)) 124 [.int .i64 x5.Round, .int .i64 x5.From, .int .i64 x5.To, .int .i64 x5.At, .int .i64 x5.Kind, .int .u64 x5.K, .int .i64 x5.Of, .int .i64 x5.SrcIndex], rdV Kd.u64 g5 l7, fact ((tg g2)[x10.toNat]? = some (γ 5 0)), hdP (γ 5 0) x15.length, fact ((tg g2)[x10.toNat]? = some (γ 14 0)), hdP (γ 14 0) x15.length, rdV Kd.u64 (γ 17 0) x16, rdV Kd.u64 (γ 19 0) r6, treeV (rowK (Kd.sl Kd.u64) 30) 27 (th g2) (tg g2) l11] ++ F) [0, 1, 6, 9, 10, 15, 18] tryd_mix Tb_ok kr kr (fun _ => by kernel_rfl) (fun _ => by kernel_rfl) (fun _ => by kernel_rfl) (fun _ => by kernel_rfl) (fun _ => by kernel_rfl) (fun _ => by kernel_rfl) (fun _ => by kernel_rfl) ?_ ?_
          ·
           refine ⟨?_, ?_, ?_, ?_, ?_, ?_, ?_, ?_, ?_, ?_, ?_, ?_, ?_, ?_, ?_, trivial⟩
           ·
            intro γ F
            refine WI.reH (H' := [blkP (.pointer (some ⟨b2, 0, none⟩)) 124 [.int .i64 x5.Round, .int .i64 x5.From, .int .i64 x5.To, .int .i64 x5.At, .int .i64 x5.Kind, .int .u64 x5.K, .int .i64 x5.Of, .int .i64 x5.SrcIndex]] ++ F) kr ?_
            refine w_ldB 0 1 rfl kr ti_3 rfl rfl ?_
            exact wE (gl []) [(0, false)] 0
           ·
            intro γ F
            refine WI.reH (H' := [] ++ F) kr ?_
            refine w_bi (zsubI ex10) kr ?_
            exact wE (gl []) [] 0
           ·
            intro γ F
            refine WI.reH (H' := [hdP (th g2) l8.length] ++ F) kr ?_
            refine w_ix (k := .i64) (hdI 0 rfl) (ib ex15) (iz ex15) kr ts_75 ti_27 ?_
            exact wE (gl []) [] 1
           ·
            intro γ F
            refine WI.reH (H' := [treeV (rowK (Kd.sl Kd.u64) 30) 27 (th g2) (tg g2) l8] ++ F) kr ?_
            refine w_ldN rs_row (inP 0 rfl) (ig ex15) kr ti_27 (fun g7 => ?_)
            exact wE (gl [g7]) [(0, true), (1, true), (2, false)] 2
           ·
            intro γ F
            refine WI.reH (H' := [blkP (.pointer (some ⟨b1, 0, none⟩)) 29 [.int .u64 p_w.S.P, .int .i64 p_w.S.N, .int .i64 p_w.S.T, vp_w_1, vp_w_2, vp_w_3]] ++ F) kr ?_
            refine w_ldB 0 0 rfl kr ti_29 rfl rfl ?_
            exact wE (gl []) [(0, false)] 0
           ·
            intro γ F
            refine WI.reH (H' := [blkP (.pointer (some ⟨b2, 0, none⟩)) 124 [.int .i64 x5.Round, .int .i64 x5.From, .int .i64 x5.To, .int .i64 x5.At, .int .i64 x5.Kind, .int .u64 x5.K, .int .i64 x5.Of, .int .i64 x5.SrcIndex]] ++ F) kr ?_
            refine w_ldB 0 0 rfl kr ti_124 rfl rfl ?_
            exact wE (gl []) [(0, false)] 0
           ·
            intro γ F
            refine WI.reH (H' := [blkP (.pointer (some ⟨b2, 0, none⟩)) 124 [.int .i64 x5.Round, .int .i64 x5.From, .int .i64 x5.To, .int .i64 x5.At, .int .i64 x5.Kind, .int .u64 x5.K, .int .i64 x5.Of, .int .i64 x5.SrcIndex]] ++ F) kr ?_
            refine w_ldB 0 1 rfl kr ti_3 rfl rfl ?_
            exact wE (gl []) [(0, false)] 0
           ·
            intro γ F
            refine WI.reH (H' := [] ++ F) kr ?_
            refine w_bi (zsubI ex10) kr ?_
            exact wE (gl []) [] 0
           ·
            intro γ F
            refine WI.reH (H' := [hdP (th g2) l8.length] ++ F) kr ?_
            refine w_ix (k := .i64) (hdI 0 rfl) (ib ex15) (iz ex15) kr ts_75 ti_27 ?_
            exact wE (gl []) [] 1
           ·
            intro γ F
            refine WI.reH (H' := [treeV (rowK (Kd.sl Kd.u64) 30) 27 (th g2) (tg g2) l8] ++ F) kr ?_
            refine w_ldN rs_row (inP 0 rfl) (ig ex15) kr ti_27 (fun g8 => ?_)
            exact wE (gl [g8]) [(0, true), (1, true), (2, false)] 2
           ·
            intro γ F
            refine WI.reH (H' := [hdP (γ 14 0) x15.length] ++ F) kr ?_
            refine w_ix (k := .i64) (hdI 0 rfl) (nbd ex16) rfl kr ts_27 ti_30 ?_
            exact wE (gl []) [] 1
           ·
            intro γ F
            refine WI.reH (H' := [treeV (rowK (Kd.sl Kd.u64) 30) 27 (th g2) (tg g2) l8, fact ((tg g2)[x10.toNat]? = some (γ 14 0))] ++ F) kr ?_
            refine WI.fact 1 rfl (fun hg3 => ?_)
            refine w_ldI (kd := (Kd.sl Kd.u64)) (e := 30) (v := (γ 14 0)) (xs := x15) (m := k3) 0 (inRow (R := (rowK (Kd.sl Kd.u64) 30)) (inP 0 rfl) hg3 (ig ex15)) ex16 kr ti_30 rfl rfl ?_
            rintro v5
            exact wE (gl [v5]) [(0, true), (1, false)] 2
           ·
            intro γ F
            refine WI.reH (H' := [rdV Kd.u64 (γ 17 0) x16, rdV Kd.i64 vp_w_1 p_w.Corrupt, rdV K_api_Deviation vp_w_2 p_w.Deviations, rdV (Kd.sl Kd.u64) vp_w_3 p_w.Tapes, rdV Kd.u64 g5 l7] ++ F) kr ?_
            refine w_fn [(1, true), (2, true), (3, true), (0, true), (4, true)] (c_adversary_upon er6) rfl fok_125 kr ?_
            rintro _ _ ⟨w3, hv, rfl⟩; have hv := hv.symm; subst hv
            exact wE (gl [w3]) [(0, true)] 6
           ·
            intro γ F
            refine WI.reH (H' := [hdP (γ 5 0) x15.length] ++ F) kr ?_
            refine w_ix (k := .i64) (hdI 0 rfl) (nbd ex16) rfl kr ts_27 ti_30 ?_
            exact wE (gl []) [] 1
           ·
            intro γ F
            refine WI.reH (H' := [treeV (rowK (Kd.sl Kd.u64) 30) 27 (th g2) (tg g2) l8, rdV Kd.u64 (γ 19 0) r6, fact ((tg g2)[x10.toNat]? = some (γ 5 0))] ++ F) kr ?_
            refine WI.fact 2 rfl (fun hg4 => ?_)
            refine w_stT (kd := (Kd.sl Kd.u64)) (w := (γ 19 0)) (m := x10.toNat) (k := k3) (y0 := r6) 0 (γ 19 0) rfl hg4 (ig ex15) (nbd ex16) (sinj el10) (sinj el11) kr ti_30 (cvS (rd_hd 1 rfl)) (itS 1 rfl) ?_
            exact wE (gl []) [(0, false)] 2
          ·
           intro γ2
           refine qh_block_normal ?_
           refine qh_then ?_
           refine wh_region ?_
           refine w_bi (zinc hk3 hN3) kr ?_
           refine w_p Tb_ok 1 kr ?_
           refine wi_end kr ?_
           have h33 := Option.some.inj h33; subst h33
           exact q_rs () hn3 aK (tH [(1, true), (2, false), (2, true), (3, true), (4, true), (13, false), (5, false), (5, true)] 12)
         ·
          refine h_cf (b := x13) t5 kr ?_
          refine wh_skip ?_
          refine qh_block_normal ?_
          refine qh_then ?_
          refine wh_region ?_
          refine w_bi (zinc hk3 hN3) kr ?_
          refine w_p Tb_ok 1 kr ?_
          refine wi_end kr ?_
          have h28 := Option.some.inj h28; subst h28
          exact q_rs () hn3 aK (tH [(0, true), (1, false), (1, true), (2, true), (3, true), (4, false), (4, false), (4, true)] 5)
      ·
       rintro ⟨⟩ - j
       refine qh_block_normal ?_
       refine qh_then ?_
       refine wh_region ?_
       refine w_bi (zinc hk2 hN2) kr ?_
       refine w_p Tb_ok 1 kr ?_
       refine wi_end kr ?_
       have h22 := Option.some.inj h22; subst h22
       exact q_rs () hn2 aK (tH [(0, true), (1, false), (1, true), (2, true), (3, true), (4, false)] 4)
  ·
   rintro ⟨⟩ - j
   refine qh_then ?_
   refine wh_seq ?_
   refine wh_region ?_
   refine w_p Tb_ok 2 kr ?_
   refine wi_end kr ?_
   refine qh_then ?_
   refine wh_ret ?_
   refine QH.ent (tr_own fz_row 0 rfl) ?_
   have h8 := Option.some.inj h8; subst h8
   exact q_end (l := [(th g2)]) [(0, false)] 0 ⟨(th g2), rfl, rfl⟩ (.inl rfl) kr kr kr
theorem c_network_Net_note {p_n : T_network_Net} {p_who : Int} {p_from : Int} {p_l : List Nat} {bp_n : Nat} {vp_n_1 : Value} {vp_n_2 : Value} {vp_n_3 : Value} {vp_n_4 : Value} {vp_n_5 : Value} {vp_l_1 : Value} {r : (List (List T_api_Event))} (h : network_Net_note p_n p_who p_from p_l = some r) : Ct Tryd.prog 95 [(.pointer (some ⟨bp_n, 0, none⟩)), .int .i64 p_who, .int .i64 p_from, vp_l_1] [blkP (.pointer (some ⟨bp_n, 0, none⟩)) 119 [.int .u64 p_n.zw.S.P, .int .i64 p_n.zw.S.N, .int .i64 p_n.zw.S.T, vp_n_1, vp_n_2, vp_n_3, .int .i64 p_n.zround, (th vp_n_4), vp_n_5], rdV Kd.i64 vp_n_1 p_n.zw.Corrupt, rdV K_api_Deviation vp_n_2 p_n.zw.Deviations, rdV (Kd.sl Kd.u64) vp_n_3 p_n.zw.Tapes, treeV (rowK K_api_Event 67) 46 (th vp_n_4) (tg vp_n_4) p_n.zviews, rdV Kd.any vp_n_5 p_n.ztapes, rdV Kd.u64 vp_l_1 p_l] (fun v L => ∃ w0 : Value, v = .tuple #[] ∧ L = [blkP (.pointer (some ⟨bp_n, 0, none⟩)) 119 [.int .u64 p_n.zw.S.P, .int .i64 p_n.zw.S.N, .int .i64 p_n.zw.S.T, vp_n_1, vp_n_2, vp_n_3, .int .i64 p_n.zround, (th w0), vp_n_5], treeV (rowK K_api_Event 67) 46 (th w0) (tg w0) r]) := by
 refine ct_intro Tryd.func95 rfl kr (fun F => ?_)
 unfold network_Net_note at h
 refine wh_seq ?_
 obtain ⟨x1, ej1, h1⟩ := bnd h
 refine h_join (X := Unit) (fun g => [(0, (.pointer (some ⟨bp_n, 0, none⟩))), (1, .int .i64 p_who), (2, .int .i64 p_from), (3, vp_l_1), (15, .bool x1)]) (fun g => [blkP (.pointer (some ⟨bp_n, 0, none⟩)) 119 [.int .u64 p_n.zw.S.P, .int .i64 p_n.zw.S.N, .int .i64 p_n.zw.S.T, vp_n_1, vp_n_2, vp_n_3, .int .i64 p_n.zround, (th vp_n_4), vp_n_5], rdV Kd.i64 vp_n_1 p_n.zw.Corrupt, rdV K_api_Deviation vp_n_2 p_n.zw.Deviations, rdV (Kd.sl Kd.u64) vp_n_3 p_n.zw.Tapes, treeV (rowK K_api_Event 67) 46 (th vp_n_4) (tg vp_n_4) p_n.zviews, rdV Kd.any vp_n_5 p_n.ztapes, rdV Kd.u64 vp_l_1 p_l] ++ F) (fun _ => True) ?_ ?_
 ·
  refine wh_region ?_
  refine w_p Tb_ok 4 kr ?_
  rcases bcase ej1 with ⟨t1, h2⟩ | ⟨t1, h2⟩
  ·
   refine w_kb (t := 11) t1 kr ?_
   refine w_p Tb_ok 1 kr ?_
   refine w_len (rd_hd 6 rfl) kr ts_30 ?_
   refine w_p Tb_ok 2 kr ?_
   refine wi_end kr ?_
   cases h2
   exact q_join () trivial aK (tH [(0, false), (0, true), (1, true), (2, true), (3, false), (3, true), (4, true)] 5)
  ·
   refine w_kb (t := 11) t1 kr ?_
   refine w_p Tb_ok 4 kr ?_
   refine wi_end kr ?_
   cases h2
   exact q_join () trivial aK (tH [(0, false), (0, true), (1, true), (2, true), (3, false), (3, true), (4, true)] 5)
 ·
  rintro ⟨⟩ - j
  refine qh_then ?_
  rcases bcase h1 with ⟨t2, h3⟩ | ⟨t2, h3⟩
  ·
   refine h_ct (b := x1) t2 kr ?_
   obtain ⟨x2, ex2, h4⟩ := bnd h3
   obtain ⟨x3, ex3, h5⟩ := bnd h4
   obtain ⟨l1, el1, h6⟩ := bnd h5
   refine WH.ent (hd_add (tree_hdI (inP 4 rfl))) ?_
   refine WH.row rs_row (inP 5 rfl) (ig ex2) (fun g1 hg1 => ?_)
   refine WH.fact 0 rfl (fun hg2 => ?_)
   refine WH.ent (tr_out 7 rfl hg2 (ig ex2)) ?_
   obtain ⟨l2, el2, h7⟩ := bnd h6
   obtain ⟨l3, el3, h8⟩ := bnd h7
   refine h_flow [0, 1, 3, 7, 0, 0, 32, 96, 224, 0, 992, 2016, 0, 4096, 12288, 28672, 0, 65536, 0, 262144, 1044480, 2093056, 4194272, 8388607, 16777215] ⟨11, [0, 0, 0, 0, 0, 0, 0, 0, 0, 0, 0, 0, 0, 0, 0, 0, 0, 0, 0, 1, 0, 1, 1, 0, 1], [(22, [(0, 0)]), (24, [(23, 0), (0, 1)])], [(3, [(0, 5)]), (8, [(0, 5)]), (11, [(0, 1)]), (15, [(0, 5)]), (22, [(22, 0), (0, 1)])], [(10, [(0, 4)]), (11, [(0, 2)]), (19, [(0, 10)]), (20, [(20, 0)]), (21, [(20, 0)]), (23, [(0, 4)])]⟩ (fun γ => [(.pointer (some ⟨bp_n, 0, none⟩)), (.pointer (some ⟨bp_n, 0, none⟩)), .pointer (some ⟨bp_n, 7, none⟩), (th vp_n_4), .int .i64 p_who, (.pointer (some ⟨bp_n, 0, none⟩)), (.pointer (some ⟨bp_n, 0, none⟩)), .pointer (some ⟨bp_n, 7, none⟩), (th vp_n_4), .int .i64 p_who, .pointer (some (elV (th vp_n_4) (p_who.toNat * 1))), g1, (.pointer (some ⟨bp_n, 0, none⟩)), (.pointer (some ⟨bp_n, 0, none⟩)), .pointer (some ⟨bp_n, 6, none⟩), .int .i64 p_n.zround, .int .i64 p_from, .int .i64 x3, vp_l_1, (γ 19 0), .agg #[.int .i64 p_n.zround, .int .i64 x3, (γ 19 0)], (γ 21 0), (γ 22 0), .pointer (some (elV (th vp_n_4) (p_who.toNat * 1))), undef]) (fun i γ => match i with | 19 => [rdV Kd.u64 (γ 19 0) l1] | 21 => [ownV K_api_Event 67 (γ 21 0) ([(⟨p_n.zround, x3, l1⟩ : T_api_Event)] : List T_api_Event)] | 22 => [ownV K_api_Event 67 (γ 22 0) l2] | 24 => [treeV (rowK K_api_Event 67) 46 (th vp_n_4) ((tg vp_n_4).set p_who.toNat (γ 22 0)) l3] | _ => []) (fun γ => [fact ((tg vp_n_4)[p_who.toNat]? = some g1), hdP g1 x2.length, hdP (th vp_n_4) p_n.zviews.length, blkP (.pointer (some ⟨bp_n, 0, none⟩)) 119 [.int .u64 p_n.zw.S.P, .int .i64 p_n.zw.S.N, .int .i64 p_n.zw.S.T, vp_n_1, vp_n_2, vp_n_3, .int .i64 p_n.zround, (th vp_n_4), vp_n_5], rdV Kd.i64 vp_n_1 p_n.zw.Corrupt, rdV K_api_Deviation vp_n_2 p_n.zw.Deviations, rdV (Kd.sl Kd.u64) vp_n_3 p_n.zw.Tapes, rdV Kd.any vp_n_5 p_n.ztapes, rdV Kd.u64 vp_l_1 p_l, rdV Kd.u64 (γ 19 0) l1, ownV K_api_Event 67 (γ 21 0) ([(⟨p_n.zround, x3, l1⟩ : T_api_Event)] : List T_api_Event), treeV (rowK K_api_Event 67) 46 (th vp_n_4) ((tg vp_n_4).set p_who.toNat (γ 22 0)) l3] ++ F) [0, 1, 2, 4, 5, 6, 7, 9, 12, 13, 14, 16, 18] tryd_mix Tb_ok kr kr (fun _ => by kernel_rfl) (fun _ => by kernel_rfl) (fun _ => by kernel_rfl) (fun _ => by kernel_rfl) (fun _ => by kernel_rfl) (fun _ => by kernel_rfl) (fun _ => by kernel_rfl) ?_ ?_
   ·
    refine ⟨?_, ?_, ?_, ?_, ?_, ?_, ?_, ?_, ?_, ?_, ?_, ?_, trivial⟩
    ·
     intro γ F
     refine WI.reH (H' := [blkP (.pointer (some ⟨bp_n, 0, none⟩)) 119 [.int .u64 p_n.zw.S.P, .int .i64 p_n.zw.S.N, .int .i64 p_n.zw.S.T, vp_n_1, vp_n_2, vp_n_3, .int .i64 p_n.zround, (th vp_n_4), vp_n_5]] ++ F) kr ?_
     refine w_ldB 0 7 rfl kr ti_116 rfl rfl ?_
     exact wE (gl []) [(0, false)] 0
    ·
     intro γ F
     refine WI.reH (H' := [blkP (.pointer (some ⟨bp_n, 0, none⟩)) 119 [.int .u64 p_n.zw.S.P, .int .i64 p_n.zw.S.N, .int .i64 p_n.zw.S.T, vp_n_1, vp_n_2, vp_n_3, .int .i64 p_n.zround, (th vp_n_4), vp_n_5]] ++ F) kr ?_
     refine w_ldB 0 7 rfl kr ti_116 rfl rfl ?_
     exact wE (gl []) [(0, false)] 0
    ·
     intro γ F
     refine WI.reH (H' := [hdP (th vp_n_4) p_n.zviews.length] ++ F) kr ?_
     refine w_ix (k := .i64) (hdI 0 rfl) (ib ex2) (iz ex2) kr ts_116 ti_46 ?_
     exact wE (gl []) [] 1
    ·
     intro γ F
     refine WI.reH (H' := [holeV (rowK K_api_Event 67) 46 (th vp_n_4) (tg vp_n_4) p_n.zviews p_who.toNat, fact ((tg vp_n_4)[p_who.toNat]? = some g1)] ++ F) kr ?_
     refine WI.fact 1 rfl (fun hg3 => ?_)
     refine w_ldG (m := p_who.toNat) (hOut (inP 0 rfl)) hg3 kr ti_46 ?_
     exact wE (gl []) [(0, false)] 1
    ·
     intro γ F
     refine WI.reH (H' := [blkP (.pointer (some ⟨bp_n, 0, none⟩)) 119 [.int .u64 p_n.zw.S.P, .int .i64 p_n.zw.S.N, .int .i64 p_n.zw.S.T, vp_n_1, vp_n_2, vp_n_3, .int .i64 p_n.zround, (th vp_n_4), vp_n_5]] ++ F) kr ?_
     refine w_ldB 0 6 rfl kr ti_3 rfl rfl ?_
     exact wE (gl []) [(0, false)] 0
    ·
     intro γ F
     refine WI.reH (H' := [] ++ F) kr ?_
     refine w_bi (zaddI ex3) kr ?_
     exact wE (gl []) [] 0
    ·
     intro γ F
     refine WI.reH (H' := [rdV Kd.u64 vp_l_1 p_l] ++ F) kr ?_
     refine w_app0 (kd := Kd.u64) (rd_src 0 rfl) el1 kr ts_30 ti_22 rfl (fun v1 => ?_)
     refine WI.ent (frzAt 0 rfl) ?_
     exact wE (gl [v1]) [(0, true)] 2
    ·
     intro γ F
     refine WI.reH (H' := [rdV Kd.u64 (γ 19 0) l1] ++ F) kr ?_
     refine w_bd (v := .agg #[.int .i64 p_n.zround, .int .i64 x3, (γ 19 0)]) (t := 67) (ps0 := [(0, .int .i64 p_n.zround), (1, .int .i64 x3), (2, (γ 19 0))]) (ps := [(0, .int .i64 p_n.zround), (1, .int .i64 x3), (2, .agg #[(γ 19 0)])]) (scI (scI (scS (rd_hd 0 rfl) sc0))) kr (fun w => by kernel_rfl) ?_
     exact wE (gl []) [] 1
    ·
     intro γ F
     refine WI.reH (H' := [rdV Kd.u64 (γ 19 0) l1] ++ F) kr ?_
     refine w_lt (kd := K_api_Event) (t := 46) (len := 1) (ps0 := [(0, .agg #[.int .i64 p_n.zround, .int .i64 x3, (γ 19 0)])]) (ps := [(0, .agg #[.int .i64 p_n.zround, .int .i64 x3, (γ 19 0)])]) ([(⟨p_n.zround, x3, l1⟩ : T_api_Event)] : List T_api_Event) _ (rowC (x := (⟨p_n.zround, x3, l1⟩ : T_api_Event)) (g := ((), (), (γ 19 0))) (itC (itA (it0 rfl) (itA (it0 rfl) (itS 0 rfl)))) row0) (scI sc0) kr ts_46 ti_67 kr rfl rfl (fun v2 => ?_)
     exact wE (gl [v2]) [(0, false)] 1
    ·
     intro γ F
     refine WI.reH (H' := [ownV K_api_Event 67 g1 x2, ownV K_api_Event 67 (γ 21 0) ([(⟨p_n.zround, x3, l1⟩ : T_api_Event)] : List T_api_Event), holeV (rowK K_api_Event 67) 46 (th vp_n_4) (tg vp_n_4) p_n.zviews p_who.toNat] ++ F) kr ?_
     refine w_app 0 rfl (own_src 1 rfl) el2 kr ts_46 ti_67 rfl (fun v3 => ?_)
     exact wE (gl [v3]) [(0, false), (0, false), (0, false)] 0
    ·
     intro γ F
     refine WI.reH (H' := [hdP (th vp_n_4) p_n.zviews.length] ++ F) kr ?_
     refine w_ix (k := .i64) (hdI 0 rfl) (ib ex2) (iz ex2) kr ts_116 ti_46 ?_
     exact wE (gl []) [] 1
    ·
     intro γ F
     refine WI.reH (H' := [ownV K_api_Event 67 (γ 22 0) l2, holeV (rowK K_api_Event 67) 46 (th vp_n_4) (tg vp_n_4) p_n.zviews p_who.toNat] ++ F) kr ?_
     refine w_stH (R := (rowK K_api_Event 67)) (g' := (γ 22 0)) (m := p_who.toNat) 0 0 rfl rfl (ib ex2) (sinj el3) rfl (cvS (own_hd 0 rfl)) (sl_one (own_hd 0 rfl)) kr ti_46 ?_
     exact wE (gl []) [(0, false)] 0
   ·
    intro γ1
    have h8 := Option.some.inj h8; subst h8
    exact q_end (l := []) [(3, false), (10, false)] 10 ⟨(tw (th vp_n_4) ((tg vp_n_4).set p_who.toNat (γ1 22 0))), rfl, rfl⟩ (.inr rfl) kr kr kr
  ·
   refine h_cf (b := x1) t2 kr ?_
   refine wh_skip ?_
   have h3 := Option.some.inj h3; subst h3
   exact q_end (l := []) [(0, false), (3, false)] 5 ⟨(tw (th vp_n_4) (tg vp_n_4)), rfl, rfl⟩ (.inr rfl) kr kr kr
end Go.Proofs.YtclhpomlfadohaaDoor
