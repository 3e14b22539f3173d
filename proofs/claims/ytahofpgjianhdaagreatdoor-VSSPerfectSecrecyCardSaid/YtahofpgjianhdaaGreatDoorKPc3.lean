/- Contracts of Go functions, one theorem each: the call returns just what the plain function says. Printed by a program of this claim. -/
import Derived.Test.YtahofpgjianhdaaGreatDoorKPc2
set_option linter.unusedVariables false
namespace Go.Proofs.YtahofpgjianhdaaGreatDoor
open Go Gv Gw Pu
set_option maxHeartbeats 4000000
theorem c_network_Net_View {a:T_network_Net} {j:Int} {i:Nat} {d f g b c:Value} {r:(List T_api_Event)} (h:network_Net_View a j=some r):Ct Tryz.prog 29 [(bx i),iV j] [I1 i a.zw.S d f g a.zround b c,rI d a.zw.Corrupt,rD f a.zw.Deviations,rS g a.zw.Tapes,I2 b a.zviews,I0 c a.ztapes] (fun v L=>∃ w0:Value,v=w0∧L=[ownV KE 68 w0 r,I1 i a.zw.S d f g a.zround b c,I2 b a.zviews,I0 c a.ztapes]):=by
 refine ct_intro Tryz.func29 rfl kr (fun F=>?_);unfold network_Net_View at h;refine Sg (Pp 1 (Eg (Pp 3 (w_ldB 0 7 rfl kr ti_95 rfl rfl (Pp 1 ?_)))));obtain ⟨x1,ex1,h1⟩:=bnd h;refine w_bi (zsubI ex1) kr ?_;obtain ⟨x2,ex2,h2⟩:=bnd h1;refine w_ix (k:=.i64) (tree_hdI (inP 4 rfl)) (ib ex2) (iz ex2) kr ts_95 ti_65 ?_;refine w_ldN rs_row (inP 4 rfl) (ig ex2) kr ti_65 (fun g1=>?_)
 refine WI.fact 0 rfl (fun hg1=>?_);obtain ⟨l1,el1,h3⟩:=bnd h2;refine w_app0 (kd:=KE) (own_srcI (kd:=KE) (e:=68) (v:=g1) (ys:=x2) (inRow (R:=(rowK KE 68)) (inP 6 rfl) hg1 (ig ex2))) el1 kr ts_65 ti_68 rfl (fun v1=>?_);refine Pp 1 (Er ?_);have h3:=Sj h3;subst h3
 exact q_end (l:=[v1]) [(0,Z),(2,Z),(5,Z),(5,Z)] 5 ⟨v1,rfl,rfl⟩ (.inl rfl) kr kr kr
theorem c_privityref04_Trim {c:List Nat} {a:Value} {r:(List Nat)} (h:privityref04_Trim c=some r):Ct Tryz.prog 82 [a] [rU a c] (fun v L=>∃ w0:Value,v=w0∧L=[I14 w0 r]):=by
 refine ct_intro Tryz.func82 rfl kr (fun F=>?_);unfold privityref04_Trim at h;refine Sg (Pp 1 (Eg (Pp 1 (w_len (rd_hd 0 rfl) kr ts_60 (Pp 1 (Es ?_))))));obtain ⟨x3,elp1,h1⟩:=bnd h;refine h_join (X:=Unit) (fun g=>[(0,a),(3,iV x3)]) (fun g=>[rU a c]++F) (fun _=>True) ?_ ?_
 ·refine Wb ?_;refine h_lp (fun (st:Int) (g:Unit)=>[(0,a),(3,iV st)]) (fun (st:Int) (g:Unit)=>[rU a c]++F) () elp1 aK (tH [(0,Y)] 1) ?_;rintro kk x1 ⟨⟩ o1 h2 hn1 j;have h2:privityref04_Trim_L0 c x1=some o1:=h2;unfold privityref04_Trim_L0 at h2;refine Sq (Sg (Pp 3 ?_));rcases bcase h2 with ⟨t1,h3⟩ | ⟨t1,h3⟩
  ·refine Kb 8 t1 (Pp 2 ?_);obtain ⟨x4,ex4,h4⟩:=bnd h3;refine w_bi (zsubI ex4) kr ?_;obtain ⟨x5,ex5,h5⟩:=bnd h4;refine w_ix (k:=.i64) (rd_hd 0 rfl) (ib ex5) (iz ex5) kr ts_60 ti_22 ?_;refine w_ldR 0 0 rfl (ig ex5) kr ti_22 rfl rfl ?_;rintro _;refine Pp 2 (En ?_);rcases bcase h5 with ⟨t2,h6⟩ | ⟨t2,h6⟩
   ·refine Xt t2 (Ws (Tn (Wb (Rg (Pp 1 (w_bi (zsubI ex4) kr (Pp 1 (Ei (Bn ?_)))))))));have h6:=Sj h6;subst h6;exact q_go () hn1 aK (tH [(0,Y)] 1)
   refine Xf t2 (We (Te ?_));refine q_lpX ?_;refine Be ?_;have h6:=Sj h6;subst h6;cases (show _=_ from hn1);exact q_join () trivial aK (tH [(0,Y)] 1)
  refine Kb 8 t1 (Pp 7 (En ?_));refine h_cf (b:=false) rfl kr ?_;refine We (Te ?_);refine q_lpX ?_;refine Be ?_;have h3:=Sj h3;subst h3;cases (show _=_ from hn1);exact q_join () trivial aK (tH [(0,Y)] 1)
 rintro ⟨⟩ - j;refine Tn (Sg ?_);refine w_lt (kd:=Ku) (t:=60) (len:=0) (ps0:=[]) (ps:=[]) ([]:List Nat) _ row0 sc0 kr ts_60 ti_22 kr rfl rfl (fun v1=>?_);refine Pp 2 ?_;obtain ⟨l1,el1,h7⟩:=bnd h1;refine w_cut 1 rfl el1 loN (hiS (k:=.i64)) kr ts_60 ti_22 (fun v2=>?_);obtain ⟨l2,el2,h8⟩:=bnd h7;refine w_app 1 rfl (rd_src 0 rfl) el2 kr ts_60 ti_22 rfl (fun v3=>?_)
 refine Pp 1 (Er ?_);have h8:=Sj h8;subst h8;exact q_end (l:=[v3]) [(0,Z)] 2 ⟨v3,rfl,rfl⟩ (.inl rfl) kr kr kr
theorem c_shamir_placed {b:List T_api_Point} {c:Value} {r:Bool} (h:shamir_placed b=some r):Ct Tryz.prog 83 [c] [I71 c b] (fun v L=>v=.bool r∧L=[]):=by
 refine ct_intro Tryz.func83 rfl kr (fun F=>?_);unfold shamir_placed at h;refine Sg (Pp 1 (Eg ?_));refine w_mkM (t:=186) .u64 Value.bool kr (fun v1=>?_);refine w_inM (vd:=Value.bool) (k:=(0:Int)) (a:=true) 0 rfl kr tm_186 ?_;refine Pp 2 (Es (Sg (Pp 1 (w_len (rd_hd 1 rfl) kr ts_73 (Pp 1 (En ?_))))));refine h_lenle (rd_lenle 1 rfl) (fun hN1=>?_);obtain ⟨r1,elp1,h1⟩:=bnd h
 refine h_join (X:=Unit × (List (Int × Bool))) (fun g=>[]) (fun g=>[]++F) (fun g=>r1=.go g.2) ?_ ?_
 ·refine Wb ?_;refine h_rg (fun (k1:Nat) (st:(List (Int × Bool))) (g:Unit)=>[(3,v1),(8,c),(9,iN b.length),(10,iN k1)]) (fun (k1:Nat) (st:(List (Int × Bool))) (g:Unit)=>[mapV .u64 Value.bool v1 st,I71 c b]++F) () elp1 (Nat.zero_le _) aK (tH [(0,Z),(0,Y)] 1) ?_ ?_
  ·rintro l3 ⟨⟩ hr1 j;refine Sg (Pp 1 (Es (Xf (rgF (N:=b.length)) (We (Te (q_rzX (Be ?_)))))));exact q_join ((),l3) hr1 aK (tH [] 2)
  rintro rem k1 l1 ⟨⟩ o1 hk1 h2 hn1 j;have h2:shamir_placed_L0 b k1 l1=some o1:=h2;unfold shamir_placed_L0 at h2;refine Sg (Pp 1 (Es (Xt (rgT (k:=k1) (N:=b.length) hk1) (Ws (Tn (Sq (Wb (Sg ?_))))))));obtain ⟨x2,ex2,h3⟩:=bnd h2;refine w_ix (k:=.i64) (rd_hd 1 rfl) (nbd ex2) rfl kr ts_73 ti_75 ?_;refine w_ldR 1 0 rfl ex2 kr ti_75 rfl rfl ?_;rintro ⟨_,_⟩
  refine w_al kr ti_75 (fun q1=>?_);refine WI.hd (y:=blkP q1 75 [uN 0,uN 0]) kr ?_;refine w_opP 0 rfl (fun b1 hb=>?_);subst hb;refine w_stB (v:=.agg #[uN x2.X,uN x2.Y]) (off:=0) (cs:=[uN x2.X,uN x2.Y]) 0 rfl (cv0 kr) kr ti_75 rfl rfl (oC (fun _ _=>rfl) (oC (fun _ _=>rfl) oN)) ?_
  refine WI.hd (y:=I48 b1 x2.X x2.Y) kr ?_;refine Es (Sg (Pp 2 (w_ldB 0 0 rfl kr ti_22 rfl rfl ?_)));refine w_lkM (k:=(x2.X:Int)) false false 1 rfl kr tm_186 ti_4 rfl ?_;refine En ?_;rcases bcase h3 with ⟨t1,h4⟩ | ⟨t1,h4⟩
  ·refine Xt t1 (Sg (Pp 1 (Er (Tr (Br (Tr (q_rgR (Br (q_joinR (Tr ?_))))))))));have h4:=Sj h4;subst h4;have hn:=(show _=_ from hn1);subst hn;have h1:=Sj (show some _=some _ from h1);subst h1;exact Ql [.bool false] [] 3
  refine Xs t1 (Tn (Rg (Pp 2 (w_ldB 0 0 rfl kr ti_22 rfl rfl ?_))));refine w_upM (vd:=Value.bool) (k:=(x2.X:Int)) (a:=true) 1 rfl kr tm_186 ?_;refine Ei (Bn (Tn (Rg (w_bi (zinc hk1 hN1) kr (Pp 1 (Ei ?_))))));have h4:=Sj h4;subst h4;exact q_rgo () hn1 aK (tH [(0,Z),(1,Y)] 2)
 rintro ⟨⟨⟩,l2⟩ hc j;subst hc;refine Tn (Sg (Pp 1 (Er ?_)));have h1:=Sj h1;subst h1;exact Ql [.bool true] [] 0
theorem c_math_bits_Len {a:Nat} {r:Int} (h:math_bits_Len a=some r):Ct Tryz.prog 185 [uN a] [] (fun v L=>v=iV r∧L=[]):=by
 refine ct_intro Tryz.func185 rfl kr (fun F=>?_);unfold math_bits_Len at h;refine Sg (Pp 1 (Es ?_));refine h_cf (b:=false) rfl kr ?_;refine Ws (Tn (Sg (Pp 1 ?_)));obtain ⟨r1,er1,h1⟩:=bnd h;refine Fe [] (c_math_bits_Len64 er1) rfl fok_187 ?_;refine Pp 1 (Er ?_);have h1:=Sj h1;subst h1;exact Ql [iV r1] [] 0
theorem c_cmp_isNaN_uint64 {a:Nat} {r:Bool} (h:cmp_isNaN_uint64 a=some r):Ct Tryz.prog 209 [uN a] [] (fun v L=>v=.bool r∧L=[]):=by
 refine ct_intro Tryz.func209 rfl kr (fun F=>?_);unfold cmp_isNaN_uint64 at h;refine Sg (Pp 1 (Eg (Pp 4 (Er ?_))));have h:=Option.some.inj h;subst h;exact Ql [.bool ((a:Int) != (a:Int))] [] 0
theorem c_cmp_Less_uint64 {a b:Nat} {r:Bool} (h:cmp_Less_uint64 a b=some r):Ct Tryz.prog 199 [uN a,uN b] [] (fun v L=>v=.bool r∧L=[]):=by
 refine ct_intro Tryz.func199 rfl kr (fun F=>?_);unfold cmp_Less_uint64 at h;refine Sg (Pp 1 (Eg (Pp 1 ?_)));obtain ⟨r1,er1,h1⟩:=bnd h;refine Fe [] (c_cmp_isNaN_uint64 er1) rfl fok_209 ?_;refine Pp 1 ?_;rcases bcase h1 with ⟨t1,h2⟩ | ⟨t1,h2⟩
 ·refine Kb 7 t1 (Pp 1 ?_);obtain ⟨r2,er2,h3⟩:=bnd h2;refine Fe [] (c_cmp_isNaN_uint64 er2) rfl fok_209 ?_;refine Pp 3 ?_;rcases bcase h3 with ⟨t2,h4⟩ | ⟨t2,h4⟩
  ·refine Kb 12 t2 (Pp 5 (Er ?_));have h4:=Sj h4;subst h4;exact Ql [.bool true] [] 0
  refine Kb 12 t2 (Pp 5 (Er ?_));have h4:=Sj h4;subst h4;exact Ql [.bool (decide ((a:Int) < (b:Int)))] [] 0
 refine Kb 7 t1 (Pp 10 (Er ?_));have h2:=Sj h2;subst h2;exact Ql [.bool (decide ((a:Int) < (b:Int)))] [] 0
theorem c_slices_insertionSortOrdered_uint64 {d:List Nat} {b c:Int} {a:Value} {r:(List Nat)} (h:slices_insertionSortOrdered_uint64 d b c=some r):Ct Tryz.prog 193 [a,iV b,iV c] [I14 a d] (fun v L=>v=.tuple #[]∧L=[I14 a r]):=by
 refine ct_intro Tryz.func193 rfl kr (fun F=>?_);unfold slices_insertionSortOrdered_uint64 at h;refine Sg (Pp 1 ?_);obtain ⟨x1,ex1,h1⟩:=bnd h;refine w_bi (zaddI ex1) kr (Pp 1 (En ?_));obtain ⟨l3,elp1,h2⟩:=bnd h1;refine h_join (X:=Unit) (fun g=>[(0,a)]) (fun g=>[I14 a l3]++F) (fun _=>True) ?_ ?_
 ·refine Wb ?_;refine h_lp (fun (st:(List Nat) × Int) (g:Unit)=>[(0,a),(1,iV b),(2,iV c),(6,iV st.2)]) (fun (st:(List Nat) × Int) (g:Unit)=>[I14 a st.1]++F) () elp1 aK (tH [(0,Z)] 0) ?_;rintro kk ⟨l1,x2⟩ ⟨⟩ o1 h3 hn1 j;have h3:slices_insertionSortOrdered_uint64_L0 b c l1 x2=some o1:=h3
  unfold slices_insertionSortOrdered_uint64_L0 at h3;refine Sq (Sg (Pp 3 (En ?_)));rcases bcase h3 with ⟨t1,h4⟩ | ⟨t1,h4⟩
  ·refine Xt t1 (Ws (Tn (Sq (Wb (Sg (Pp 2 (En ?_)))))));obtain ⟨l6,elp2,h5⟩:=bnd h4;refine h_join (X:=Unit) (fun g=>[(0,a),(1,iV b),(2,iV c),(6,iV x2)]) (fun g=>[I14 a l6]++F) (fun _=>True) ?_ ?_
   ·refine Wb ?_;refine h_lp (fun (st:(List Nat) × Int) (g:Unit)=>[(0,a),(1,iV b),(2,iV c),(6,iV x2),(7,iV st.2)]) (fun (st:(List Nat) × Int) (g:Unit)=>[I14 a st.1]++F) () elp2 aK (tH [(0,Z)] 0) ?_;rintro kk ⟨l4,x3⟩ ⟨⟩ o2 h6 hn2 j;have h6:slices_insertionSortOrdered_uint64_L1 b l4 x3=some o2:=h6
    unfold slices_insertionSortOrdered_uint64_L1 at h6;refine Sq (Sq ?_);obtain ⟨x4,ej1,h7⟩:=bnd h6;refine h_join (X:=Unit) (fun g=>[(0,a),(1,iV b),(2,iV c),(6,iV x2),(7,iV x3),(30,.bool x4)]) (fun g=>[I14 a l4]++F) (fun _=>True) ?_ ?_
    ·rcases bcase ej1 with ⟨t2,h8⟩ | ⟨t2,h8⟩
     ·obtain ⟨x5,ex5,h9⟩:=bnd h8;obtain ⟨x6,ex6,h10⟩:=bnd h9;obtain ⟨x7,ex7,h11⟩:=bnd h10;obtain ⟨r3,er3,h12⟩:=bnd h11
      refine h_fm [0,0,3,7,15,15,63,127,15,15,527,1807,3855,8191,16383] ⟨1,[0,0,0,0,0,0,0,0,0,0,0,0,0,0,0],[],[(6,[(0,0)]),(7,[(0,0)]),(11,[(0,0)]),(12,[(0,0)])],[]⟩ (fun γ=>[iV x3,iV b,.bool (decide (x3 > b)),.bool true,a,iV x3,.pointer (some (elV a (x3.toNat*Ku.size))),uN x5,a,iV x3,iV x6,.pointer (some (elV a (x6.toNat*Ku.size))),uN x7,.bool r3,.bool r3]) nO [0,1,2,4,5,8,9,14] tryz_mix Tb_ok ?_ ?_
      ·refine ⟨?_,?_,?_,?_,?_,?_,?_,trivial⟩
       ·intro γ F;refine w_pk Tb_ok (congrArg Value.bool t2) kr ?_;exact wE (gl []) [] 0
       ·intro γ F;refine w_ix (k:=.i64) (own_hd 0 rfl) (ib ex5) (iz ex5) kr ts_60 ti_22 ?_;exact wE (gl []) [(0,Z)] 0
       ·intro γ F;refine w_ldO 0 0 rfl (ig ex5) kr ti_22 rfl rfl ?_;rintro _;exact wE (gl []) [(0,Z)] 0
       ·intro γ F;refine w_bi (zsubI ex6) kr ?_;exact wE (gl []) [] 0
       ·intro γ F;refine w_ix (k:=.i64) (own_hd 0 rfl) (ib ex7) (iz ex7) kr ts_60 ti_22 ?_;exact wE (gl []) [(0,Z)] 0
       ·intro γ F;refine w_ldO 0 0 rfl (ig ex7) kr ti_22 rfl rfl ?_;rintro _;exact wE (gl []) [(0,Z)] 0
       intro γ F;refine Fe [] (c_cmp_Less_uint64 er3) rfl fok_199 ?_;exact wE (gl []) [] 0
      intro γ1;cases h12;exact q_join () trivial aK (tH [(0,Z)] 0)
     refine h_fm [0,0,3,7,15,15,63,127,15,15,527,1807,3855,8191,16383] ⟨1,[0,0,0,0,0,0,0,0,0,0,0,0,0,0,0],[],[],[]⟩ (fun γ=>[iV x3,iV b,.bool (decide (x3 > b)),.bool false,undef,undef,undef,undef,undef,undef,undef,undef,undef,undef,.bool false]) nO [0,1,2,4,5,6,7,8,9,10,11,12,13,14] tryz_mix Tb_ok ?_ ?_
     ·refine ⟨?_,trivial⟩;intro γ F;refine w_pk Tb_ok (congrArg Value.bool t2) kr ?_;exact wE (gl []) [] 0
     intro γ2;cases h8;exact q_join () trivial aK (tH [(0,Z)] 0)
    rintro ⟨⟩ - j;refine Tn ?_;rcases bcase h7 with ⟨t3,h13⟩ | ⟨t3,h13⟩
    ·refine Xt t3 (Ws (Tn (Sq (Wb ?_))));refine WH.ent (hd_add (own_hd 0 rfl)) ?_;obtain ⟨x8,ex8,h14⟩:=bnd h13;obtain ⟨x9,ex9,h15⟩:=bnd h14;obtain ⟨x10,ex10,h16⟩:=bnd h15;obtain ⟨l7,el7,h17⟩:=bnd h16;obtain ⟨x11,ex11,h18⟩:=bnd h17;obtain ⟨l8,el8,h19⟩:=bnd h18
     refine h_fm [0,0,0,0,8,0,0,64,224,480,0,0,3072,7168,16355,32739,65535,131071] ⟨2,[0,0,0,0,0,0,0,0,0,0,0,0,0,0,0,1,0,1],[(15,[(0,1)]),(17,[(16,0)])],[(9,[(0,1)]),(13,[(0,1)])],[(8,[(0,0)]),(12,[(0,0)]),(14,[(0,0)]),(16,[(0,0)])]⟩ (fun γ=>[a,iV x3,a,iV x3,iV x8,a,iV x3,iV x8,.pointer (some (elV a (x8.toNat*Ku.size))),uN x9,a,iV x3,.pointer (some (elV a (x3.toNat*Ku.size))),uN x10,.pointer (some (elV a (x3.toNat*Ku.size))),undef,.pointer (some (elV a (x8.toNat*Ku.size))),undef]) (fun i γ=>match i with | 15=>[I14 a l7] | 17=>[I14 a l8] | _=>[]) [0,1,2,3,5,6,10,11] tryz_mix Tb_ok ?_ ?_
     ·refine ⟨?_,?_,?_,?_,?_,?_,?_,?_,?_,?_,trivial⟩
      ·intro γ F;refine w_bi (zsubI ex8) kr ?_;exact wE (gl []) [] 0
      ·intro γ F;refine w_bi (zsubI ex8) kr ?_;exact wE (gl []) [] 0
      ·intro γ F;refine w_ix (k:=.i64) (hdI 0 rfl) (ib ex9) (iz ex9) kr ts_60 ti_22 ?_;exact wE (gl []) [] 1
      ·intro γ F;refine w_ldO 0 0 rfl (ig ex9) kr ti_22 rfl rfl ?_;rintro _;exact wE (gl []) [(0,Z)] 0
      ·intro γ F;refine w_ix (k:=.i64) (hdI 0 rfl) (ib ex10) (iz ex10) kr ts_60 ti_22 ?_;exact wE (gl []) [] 1
      ·intro γ F;refine w_ldO 0 0 rfl (ig ex10) kr ti_22 rfl rfl ?_;rintro _;exact wE (gl []) [(0,Z)] 0
      ·intro γ F;refine w_ix (k:=.i64) (hdI 0 rfl) (ib ex10) (iz ex10) kr ts_60 ti_22 ?_;exact wE (gl []) [] 1
      ·intro γ F;refine w_stO (kd:=Ku) (w:=uN x9) (m:=x3.toNat) (x0:=x9) 0 () rfl (ib ex10) (sinj el7) kr ti_22 (cv0 kr) (it0 rfl) ?_;exact wE (gl []) [(0,Z)] 0
      ·intro γ F;refine w_ix (k:=.i64) (hdI 0 rfl) (ib ex9) (iz ex9) kr ts_60 ti_22 ?_;exact wE (gl []) [] 1
      intro γ F;refine w_stO (kd:=Ku) (w:=uN x10) (m:=x8.toNat) (x0:=x10) 0 () rfl (ib ex11) (sinj el8) kr ti_22 (cv0 kr) (it0 rfl) ?_;exact wE (gl []) [(0,Z)] 0
     intro γ3;refine Bn (Tn (Rg (Pp 1 (w_bi (zsubI ex8) kr (Pp 1 (Ei ?_))))));have h19:=Sj h19;subst h19;exact q_go () hn2 aK (tH [(1,Z)] 1)
    refine Xf t3 (We (Te ?_));refine q_lpX ?_;refine Be ?_;have h13:=Sj h13;subst h13;cases (show _=_ from hn2);exact q_join () trivial aK (tH [(0,Z)] 0)
   rintro ⟨⟩ - j;refine Bn (Tn (Rg (Pp 1 ?_)));obtain ⟨x12,ex12,h20⟩:=bnd h5;refine w_bi (zaddI ex12) kr (Pp 1 (Ei ?_));have h20:=Sj h20;subst h20;exact q_go () hn1 aK (tH [(0,Z)] 0)
  refine Xf t1 (We (Te ?_));refine q_lpX ?_;refine Be ?_;have h4:=Sj h4;subst h4;cases (show _=_ from hn1);exact q_join () trivial aK (tH [(0,Z)] 0)
 rintro ⟨⟩ - j;have h2:=Sj h2;subst h2;exact q_end (l:=[]) [(0,Z)] 0 ⟨rfl,rfl⟩ (.inr rfl) kr kr kr
theorem c_slices_pdqsortOrdered_uint64 {b:List Nat} {d e c:Int} {a:Value} {r:(List Nat)} (h:slices_pdqsortOrdered_uint64 b d e c=some r):Ct Tryz.prog 184 [a,iV d,iV e,iV c] [I14 a b] (fun v L=>v=.tuple #[]∧L=[I14 a r]):=by
 refine ct_intro Tryz.func184 rfl kr (fun F=>?_);unfold slices_pdqsortOrdered_uint64 at h;refine Sg (Pp 1 (Eg (Pp 1 (En ?_))));obtain ⟨r1,elp1,h1⟩:=bnd h;refine Wb ?_
 refine h_lp (fun (st:Unit) (g:Unit)=>[(0,a),(1,iV d),(2,iV e),(3,iV c),(8,.bool true),(9,.bool true)]) (fun (st:Unit) (g:Unit)=>[I14 a b]++F) () elp1 aK (tH [(0,Z)] 0) ?_;rintro kk ⟨⟩ ⟨⟩ o1 h2 hn1 j;have h2:slices_pdqsortOrdered_uint64_L0 b d e=some o1:=h2
 unfold slices_pdqsortOrdered_uint64_L0 at h2;refine Wb (Sg (Pp 2 ?_));obtain ⟨x1,ex1,h3⟩:=bnd h2;refine w_bi (zsubI ex1) kr (Pp 1 (Es (Sg (Pp 2 (En ?_)))));rcases bcase h3 with ⟨t1,h4⟩ | ⟨t1,h4⟩
 ·refine Xt t1 (Sg (Pp 3 ?_));obtain ⟨r2,er2,h5⟩:=bnd h4;refine Fe [(0,Z)] (c_slices_insertionSortOrdered_uint64 er2) rfl fok_193 ?_;refine Er (Tr (Br ?_));refine q_lpR ?_;refine Br ?_;have h5:=Sj h5;subst h5;have hn:=(show _=_ from hn1);subst hn;have h1:=Sj (show some _=some _ from h1);subst h1;exact Ql [] [(0,Z)] 0
 refine Xs t1 (Tn (Sq (Sg ?_)));cases h4
theorem c_slices_Sort_Luint64_uint64 {b:List Nat} {a:Value} {r:(List Nat)} (h:slices_Sort_Luint64_uint64 b=some r):Ct Tryz.prog 171 [a] [I14 a b] (fun v L=>v=.tuple #[]∧L=[I14 a r]):=by
 refine ct_intro Tryz.func171 rfl kr (fun F=>?_);unfold slices_Sort_Luint64_uint64 at h;refine Sg (Pp 1 (w_len (own_hd 0 rfl) kr ts_60 (Pp 1 (En (Rg (Pp 3 ?_))))));obtain ⟨x1,ex1,h1⟩:=bnd h;refine w_cv Tb_ok (ecU ex1) kr ?_;obtain ⟨r1,er1,h2⟩:=bnd h1;refine Fe [] (c_math_bits_Len er1) rfl fok_185 ?_;obtain ⟨r2,er2,h3⟩:=bnd h2
 refine Fe [(0,Z)] (c_slices_pdqsortOrdered_uint64 er2) rfl fok_184 ?_;refine Ei ?_;have h3:=Sj h3;subst h3;exact q_end (l:=[]) [(0,Z)] 0 ⟨rfl,rfl⟩ (.inr rfl) kr kr kr
theorem c_slices_Compact_Luint64_uint64 {b:List Nat} {a:Value} {r:(List Nat)} (h:slices_Compact_Luint64_uint64 b=some r):Ct Tryz.prog 172 [a] [rU a b] (fun v L=>∃ w0:Value,v=w0∧L=[rU w0 r]):=by
 refine ct_intro Tryz.func172 rfl kr (fun F=>?_);unfold slices_Compact_Luint64_uint64 at h;refine Sg (Pp 1 (Es (Sg (Pp 1 (w_len (rd_hd 0 rfl) kr ts_60 (Pp 1 (En ?_)))))));rcases bcase h with ⟨t1,h1⟩ | ⟨t1,h1⟩
 ·refine Xt t1 (Sg (Pp 2 (Er (Tr ?_))));have h1:=Sj h1;subst h1;exact q_end (l:=[a]) [(0,Y)] 1 ⟨a,rfl,rfl⟩ (.inl rfl) kr kr kr
 refine Xs t1 (Tn (Sq (Sg (Pp 1 (En ?_)))));obtain ⟨⟨⟩,elp1,h2⟩:=bnd h1;refine h_join (X:=Unit) (fun g=>[(0,a)]) (fun g=>[rU a b]++F) (fun _=>True) ?_ ?_
 ·refine Wb ?_;refine h_lp (fun (st:Int) (g:Unit)=>[(0,a),(3,iV st)]) (fun (st:Int) (g:Unit)=>[rU a b]++F) () elp1 aK (tH [(0,Y)] 1) ?_;rintro kk x1 ⟨⟩ o1 h3 hn1 j;have h3:slices_Compact_Luint64_uint64_L0 b x1=some o1:=h3;unfold slices_Compact_Luint64_uint64_L0 at h3;refine Sq (Sg (Pp 2 (w_len (rd_hd 0 rfl) kr ts_60 (Pp 1 (En ?_)))))
  rcases bcase h3 with ⟨t2,h4⟩ | ⟨t2,h4⟩
  ·refine Xt t2 (Ws (Tn (Sq (Wb (Sq ?_)))));obtain ⟨x2,ex2,h5⟩:=bnd h4;obtain ⟨x3,ex3,h6⟩:=bnd h5;obtain ⟨x4,ex4,h7⟩:=bnd h6
   refine h_fm [0,0,3,7,0,0,32,112,240,511] ⟨1,[0,0,0,0,0,0,0,0,0,0],[],[],[(2,[(0,0)]),(3,[(0,0)]),(7,[(0,0)]),(8,[(0,0)])]⟩ (fun γ=>[a,iV x1,.pointer (some (elV a (x1.toNat*Ku.size))),uN x2,a,iV x1,iV x3,.pointer (some (elV a (x3.toNat*Ku.size))),uN x4,.bool ((x2:Int) == (x4:Int))]) nO [0,1,4,5,9] tryz_mix Tb_ok ?_ ?_
   ·refine ⟨?_,?_,?_,?_,?_,trivial⟩
    ·intro γ F;refine w_ix (k:=.i64) (rd_hd 0 rfl) (ib ex2) (iz ex2) kr ts_60 ti_22 ?_;exact wE (gl []) [] 1
    ·intro γ F;refine w_ldR 0 0 rfl (ig ex2) kr ti_22 rfl rfl ?_;rintro _;exact wE (gl []) [] 1
    ·intro γ F;refine w_bi (zsubI ex3) kr ?_;exact wE (gl []) [] 0
    ·intro γ F;refine w_ix (k:=.i64) (rd_hd 0 rfl) (ib ex4) (iz ex4) kr ts_60 ti_22 ?_;exact wE (gl []) [] 1
    intro γ F;refine w_ldR 0 0 rfl (ig ex4) kr ti_22 rfl rfl ?_;rintro _;exact wE (gl []) [] 1
   intro γ1;refine Tn ?_;rcases bcase h7 with ⟨t3,h8⟩ | ⟨t3,h8⟩
   ·refine Xt t3 (Sg ?_);cases h8
   refine Xs t3 (Bn (Tn (Rg (Pp 1 ?_))));obtain ⟨x5,ex5,h9⟩:=bnd h8;refine w_bi (zaddI ex5) kr (Pp 1 (Ei ?_));have h9:=Sj h9;subst h9;exact q_go () hn1 aK (tH [(0,Y)] 1)
  refine Xf t2 (We (Te ?_));refine q_lpX ?_;refine Be ?_;have h4:=Sj h4;subst h4;cases (show _=_ from hn1);exact q_join () trivial aK (tH [(0,Y)] 1)
 rintro ⟨⟩ - j;refine Tn (Sg (Pp 2 (Er ?_)));have h2:=Sj h2;subst h2;exact q_end (l:=[a]) [(0,Y)] 1 ⟨a,rfl,rfl⟩ (.inl rfl) kr kr kr
theorem c_interpolate_unlike {b:List Nat} {a:Value} {r:Bool} (h:interpolate_unlike b=some r):Ct Tryz.prog 140 [a] [rU a b] (fun v L=>v=.bool r∧L=[]):=by
 refine ct_intro Tryz.func140 rfl kr (fun F=>?_);unfold interpolate_unlike at h;refine Sg (Pp 1 (Eg (Pp 1 ?_)));obtain ⟨r1,er1,h1⟩:=bnd h;refine Fx [(0,Y)] (c_slices_Clone_Luint64_uint64 er1) rfl fok_170 (fun w1=>?_);refine Pp 1 (Eg (Pp 1 ?_));obtain ⟨r2,er2,h2⟩:=bnd h1;refine Fe [(0,Z)] (c_slices_Sort_Luint64_uint64 er2) rfl fok_171 ?_;refine Eg (Pp 1 ?_)
 refine WI.ent (frzAt 0 rfl) ?_;obtain ⟨r3,er3,h3⟩:=bnd h2;refine Fx [(0,Y)] (c_slices_Compact_Luint64_uint64 er3) rfl fok_172 (fun w2=>?_);refine w_len (rd_hd 0 rfl) kr ts_60 (Pp 1 (w_len (rd_hd 2 rfl) kr ts_60 (Pp 2 (Er ?_))));have h3:=Sj h3;subst h3;exact Ql [.bool ((r3.length:Int) == (b.length:Int))] [] 3
theorem c_field_Neg {a b r:Nat} (h:field_Neg a b=some r):Ct Tryz.prog 144 [uN a,uN b] [] (fun v L=>v=uN r∧L=[]):=by
 refine ct_intro Tryz.func144 rfl kr (fun F=>?_);unfold field_Neg at h;refine Sg (Pp 1 (Es (Sg (Pp 2 (En ?_)))));rcases bcase h with ⟨t1,h1⟩ | ⟨t1,h1⟩
 ·refine Xt t1 (Sg (Pp 1 (Er (Tr ?_))));have h1:=Sj h1;subst h1;exact Ql [uN 0] [] 0
 refine Xs t1 (Tn (Sg (Pp 2 ?_)));obtain ⟨x1,ex1,h2⟩:=bnd h1;refine w_bi (esubU ex1) kr (Pp 1 (Er ?_));have h2:=Sj h2;subst h2;exact Ql [uN x1] [] 0
theorem c_poly_sum_put {b:T_poly_sum} {c:Int} {e a:Nat} {d:Value} {r:(List Nat)} (h:poly_sum_put b c e=some r):Ct Tryz.prog 173 [(bx a),iV c,uN e] [I45 a b.zp d,I14 d b.zf] (fun v L=>∃ w0:Value,v=.tuple #[]∧L=[I45 a b.zp w0,I14 w0 r]):=by
 refine ct_intro Tryz.func173 rfl kr (fun F=>?_);unfold poly_sum_put at h;refine Sq ?_;obtain ⟨l3,elp1,h1⟩:=bnd h;refine h_join (X:=Value) (fun g=>[(0,(bx a)),(1,iV c),(2,uN e)]) (fun g=>[I45 a b.zp g,I14 g l3]++F) (fun _=>True) ?_ ?_
 ·refine Wb ?_;refine h_lp (fun (st:(List Nat)) (g:Value)=>[(0,(bx a)),(1,iV c),(2,uN e)]) (fun (st:(List Nat)) (g:Value)=>[I45 a b.zp g,I14 g st]++F) d elp1 aK (tH [(0,Z),(0,Z)] 0) ?_;rintro kk l1 g1 o1 h2 hn1 j
  have h2:poly_sum_put_L0 c l1=some o1:=h2;unfold poly_sum_put_L0 at h2;refine Sq (Sg (Pp 3 (w_ldB 0 1 rfl kr ti_60 rfl rfl (w_len (own_hd 1 rfl) kr ts_60 (Pp 2 (En ?_))))));rcases bcase h2 with ⟨t1,h3⟩ | ⟨t1,h3⟩
  ·refine Xt t1 (Ws (Tn (Wb (Rg (Pp 4 (w_ldB 0 1 rfl kr ti_60 rfl rfl ?_))))));refine w_lt (kd:=Ku) (t:=60) (len:=1) (ps0:=[(0,uN 0)]) (ps:=[(0,uN 0)]) ([0]:List Nat) _ (rowC (x:=0) (g:=()) (it0 rfl) row0) (scI sc0) kr ts_60 ti_22 kr rfl rfl (fun v1=>?_);obtain ⟨l4,el4,h4⟩:=bnd h3
   refine w_app 2 rfl (own_src 0 rfl) el4 kr ts_60 ti_22 rfl (fun v2=>?_);refine Pp 2 ?_;refine w_stB (v:=v2) (off:=1) (cs:=[v2]) 2 rfl (cvS (own_hd 0 rfl)) kr ti_60 rfl rfl (oC (sl_one (own_hd 0 rfl)) oN) ?_;refine WI.hd (y:=I45 a b.zp v2) kr ?_;refine Ei (Bn ?_);have h4:=Sj h4;subst h4
   exact q_go v2 hn1 aK (tH [(0,Z),(0,Z)] 1)
  refine Xf t1 (We (Te ?_));refine q_lpX ?_;refine Be ?_;have h3:=Sj h3;subst h3;cases (show _=_ from hn1);exact q_join g1 trivial aK (tH [(0,Z),(0,Z)] 0)
 rintro g3 - j;refine Tn ?_;obtain ⟨x1,ex1,h5⟩:=bnd h1;obtain ⟨r2,er2,h6⟩:=bnd h5;obtain ⟨l5,el5,h7⟩:=bnd h6
 refine h_fm [0,1,3,7,0,0,32,96,224,0,512,1536,3584,0,15872,32256,0,131040,262143,524287] ⟨2,[0,0,0,0,0,0,0,0,0,0,0,0,0,0,0,0,0,0,0,1],[(19,[(0,1)])],[(3,[(0,0)]),(8,[(0,0)]),(12,[(0,0)]),(14,[(0,1)]),(15,[(0,1)]),(18,[(0,1)])],[]⟩ (fun γ=>[(bx a),(bx a),.pointer (some ⟨a,1,none⟩),g3,iV c,(bx a),(bx a),bx a,uN b.zp,(bx a),(bx a),.pointer (some ⟨a,1,none⟩),g3,iV c,.pointer (some (elV g3 (c.toNat*Ku.size))),uN x1,uN e,uN r2,.pointer (some (elV g3 (c.toNat*Ku.size))),undef]) (fun i γ=>match i with | 19=>[I14 g3 l5] | _=>[]) [0,1,2,4,5,6,7,9,10,11,13,16] tryz_mix Tb_ok ?_ ?_
 ·refine ⟨?_,?_,?_,?_,?_,?_,?_,?_,trivial⟩
  ·intro γ F;refine w_ldB 0 1 rfl kr ti_60 rfl rfl ?_;exact wE (gl []) [(0,Z)] 0
  ·intro γ F;refine w_ldB 0 0 rfl kr ti_22 rfl rfl ?_;exact wE (gl []) [(0,Z)] 0
  ·intro γ F;refine w_ldB 0 1 rfl kr ti_60 rfl rfl ?_;exact wE (gl []) [(0,Z)] 0
  ·intro γ F;refine w_ix (k:=.i64) (own_hd 0 rfl) (ib ex1) (iz ex1) kr ts_60 ti_22 ?_;exact wE (gl []) [(0,Z)] 0
  ·intro γ F;refine w_ldO 0 0 rfl (ig ex1) kr ti_22 rfl rfl ?_;rintro _;exact wE (gl []) [(0,Z)] 0
  ·intro γ F;refine Fe [] (c_field_Add er2) rfl fok_92 ?_;exact wE (gl []) [] 0
  ·intro γ F;refine w_ix (k:=.i64) (own_hd 0 rfl) (ib ex1) (iz ex1) kr ts_60 ti_22 ?_;exact wE (gl []) [(0,Z)] 0
  intro γ F;refine w_stO (kd:=Ku) (w:=uN r2) (m:=c.toNat) (x0:=r2) 0 () rfl (ib ex1) (sinj el5) kr ti_22 (cv0 kr) (it0 rfl) ?_;exact wE (gl []) [(0,Z)] 0
 intro γ1;have h7:=Sj h7;subst h7;exact q_end (l:=[]) [(0,Z),(0,Z)] 0 ⟨g3,rfl,rfl⟩ (.inr rfl) kr kr kr
theorem c_poly_Degree {b:List Nat} {a:Value} {r:Int} (h:poly_Degree b=some r):Ct Tryz.prog 85 [a] [rU a b] (fun v L=>v=iV r∧L=[]):=by
 refine ct_intro Tryz.func85 rfl kr (fun F=>?_);unfold poly_Degree at h;refine Sg (Pp 1 (Es (Sg (Pp 1 (w_len (rd_hd 0 rfl) kr ts_60 ?_)))));obtain ⟨x1,ex1,h1⟩:=bnd h;refine w_bi (zsubI ex1) kr (Pp 1 (En ?_));obtain ⟨r1,elp1,h2⟩:=bnd h1;refine h_join (X:=Unit × Unit) (fun g=>[]) (fun g=>[]++F) (fun g=>r1=.inr g.2) ?_ ?_
 ·refine Wb ?_;refine h_lp (fun (st:Int) (g:Unit)=>[(0,a),(3,iV st)]) (fun (st:Int) (g:Unit)=>[rU a b]++F) () elp1 aK (tH [(0,Y)] 1) ?_;rintro kk x2 ⟨⟩ o1 h3 hn1 j;have h3:poly_Degree_L0 b x2=some o1:=h3;unfold poly_Degree_L0 at h3;refine Sq (Sg (Pp 2 (En ?_)));rcases bcase h3 with ⟨t1,h4⟩ | ⟨t1,h4⟩
  ·refine Xt t1 (Ws (Tn (Sq (Wb (Sg (Pp 2 ?_))))));obtain ⟨x3,ex3,h5⟩:=bnd h4;refine w_ix (k:=.i64) (rd_hd 0 rfl) (ib ex3) (iz ex3) kr ts_60 ti_22 ?_;refine w_ldR 0 0 rfl (ig ex3) kr ti_22 rfl rfl ?_;rintro _;refine Pp 1 (En ?_);rcases bcase h5 with ⟨t2,h6⟩ | ⟨t2,h6⟩
   ·refine Xt t2 (Sg (Pp 2 (Er (Br (Tr ?_)))));refine q_lpR ?_;refine Br (q_joinR (Tr ?_));have h6:=Sj h6;subst h6;have hn:=(show _=_ from hn1);subst hn;have h2:=Sj (show some _=some _ from h2);subst h2;exact Ql [iV x2] [] 1
   refine Xs t2 (Bn (Tn (Rg (Pp 1 ?_))));obtain ⟨x4,ex4,h7⟩:=bnd h6;refine w_bi (zsubI ex4) kr (Pp 1 (Ei ?_));have h7:=Sj h7;subst h7;exact q_go () hn1 aK (tH [(0,Y)] 1)
  refine Xf t1 (We (Te ?_));refine q_lpX ?_;refine Be ?_;have h4:=Sj h4;subst h4;exact q_join ((),()) (Eq.symm hn1) aK (tH [] 1)
 rintro ⟨⟨⟩,⟨⟩⟩ hc j;subst hc;refine Tn (Sg (Pp 1 (Er ?_)));have h2:=Sj h2;subst h2;exact Ql [iV (-1)] [] 0
theorem c_poly_Trim {b:List Nat} {a:Value} {r:(List Nat)} (h:poly_Trim b=some r):Ct Tryz.prog 150 [a] [rU a b] (fun v L=>∃ w0:Value,v=w0∧L=[I14 w0 r]):=by
 refine ct_intro Tryz.func150 rfl kr (fun F=>?_);unfold poly_Trim at h;refine Sg (Pp 1 (Eg (Pp 1 ?_)));obtain ⟨r1,er1,h1⟩:=bnd h;refine Fe [(0,Y)] (c_poly_Degree er1) rfl fok_85 ?_;obtain ⟨x1,ex1,h2⟩:=bnd h1;refine w_bi (zaddI ex1) kr (Pp 1 (Eg (Pp 2 ?_)));obtain ⟨l1,el1,h3⟩:=bnd h2;refine w_cut 0 rfl el1 loN (hiS (k:=.i64)) kr ts_60 ti_22 (fun v1=>?_)
 obtain ⟨l2,el2,h4⟩:=bnd h3;refine w_app0 (kd:=Ku) (rd_src 0 rfl) el2 kr ts_60 ti_22 rfl (fun v2=>?_);refine Pp 1 (Er ?_);have h4:=Sj h4;subst h4;exact q_end (l:=[v2]) [(0,Z)] 2 ⟨v2,rfl,rfl⟩ (.inl rfl) kr kr kr
theorem c_poly_Mul {b:Nat} {d:List Nat} {f:List Nat} {c a:Value} {r:(List Nat)} (h:poly_Mul b d f=some r):Ct Tryz.prog 143 [uN b,c,a] [rU c d,rU a f] (fun v L=>∃ w0:Value,v=w0∧L=[I14 w0 r]):=by
 refine ct_intro Tryz.func143 rfl kr (fun F=>?_);unfold poly_Mul at h;refine Sg (Pp 1 (Eg (Pp 1 ?_)));refine w_bd (v:=.agg #[uN b,(.slice none 0 0)]) (t:=202) (ps0:=[(0,uN b)]) (ps:=[(0,uN b)]) (scI sc0) kr (fun w=>by kernel_rfl) ?_
 refine w_box (t:=202) (v:=.agg #[uN b,(.slice none 0 0)]) (cs:=[uN b,(.slice none 0 0)]) (cv0 kr) kr (fun q1=>?_);refine WI.hd (y:=blkP q1 202 [uN b,(.slice none 0 0)]) kr ?_;refine w_opP 0 rfl (fun b1 hb=>?_);subst hb;refine Pp 1 (Eg (Pp 3 (Es (Sg (Pp 1 (w_len (rd_hd 1 rfl) kr ts_60 (Pp 1 (En ?_))))))));refine WH.ent (ownNil (kd:=Ku) (e:=22)) ?_
 refine h_lenle (rd_lenle 2 rfl) (fun hN1=>?_);obtain ⟨l2,elp1,h1⟩:=bnd h;refine h_join (X:=Value) (fun g=>[(7,(bx b1))]) (fun g=>[I45 b1 b g,I14 g l2]++F) (fun _=>True) ?_ ?_
 ·refine Wb ?_
  refine h_rs (fun (k1:Nat) (st:(List Nat)) (g:Value)=>[(0,uN b),(2,a),(7,(bx b1)),(8,.func (.func 173) #[(bx b1)] #[]),(18,c),(19,iN d.length),(20,iN k1)]) (fun (k1:Nat) (st:(List Nat)) (g:Value)=>[rU a f,I45 b1 b g,I14 g st,rU c d]++F) (.slice none 0 0) elp1 (Nat.zero_le _) aK (tH [(3,Y),(1,Z),(0,Z),(0,Y)] 2) ?_ ?_
  ·rintro g3 j;refine Sg (Pp 1 (Es (Xf (rgF (N:=d.length)) (We (Te (q_rzX (Be ?_)))))));exact q_join g3 trivial aK (tH [(1,Z),(1,Z)] 2)
  rintro rem k1 l1 g1 o1 hk1 h2 hn1 j;have h2:poly_Mul_L0 b d f k1 l1=some o1:=h2;unfold poly_Mul_L0 at h2;refine Sg (Pp 1 (Es (Xt (rgT (k:=k1) (N:=d.length) hk1) (Ws (Tn (Sq (Wb (Sg (Pp 1 ?_)))))))));obtain ⟨x2,ex2,h3⟩:=bnd h2;refine w_ix (k:=.i64) (rd_hd 3 rfl) (nbd ex2) rfl kr ts_60 ti_22 ?_;refine w_ldR 3 0 rfl ex2 kr ti_22 rfl rfl ?_;rintro _
  refine Pp 2 (Eg (Pp 1 (w_len (rd_hd 0 rfl) kr ts_60 (Pp 1 (En ?_)))));refine h_lenle (rd_lenle 0 rfl) (fun hN2=>?_);obtain ⟨l4,elp2,h4⟩:=bnd h3
  refine h_join (X:=Value) (fun g=>[(0,uN b),(2,a),(7,(bx b1)),(8,.func (.func 173) #[(bx b1)] #[]),(18,c),(19,iN d.length),(20,iN k1)]) (fun g=>[rU a f,I45 b1 b g,I14 g l4,rU c d]++F) (fun _=>True) ?_ ?_
  ·refine Wb ?_
   refine h_rs (fun (k2:Nat) (st:(List Nat)) (g:Value)=>[(0,uN b),(2,a),(7,(bx b1)),(8,.func (.func 173) #[(bx b1)] #[]),(9,iN k1),(10,uN x2),(18,c),(19,iN d.length),(20,iN k1),(25,a),(26,iN f.length),(27,iN k2)]) (fun (k2:Nat) (st:(List Nat)) (g:Value)=>[rU a f,I45 b1 b g,I14 g st,rU c d]++F) g1 elp2 (Nat.zero_le _) aK (tH [(0,Y),(1,Z),(1,Z),(1,Y)] 2) ?_ ?_
   ·rintro g6 j;refine Sg (Pp 1 (Es (Xf (rgF (N:=f.length)) (We (Te (q_rzX (Be ?_)))))));exact q_join g6 trivial aK (tH [(0,Y),(1,Z),(1,Z),(1,Y)] 2)
   rintro rem k2 l3 g4 o2 hk2 h5 hn2 j;have h5:poly_Mul_L1 b f k1 x2 k2 l3=some o2:=h5;unfold poly_Mul_L1 at h5;refine Sg (Pp 1 (Es (Xt (rgT (k:=k2) (N:=f.length) hk2) (Ws (Tn (Sq (Wb (Sg (Pp 1 ?_)))))))));obtain ⟨x4,ex4,h6⟩:=bnd h5;refine w_ix (k:=.i64) (rd_hd 0 rfl) (nbd ex4) rfl kr ts_60 ti_22 ?_;refine w_ldR 0 0 rfl ex4 kr ti_22 rfl rfl ?_;rintro _
   refine Pp 2 (En (Rg (Pp 3 ?_)));obtain ⟨x5,ex5,h7⟩:=bnd h6;refine w_bi (zaddI ex5) kr (Pp 3 ?_);obtain ⟨r3,er3,h8⟩:=bnd h7;refine Fe [] (c_field_Mul er3) rfl fok_145 ?_;obtain ⟨r4,er4,h9⟩:=bnd h8;refine Fx [(1,Z),(1,Z)] (c_poly_sum_put er4) rfl fok_173 (fun w2=>?_);refine Ei (Bn (Tn (Rg (w_bi (zinc hk2 hN2) kr (Pp 1 (Ei ?_))))));have h9:=Sj h9;subst h9
   exact q_rs w2 hn2 aK (tH [(2,Y),(0,Z),(0,Z),(1,Y)] 2)
  rintro g5 - j;refine Bn (Tn (Rg (w_bi (zinc hk1 hN1) kr (Pp 1 (Ei ?_)))));have h4:=Sj h4;subst h4;exact q_rs g5 hn1 aK (tH [(0,Y),(1,Z),(1,Z),(1,Y)] 2)
 rintro g2 - j;refine Tn (Sg (Pp 3 (w_ldB 0 1 rfl kr ti_60 rfl rfl ?_)));refine WI.ent (frzAt 1 rfl) ?_;obtain ⟨r5,er5,h10⟩:=bnd h1;refine Fx [(0,Y)] (c_poly_Trim er5) rfl fok_150 (fun w3=>?_);refine Pp 1 (Er ?_);have h10:=Sj h10;subst h10;exact q_end (l:=[w3]) [(0,Z)] 2 ⟨w3,rfl,rfl⟩ (.inl rfl) kr kr kr
theorem c_field_Sub {a b c r:Nat} (h:field_Sub a b c=some r):Ct Tryz.prog 146 [uN a,uN b,uN c] [] (fun v L=>v=uN r∧L=[]):=by
 refine ct_intro Tryz.func146 rfl kr (fun F=>?_);unfold field_Sub at h;refine Sg (Pp 1 (Eg (Pp 4 ?_)));obtain ⟨r1,er1,h1⟩:=bnd h;refine Fe [] (c_field_Neg er1) rfl fok_144 ?_;obtain ⟨r2,er2,h2⟩:=bnd h1;refine Fe [] (c_field_Add er2) rfl fok_92 ?_;refine Pp 1 (Er ?_);have h2:=Sj h2;subst h2;exact Ql [uN r2] [] 0
theorem c_interpolate_Polynomial_1 {n b:Nat} {m:List Nat} {k:Nat} {c:T_api_Point} {d e:Nat} {a:Value} {f j:Nat} {r:(List Nat) × Nat} (h:interpolate_Polynomial_1 n b m k c=some r):Ct Tryz.prog 142 [uN n,(bx d),(bx e),(bx f),(bx j)] [I30 d b,I65 e a,I14 a m,I30 f k,I48 j c.X c.Y] (fun v L=>∃ w0:Value,v=.tuple #[]∧L=[I30 d b,I65 e w0,I14 w0 r.1,I30 f r.2,I48 j c.X c.Y]):=by
 refine ct_intro Tryz.func142 rfl kr (fun F=>?_);unfold interpolate_Polynomial_1 at h;refine Sq ?_;refine WH.ent (frzAt 2 rfl) ?_;obtain ⟨r1,er1,h1⟩:=bnd h;obtain ⟨r2,er2,h2⟩:=bnd h1
 refine h_fm [0,0,0,0,12,28,63,127] ⟨5,[0,0,0,0,0,1,1,1],[(7,[(0,2)])],[(0,[(0,1)]),(1,[(0,2)]),(2,[(0,1)]),(7,[(7,0)])],[(6,[(6,0),(0,0)])]⟩ (fun γ=>[uN b,a,uN b,uN n,uN r1,(γ 5 0),(γ 6 0),undef]) (fun i γ=>match i with | 5=>[rU (γ 5 0) ([r1,1]:List Nat)] | 6=>[I14 (γ 6 0) r2] | 7=>[I65 e (γ 6 0)] | _=>[]) [3] tryz_mix Tb_ok ?_ ?_
 ·refine ⟨?_,?_,?_,?_,?_,?_,?_,trivial⟩
  ·intro γ F;refine w_ldB 0 0 rfl kr ti_22 rfl rfl ?_;exact wE (gl []) [(0,Z)] 0
  ·intro γ F;refine w_ldB 0 0 rfl kr ti_60 rfl rfl ?_;exact wE (gl []) [(0,Z)] 0
  ·intro γ F;refine w_ldB 0 0 rfl kr ti_22 rfl rfl ?_;exact wE (gl []) [(0,Z)] 0
  ·intro γ F;refine Fe [] (c_field_Neg er1) rfl fok_144 ?_;exact wE (gl []) [] 0
  ·intro γ F;refine w_lt (kd:=Ku) (t:=60) (len:=2) (ps0:=[(0,uN r1),(1,uN 1)]) (ps:=[(0,uN r1),(1,uN 1)]) ([r1,1]:List Nat) _ (rowC (x:=r1) (g:=()) (it0 rfl) (rowC (x:=1) (g:=()) (it0 rfl) row0)) (scI (scI sc0)) kr ts_60 ti_22 kr rfl rfl (fun v1=>?_);refine WI.ent (frzAt 0 rfl) ?_
   exact wE (gl [v1]) [(0,Y)] 1
  ·intro γ F;refine Fx [(1,Y),(0,Y)] (c_poly_Mul er2) rfl fok_143 (fun w2=>?_);exact wE (gl [w2]) [(0,Z)] 2
  intro γ F;refine w_stB (v:=(γ 6 0)) (off:=0) (cs:=[(γ 6 0)]) 0 rfl (cvS (own_hd 1 rfl)) kr ti_60 rfl rfl (oC (sl_one (own_hd 1 rfl)) oN) ?_;refine WI.hd (y:=I65 e (γ 6 0)) kr ?_;exact wE (gl []) [(0,Z),(0,Z)] 0
 intro γ1;refine Tn ?_;obtain ⟨r3,er3,h3⟩:=bnd h2;obtain ⟨r4,er4,h4⟩:=bnd h3
 refine h_fm [0,0,0,0,8,0,60,127,255] ⟨7,[0,0,0,0,0,0,0,0,1],[(8,[(0,2)])],[(0,[(0,1)]),(1,[(0,2)]),(2,[(0,1)]),(4,[(0,3)])],[]⟩ (fun γ=>[uN b,uN k,uN b,bx j,uN c.X,uN n,uN r3,uN r4,undef]) (fun i γ=>match i with | 8=>[I30 f r4] | _=>[]) [3,5] tryz_mix Tb_ok ?_ ?_
 ·refine ⟨?_,?_,?_,?_,?_,?_,?_,trivial⟩
  ·intro γ F;refine w_ldB 0 0 rfl kr ti_22 rfl rfl ?_;exact wE (gl []) [(0,Z)] 0
  ·intro γ F;refine w_ldB 0 0 rfl kr ti_22 rfl rfl ?_;exact wE (gl []) [(0,Z)] 0
  ·intro γ F;refine w_ldB 0 0 rfl kr ti_22 rfl rfl ?_;exact wE (gl []) [(0,Z)] 0
  ·intro γ F;refine w_ldB 0 0 rfl kr ti_22 rfl rfl ?_;exact wE (gl []) [(0,Z)] 0
  ·intro γ F;refine Fe [] (c_field_Sub er3) rfl fok_146 ?_;exact wE (gl []) [] 0
  ·intro γ F;refine Fe [] (c_field_Mul er4) rfl fok_145 ?_;exact wE (gl []) [] 0
  intro γ F;refine w_stB (v:=uN r4) (off:=0) (cs:=[uN r4]) 0 rfl (cv0 kr) kr ti_22 rfl rfl (oC (fun _ _=>rfl) oN) ?_;refine WI.hd (y:=I30 f r4) kr ?_;exact wE (gl []) [(0,Z)] 0
 intro γ2;have h4:=Sj h4;subst h4;exact q_end (l:=[]) [(1,Z),(4,Z),(3,Z),(3,Z),(1,Z)] 2 ⟨(γ1 6 0),rfl,rfl⟩ (.inr rfl) kr kr kr
theorem c_interpolate_others_interpolate_Polynomial_1 {n:List Nat} {o:Int} {f:Nat} {p:List Nat} {q:Nat} {a:T_api_Point} {m:Value} {b c:Nat} {i:Value} {d e:Nat} {r:(List Nat) × Nat} (h:interpolate_others_interpolate_Polynomial_1 n o f p q a=some r):Ct Tryz.prog 141 [m,iV o,.func (.func 142) #[] #[(bx b),(bx c),(bx d),(bx e)]] [rU m n,I30 b f,I65 c i,I14 i p,I30 d q,I48 e a.X a.Y] (fun v L=>∃ w0:Value,v=.tuple #[]∧L=[I30 b f,I65 c w0,I14 w0 r.1,I30 d r.2,I48 e a.X a.Y]):=by
 refine ct_intro Tryz.func141 rfl kr (fun F=>?_);unfold interpolate_others_interpolate_Polynomial_1 at h;refine Sg (Pp 1 (w_len (rd_hd 0 rfl) kr ts_60 (Pp 1 (En ?_))));refine h_lenle (rd_lenle 0 rfl) (fun hN1=>?_);obtain ⟨⟨l2,x3⟩,elp1,h1⟩:=bnd h
 refine h_join (X:=Value) (fun g=>[]) (fun g=>[I30 b f,I65 c g,I14 g l2,I30 d x3,I48 e a.X a.Y]++F) (fun _=>True) ?_ ?_
 ·refine Wb ?_
  refine h_rs (fun (k1:Nat) (st:(List Nat) × Nat) (g:Value)=>[(1,iV o),(2,.func (.func 142) #[] #[(bx b),(bx c),(bx d),(bx e)]),(8,m),(9,iN n.length),(10,iN k1)]) (fun (k1:Nat) (st:(List Nat) × Nat) (g:Value)=>[I30 b f,I65 c g,I14 g st.1,I30 d st.2,I48 e a.X a.Y,rU m n]++F) i elp1 (Nat.zero_le _) aK (tH [(1,Z),(1,Z),(1,Z),(1,Z),(1,Z),(0,Y)] 1) ?_ ?_
  ·rintro g3 j;refine Sg (Pp 1 (Es (Xf (rgF (N:=n.length)) (We (Te (q_rzX (Be ?_)))))));exact q_join g3 trivial aK (tH [(0,Z),(0,Z),(0,Z),(0,Z),(0,Z)] 1)
  rintro rem k1 ⟨l1,x1⟩ g1 o1 hk1 h2 hn1 j;have h2:interpolate_others_interpolate_Polynomial_1_L0 n o f a k1 l1 x1=some o1:=h2;unfold interpolate_others_interpolate_Polynomial_1_L0 at h2;refine Sg (Pp 1 (Es (Xt (rgT (k:=k1) (N:=n.length) hk1) (Ws (Tn (Sq (Wb (Sg (Pp 1 ?_)))))))));obtain ⟨x4,ex4,h3⟩:=bnd h2
  refine w_ix (k:=.i64) (rd_hd 5 rfl) (nbd ex4) rfl kr ts_60 ti_22 ?_;refine w_ldR 5 0 rfl ex4 kr ti_22 rfl rfl ?_;rintro _;refine Pp 2 (Eg (Pp 3 (En ?_)));rcases bcase h3 with ⟨t1,h4⟩ | ⟨t1,h4⟩
  ·refine Xt t1 (Rg (Pp 2 ?_));obtain ⟨r2,er2,h5⟩:=bnd h4;refine Fx [(0,Z),(0,Z),(0,Z),(0,Z),(0,Z)] (c_interpolate_Polynomial_1 er2) rfl fok_142 (fun w1=>?_);refine Ei (Bn (Tn (Rg (w_bi (zinc hk1 hN1) kr (Pp 1 (Ei ?_))))));have h5:=Sj h5;subst h5;exact q_rs w1 hn1 aK (tH [(0,Z),(0,Z),(0,Z),(0,Z),(0,Z),(0,Y)] 1)
  refine Xs t1 (Bn (Tn (Rg (w_bi (zinc hk1 hN1) kr (Pp 1 (Ei ?_))))));have h4:=Sj h4;subst h4;exact q_rs g1 hn1 aK (tH [(0,Z),(0,Z),(0,Z),(0,Z),(0,Z),(0,Y)] 1)
 rintro g2 - j;have h1:=Sj h1;subst h1;exact q_end (l:=[]) [(0,Z),(0,Z),(0,Z),(0,Z),(0,Z)] 0 ⟨g2,rfl,rfl⟩ (.inr rfl) kr kr kr
theorem c_field_Pow {a b c r:Nat} (h:field_Pow a b c=some r):Ct Tryz.prog 186 [uN a,uN b,uN c] [] (fun v L=>v=uN r∧L=[]):=by
 refine ct_intro Tryz.func186 rfl kr (fun F=>?_);unfold field_Pow at h;refine Sg (Pp 1 (Eg (Pp 1 (Es ?_))));obtain ⟨x5,elp1,h1⟩:=bnd h;refine h_join (X:=Unit) (fun g=>[(7,uN x5)]) (fun g=>[]++F) (fun _=>True) ?_ ?_
 ·refine Wb ?_;refine h_lp (fun (st:Nat × Nat × Nat) (g:Unit)=>[(0,uN a),(1,uN st.1),(2,uN st.2.1),(7,uN st.2.2)]) (fun (st:Nat × Nat × Nat) (g:Unit)=>[]++F) () elp1 aK (tH [] 0) ?_;rintro kk ⟨x1,x2,x3⟩ ⟨⟩ o1 h2 hn1 j;have h2:field_Pow_L0 a x1 x2 x3=some o1:=h2;unfold field_Pow_L0 at h2;refine Sq (Sg (Pp 2 (En ?_)))
  rcases bcase h2 with ⟨t1,h3⟩ | ⟨t1,h3⟩
  ·refine Xt t1 (Ws (Tn (Sq (Wb (Sq (Sg (Pp 1 ?_)))))));obtain ⟨x6,ex6,h4⟩:=bnd h3;refine w_bi (eandU ex6) kr (Pp 1 (En ?_));rcases bcase h4 with ⟨t2,h5⟩ | ⟨t2,h5⟩
   ·refine Xt t2 (Rg (Pp 3 ?_));obtain ⟨r2,er2,h6⟩:=bnd h5;refine Fe [] (c_field_Mul er2) rfl fok_145 ?_;refine Pp 1 (En (Rg (Pp 3 ?_)));obtain ⟨r3,er3,h7⟩:=bnd h6;refine Fe [] (c_field_Mul er3) rfl fok_145 ?_;refine Pp 1 (Ei (Bn (Tn (Rg (Pp 1 ?_)))));obtain ⟨x7,ex7,h8⟩:=bnd h7;refine w_sh (yk:=.u64) (.inr rfl) (zshr ex7) kr ?_;refine Pp 1 (Ei ?_);have h8:=Sj h8;subst h8
    exact q_go () hn1 aK (tH [] 0)
   refine Xs t2 (Tn (Rg (Pp 3 ?_)));obtain ⟨r4,er4,h9⟩:=bnd h5;refine Fe [] (c_field_Mul er4) rfl fok_145 ?_;refine Pp 1 (Ei (Bn (Tn (Rg (Pp 1 ?_)))));obtain ⟨x8,ex8,h10⟩:=bnd h9;refine w_sh (yk:=.u64) (.inr rfl) (zshr ex8) kr ?_;refine Pp 1 (Ei ?_);have h10:=Sj h10;subst h10;exact q_go () hn1 aK (tH [] 0)
  refine Xf t1 (We (Te ?_));refine q_lpX ?_;refine Be ?_;have h3:=Sj h3;subst h3;cases (show _=_ from hn1);exact q_join () trivial aK (tH [] 0)
 rintro ⟨⟩ - j;refine Tn (Sg (Pp 2 (Er ?_)));have h1:=Sj h1;subst h1;exact Ql [uN x5] [] 0
theorem c_field_Inverse {a b:Nat} {r:Nat × Int} (h:field_Inverse a b=some r):Ct Tryz.prog 175 [uN a,uN b] [] (fun v L=>v=.tuple #[uN r.1,iV r.2]∧L=[]):=by
 refine ct_intro Tryz.func175 rfl kr (fun F=>?_);unfold field_Inverse at h;refine Sg (Pp 2 (Es (Sg (Pp 2 (En ?_)))));rcases bcase h with ⟨t1,h1⟩ | ⟨t1,h1⟩
 ·refine Xt t1 (Sg (Pp 2 (Er (Tr ?_))));have h1:=Sj h1;subst h1;exact Ql [uN 0,iN 8] [] 0
 refine Xs t1 (Tn (Sg (Pp 3 ?_)));obtain ⟨x1,ex1,h2⟩:=bnd h1;refine w_bi (esubU ex1) kr ?_;obtain ⟨r1,er1,h3⟩:=bnd h2;refine Fe [] (c_field_Pow er1) rfl fok_186 ?_;refine Pp 2 (Er ?_);have h3:=Sj h3;subst h3;exact Ql [uN r1,iN 0] [] 0
theorem c_interpolate_over {a b c r:Nat} (h:interpolate_over a b c=some r):Ct Tryz.prog 149 [uN a,uN b,uN c] [] (fun v L=>v=uN r∧L=[]):=by
 refine ct_intro Tryz.func149 rfl kr (fun F=>?_);unfold interpolate_over at h;refine Sg (Pp 1 (Eg (Pp 2 ?_)));obtain ⟨r1,er1,h1⟩:=bnd h;refine Fe [] (c_field_Inverse er1) rfl fok_175 ?_;refine Pp 5 (Eg (Pp 3 ?_));obtain ⟨r2,er2,h2⟩:=bnd h1;refine Fe [] (c_field_Mul er2) rfl fok_145 ?_;refine Pp 1 (Er ?_);have h2:=Sj h2;subst h2;exact Ql [uN r2] [] 0
theorem c_poly_Scale {c d:Nat} {b:List Nat} {a:Value} {r:(List Nat)} (h:poly_Scale c d b=some r):Ct Tryz.prog 148 [uN c,uN d,a] [rU a b] (fun v L=>∃ w0:Value,v=w0∧L=[I14 w0 r]):=by
 refine ct_intro Tryz.func148 rfl kr (fun F=>?_);unfold poly_Scale at h;refine Sg (Pp 1 (Eg (Pp 1 (w_len (rd_hd 0 rfl) kr ts_60 ?_))));obtain ⟨l1,el1,h1⟩:=bnd h;refine w_mk (kd:=Ku) (kl:=.i64) (kc:=.i64) () el1 kr ts_60 ti_22 rfl kr (it0 rfl) (fun v1=>?_);refine Pp 1 (Es (Sg (Pp 1 (w_len (rd_hd 1 rfl) kr ts_60 (Pp 1 (En ?_))))));refine h_lenle (rd_lenle 1 rfl) (fun hN1=>?_)
 obtain ⟨l3,elp1,h2⟩:=bnd h1;refine h_join (X:=Unit) (fun g=>[(7,v1)]) (fun g=>[I14 v1 l3]++F) (fun _=>True) ?_ ?_
 ·refine Wb ?_;refine h_rs (fun (k1:Nat) (st:(List Nat)) (g:Unit)=>[(0,uN c),(1,uN d),(7,v1),(13,a),(14,iN b.length),(15,iN k1)]) (fun (k1:Nat) (st:(List Nat)) (g:Unit)=>[I14 v1 st,rU a b]++F) () elp1 (Nat.zero_le _) aK (tH [(0,Z),(0,Y)] 1) ?_ ?_
  ·rintro ⟨⟩ j;refine Sg (Pp 1 (Es (Xf (rgF (N:=b.length)) (We (Te (q_rzX (Be ?_)))))));exact q_join () trivial aK (tH [(0,Z)] 1)
  rintro rem k1 l2 ⟨⟩ o1 hk1 h3 hn1 j;have h3:poly_Scale_L0 c d b k1 l2=some o1:=h3;unfold poly_Scale_L0 at h3;refine Sg (Pp 1 (Es (Xt (rgT (k:=k1) (N:=b.length) hk1) (Ws (Tn (Sq (Wb (Sg (Pp 1 ?_)))))))));obtain ⟨x2,ex2,h4⟩:=bnd h3;refine w_ix (k:=.i64) (rd_hd 1 rfl) (nbd ex2) rfl kr ts_60 ti_22 ?_;refine w_ldR 1 0 rfl ex2 kr ti_22 rfl rfl ?_;rintro _
  refine Pp 2 (En (Rg (Pp 5 ?_)));obtain ⟨r2,er2,h5⟩:=bnd h4;refine Fe [] (c_field_Mul er2) rfl fok_145 ?_;obtain ⟨x3,ex3,h6⟩:=bnd h5;refine w_ix (k:=.i64) (own_hd 0 rfl) (nbd ex3) rfl kr ts_60 ti_22 ?_;obtain ⟨l4,el4,h7⟩:=bnd h6;refine w_stO (kd:=Ku) (w:=uN r2) (m:=k1) (x0:=r2) 0 () rfl (nbd ex3) (sinj el4) kr ti_22 (cv0 kr) (it0 rfl) ?_
  refine Ei (Bn (Tn (Rg (w_bi (zinc hk1 hN1) kr (Pp 1 (Ei ?_))))));have h7:=Sj h7;subst h7;exact q_rs () hn1 aK (tH [(0,Z),(0,Y)] 1)
 rintro ⟨⟩ - j;refine Tn (Sg (Pp 1 ?_));refine WI.ent (frzAt 0 rfl) ?_;obtain ⟨r3,er3,h8⟩:=bnd h2;refine Fx [(0,Y)] (c_poly_Trim er3) rfl fok_150 (fun w2=>?_);refine Pp 1 (Er ?_);have h8:=Sj h8;subst h8;exact q_end (l:=[w2]) [(0,Z)] 1 ⟨w2,rfl,rfl⟩ (.inl rfl) kr kr kr
theorem c_poly_Add {b:Nat} {f:List Nat} {c:List Nat} {d a:Value} {r:(List Nat)} (h:poly_Add b f c=some r):Ct Tryz.prog 147 [uN b,d,a] [rU d f,rU a c] (fun v L=>∃ w0:Value,v=w0∧L=[I14 w0 r]):=by
 refine ct_intro Tryz.func147 rfl kr (fun F=>?_);unfold poly_Add at h;refine Sg (Pp 1 (Eg (Pp 1 ?_)));refine w_bd (v:=.agg #[uN b,(.slice none 0 0)]) (t:=202) (ps0:=[(0,uN b)]) (ps:=[(0,uN b)]) (scI sc0) kr (fun w=>by kernel_rfl) ?_
 refine w_box (t:=202) (v:=.agg #[uN b,(.slice none 0 0)]) (cs:=[uN b,(.slice none 0 0)]) (cv0 kr) kr (fun q1=>?_);refine WI.hd (y:=blkP q1 202 [uN b,(.slice none 0 0)]) kr ?_;refine w_opP 0 rfl (fun b1 hb=>?_);subst hb;refine Pp 1 (Eg (Pp 3 (Es (Sg (Pp 1 (w_len (rd_hd 1 rfl) kr ts_60 (Pp 1 (En ?_))))))));refine WH.ent (ownNil (kd:=Ku) (e:=22)) ?_
 refine h_lenle (rd_lenle 2 rfl) (fun hN1=>?_);obtain ⟨l2,elp1,h1⟩:=bnd h;refine h_join (X:=Value) (fun g=>[(2,a),(7,(bx b1)),(8,.func (.func 173) #[(bx b1)] #[])]) (fun g=>[rU a c,I45 b1 b g,I14 g l2]++F) (fun _=>True) ?_ ?_
 ·refine Wb ?_
  refine h_rs (fun (k1:Nat) (st:(List Nat)) (g:Value)=>[(2,a),(7,(bx b1)),(8,.func (.func 173) #[(bx b1)] #[]),(18,d),(19,iN f.length),(20,iN k1)]) (fun (k1:Nat) (st:(List Nat)) (g:Value)=>[rU a c,I45 b1 b g,I14 g st,rU d f]++F) (.slice none 0 0) elp1 (Nat.zero_le _) aK (tH [(3,Y),(1,Z),(0,Z),(0,Y)] 2) ?_ ?_
  ·rintro g3 j;refine Sg (Pp 1 (Es (Xf (rgF (N:=f.length)) (We (Te (q_rzX (Be ?_)))))));exact q_join g3 trivial aK (tH [(0,Y),(1,Z),(1,Z)] 2)
  rintro rem k1 l1 g1 o1 hk1 h2 hn1 j;have h2:poly_Add_L0 b f k1 l1=some o1:=h2;unfold poly_Add_L0 at h2;refine Sg (Pp 1 (Es (Xt (rgT (k:=k1) (N:=f.length) hk1) (Ws (Tn (Sq (Wb (Sg (Pp 1 ?_)))))))));obtain ⟨x2,ex2,h3⟩:=bnd h2;refine w_ix (k:=.i64) (rd_hd 3 rfl) (nbd ex2) rfl kr ts_60 ti_22 ?_;refine w_ldR 3 0 rfl ex2 kr ti_22 rfl rfl ?_;rintro _
  refine Pp 2 (En (Rg (Pp 3 ?_)));obtain ⟨r2,er2,h4⟩:=bnd h3;refine Fx [(1,Z),(1,Z)] (c_poly_sum_put er2) rfl fok_173 (fun w1=>?_);refine Ei (Bn (Tn (Rg (w_bi (zinc hk1 hN1) kr (Pp 1 (Ei ?_))))));have h4:=Sj h4;subst h4;exact q_rs w1 hn1 aK (tH [(2,Y),(0,Z),(0,Z),(1,Y)] 2)
 rintro g2 - j;refine Tn (Sq (Sg (Pp 1 (w_len (rd_hd 0 rfl) kr ts_60 (Pp 1 (En ?_))))));refine h_lenle (rd_lenle 0 rfl) (fun hN2=>?_);obtain ⟨l4,elp2,h5⟩:=bnd h1;refine h_join (X:=Value) (fun g=>[(7,(bx b1))]) (fun g=>[I45 b1 b g,I14 g l4]++F) (fun _=>True) ?_ ?_
 ·refine Wb ?_
  refine h_rs (fun (k2:Nat) (st:(List Nat)) (g:Value)=>[(7,(bx b1)),(8,.func (.func 173) #[(bx b1)] #[]),(30,a),(31,iN c.length),(32,iN k2)]) (fun (k2:Nat) (st:(List Nat)) (g:Value)=>[I45 b1 b g,I14 g st,rU a c]++F) g2 elp2 (Nat.zero_le _) aK (tH [(1,Z),(1,Z),(0,Y)] 1) ?_ ?_
  ·rintro g6 j;refine Sg (Pp 1 (Es (Xf (rgF (N:=c.length)) (We (Te (q_rzX (Be ?_)))))));exact q_join g6 trivial aK (tH [(0,Z),(0,Z)] 1)
  rintro rem k2 l3 g4 o2 hk2 h6 hn2 j;have h6:poly_Add_L1 b c k2 l3=some o2:=h6;unfold poly_Add_L1 at h6;refine Sg (Pp 1 (Es (Xt (rgT (k:=k2) (N:=c.length) hk2) (Ws (Tn (Sq (Wb (Sg (Pp 1 ?_)))))))));obtain ⟨x4,ex4,h7⟩:=bnd h6;refine w_ix (k:=.i64) (rd_hd 2 rfl) (nbd ex4) rfl kr ts_60 ti_22 ?_;refine w_ldR 2 0 rfl ex4 kr ti_22 rfl rfl ?_;rintro _
  refine Pp 2 (En (Rg (Pp 3 ?_)));obtain ⟨r4,er4,h8⟩:=bnd h7;refine Fx [(0,Z),(0,Z)] (c_poly_sum_put er4) rfl fok_173 (fun w2=>?_);refine Ei (Bn (Tn (Rg (w_bi (zinc hk2 hN2) kr (Pp 1 (Ei ?_))))));have h8:=Sj h8;subst h8;exact q_rs w2 hn2 aK (tH [(0,Z),(0,Z),(0,Y)] 1)
 rintro g5 - j;refine Tn (Sg (Pp 3 (w_ldB 0 1 rfl kr ti_60 rfl rfl ?_)));refine WI.ent (frzAt 1 rfl) ?_;obtain ⟨r5,er5,h9⟩:=bnd h5;refine Fx [(0,Y)] (c_poly_Trim er5) rfl fok_150 (fun w3=>?_);refine Pp 1 (Er ?_);have h9:=Sj h9;subst h9;exact q_end (l:=[w3]) [(0,Z)] 2 ⟨w3,rfl,rfl⟩ (.inl rfl) kr kr kr
theorem c_interpolate_Polynomial {c:Nat} {b:List T_api_Point} {a:Value} {r:(List Nat) × Int} (h:interpolate_Polynomial c b=some r):Ct Tryz.prog 84 [uN c,a] [I71 a b] (fun v L=>∃ w0:Value,v=.tuple #[w0,iV r.2]∧L=[I14 w0 r.1]):=by
 refine ct_intro Tryz.func84 rfl kr (fun F=>?_);unfold interpolate_Polynomial at h;refine Sg ?_;refine w_box (t:=22) (v:=uN c) (cs:=[uN c]) (cv0 kr) kr (fun q1=>?_);refine WI.hd (y:=blkP q1 22 [uN c]) kr ?_;refine w_opP 0 rfl (fun b1 hb=>?_);subst hb;refine Pp 2 (Eg (Pp 1 (Es (Sg (Pp 1 (w_len (rd_hd 1 rfl) kr ts_73 (Pp 1 (En ?_))))))))
 refine WH.ent (ownNil (kd:=Ku) (e:=22)) ?_;refine h_lenle (rd_lenle 2 rfl) (fun hN1=>?_);obtain ⟨l2,elp1,h1⟩:=bnd h;refine h_join (X:=Value) (fun g=>[(1,a),(2,(bx b1)),(6,g)]) (fun g=>[I71 a b,I30 b1 c,I14 g l2]++F) (fun _=>True) ?_ ?_
 ·refine Wb ?_
  refine h_rs (fun (k1:Nat) (st:(List Nat)) (g:Value)=>[(1,a),(2,(bx b1)),(6,g),(14,a),(15,iN b.length),(16,iN k1)]) (fun (k1:Nat) (st:(List Nat)) (g:Value)=>[I71 a b,I30 b1 c,I14 g st]++F) (.slice none 0 0) elp1 (Nat.zero_le _) aK (tH [(2,Y),(1,Z),(0,Z)] 1) ?_ ?_
  ·rintro g3 j;refine Sg (Pp 1 (Es (Xf (rgF (N:=b.length)) (We (Te (q_rzX (Be ?_)))))));exact q_join g3 trivial aK (tH [(0,Y),(1,Z),(1,Z)] 1)
  rintro rem k1 l1 g1 o1 hk1 h2 hn1 j;have h2:interpolate_Polynomial_L0 b k1 l1=some o1:=h2;unfold interpolate_Polynomial_L0 at h2;refine Sg (Pp 1 (Es (Xt (rgT (k:=k1) (N:=b.length) hk1) (Ws (Tn (Sq (Wb (Sg ?_))))))));obtain ⟨x2,ex2,h3⟩:=bnd h2;refine w_ix (k:=.i64) (rd_hd 0 rfl) (nbd ex2) rfl kr ts_73 ti_75 ?_;refine w_ldR 0 0 rfl ex2 kr ti_75 rfl rfl ?_;rintro ⟨_,_⟩
  refine w_al kr ti_75 (fun q2=>?_);refine WI.hd (y:=blkP q2 75 [uN 0,uN 0]) kr ?_;refine w_opP 0 rfl (fun b2 hb=>?_);subst hb;refine w_stB (v:=.agg #[uN x2.X,uN x2.Y]) (off:=0) (cs:=[uN x2.X,uN x2.Y]) 0 rfl (cv0 kr) kr ti_75 rfl rfl (oC (fun _ _=>rfl) (oC (fun _ _=>rfl) oN)) ?_
  refine WI.hd (y:=I48 b2 x2.X x2.Y) kr ?_;refine En (Rg (Pp 2 (w_ldB 0 0 rfl kr ti_22 rfl rfl ?_)));refine w_lt (kd:=Ku) (t:=60) (len:=1) (ps0:=[(0,uN x2.X)]) (ps:=[(0,uN x2.X)]) ([x2.X]:List Nat) _ (rowC (x:=x2.X) (g:=()) (it0 rfl) row0) (scI sc0) kr ts_60 ti_22 kr rfl rfl (fun v1=>?_)
  obtain ⟨l3,el3,h4⟩:=bnd h3;refine w_app 4 rfl (own_src 0 rfl) el3 kr ts_60 ti_22 rfl (fun v2=>?_);refine Pp 1 (Ei (Bn (Tn (Rg (w_bi (zinc hk1 hN1) kr (Pp 1 (Ei ?_)))))));have h4:=Sj h4;subst h4;exact q_rs v2 hn1 aK (tH [(3,Y),(4,Z),(0,Z)] 3)
 rintro g2 - j;refine Tn (Sq (Sg (Pp 1 ?_)));refine WI.ent (frzAt 2 rfl) ?_;obtain ⟨r2,er2,h5⟩:=bnd h1;refine Fe [(0,Y)] (c_interpolate_unlike er2) rfl fok_140 ?_;refine Pp 1 (En ?_);rcases bcase h5 with ⟨t1,h6⟩ | ⟨t1,h6⟩
 ·refine Xt t1 (Sg (Pp 2 (Er (Tr ?_))));refine QH.ent (ownNil (kd:=Ku) (e:=22)) ?_;have h6:=Sj h6;subst h6;exact q_end (l:=[(.slice none 0 0),iN 1]) [(0,Z)] 3 ⟨(.slice none 0 0),rfl,rfl⟩ (.inl rfl) kr kr kr
 refine Xs t1 (Tn (Sg (Pp 1 (Es (Sg (Pp 1 (w_len (rd_hd 1 rfl) kr ts_73 (Pp 1 (En ?_)))))))));refine WH.ent (ownNil (kd:=Ku) (e:=22)) ?_;refine h_lenle (rd_lenle 2 rfl) (fun hN2=>?_);obtain ⟨l5,elp2,h7⟩:=bnd h6;refine h_join (X:=Value) (fun g=>[(9,g)]) (fun g=>[I14 g l5]++F) (fun _=>True) ?_ ?_
 ·refine Wb ?_
  refine h_rs (fun (k2:Nat) (st:(List Nat)) (g:Value)=>[(2,(bx b1)),(6,g2),(9,g),(29,a),(30,iN b.length),(31,iN k2)]) (fun (k2:Nat) (st:(List Nat)) (g:Value)=>[I30 b1 c,rU g2 l2,I14 g st,I71 a b]++F) (.slice none 0 0) elp2 (Nat.zero_le _) aK (tH [(3,Z),(1,Y),(0,Z),(1,Y)] 2) ?_ ?_
  ·rintro g6 j;refine Sg (Pp 1 (Es (Xf (rgF (N:=b.length)) (We (Te (q_rzX (Be ?_)))))));exact q_join g6 trivial aK (tH [(2,Z)] 3)
  rintro rem k2 l4 g4 o2 hk2 h8 hn2 j;have h8:interpolate_Polynomial_L1 c b l2 k2 l4=some o2:=h8;unfold interpolate_Polynomial_L1 at h8;refine Sg (Pp 1 (Es (Xt (rgT (k:=k2) (N:=b.length) hk2) (Ws (Tn (Sq (Wb (Sg (Pp 1 ?_)))))))));obtain ⟨x4,ex4,h9⟩:=bnd h8;refine w_ix (k:=.i64) (rd_hd 3 rfl) (nbd ex4) rfl kr ts_73 ti_75 ?_;refine w_ldR 3 0 rfl ex4 kr ti_75 rfl rfl ?_
  rintro ⟨_,_⟩;refine w_al kr ti_75 (fun q3=>?_);refine WI.hd (y:=blkP q3 75 [uN 0,uN 0]) kr ?_;refine w_opP 0 rfl (fun b3 hb=>?_);subst hb;refine Pp 1 ?_
  refine w_stB (v:=.agg #[uN x4.X,uN x4.Y]) (off:=0) (cs:=[uN x4.X,uN x4.Y]) 0 rfl (cv0 kr) kr ti_75 rfl rfl (oC (fun _ _=>rfl) (oC (fun _ _=>rfl) oN)) ?_;refine WI.hd (y:=I48 b3 x4.X x4.Y) kr ?_;refine Eg ?_
  refine w_lt (kd:=Ku) (t:=60) (len:=1) (ps0:=[(0,uN 1)]) (ps:=[(0,uN 1)]) ([1]:List Nat) _ (rowC (x:=1) (g:=()) (it0 rfl) row0) (scI sc0) kr ts_60 ti_22 kr rfl rfl (fun v3=>?_);refine w_al kr ti_60 (fun q4=>?_);refine WI.hd (y:=blkP q4 60 [(.slice none 0 0)]) kr ?_;refine w_opP 0 rfl (fun b4 hb=>?_);subst hb
  refine w_al kr ti_22 (fun q5=>?_);refine WI.hd (y:=blkP q5 22 [uN 0]) kr ?_;refine w_opP 0 rfl (fun b5 hb=>?_);subst hb;refine w_stB (v:=v3) (off:=0) (cs:=[v3]) 1 rfl (cvS (own_hd 2 rfl)) kr ti_60 rfl rfl (oC (sl_one (own_hd 2 rfl)) oN) ?_;refine WI.hd (y:=I65 b4 v3) kr ?_
  refine w_stB (v:=uN 1) (off:=0) (cs:=[uN 1]) 1 rfl (cv0 kr) kr ti_22 rfl rfl (oC (fun _ _=>rfl) oN) ?_;refine WI.hd (y:=blkP (bx b5) 22 [uN 1]) kr ?_;refine Eg (Pp 3 ?_);obtain ⟨r4,er4,h10⟩:=bnd h9
  refine Fx [(5,Y),(4,Z),(1,Z),(1,Z),(0,Z),(0,Z)] (c_interpolate_others_interpolate_Polynomial_1 er4) rfl fok_141 (fun w2=>?_);refine En ?_;refine WH.ent (frzAt 2 rfl) ?_;refine WH.ent (frzAt 6 rfl) ?_;obtain ⟨r5,er5,h11⟩:=bnd h10;obtain ⟨r6,er6,h12⟩:=bnd h11;obtain ⟨r7,er7,h13⟩:=bnd h12
  refine h_fm [0,0,0,0,0,16,0,120,0,508,1023,2047] ⟨8,[0,0,0,0,0,0,0,0,0,1,1,0],[],[(0,[(0,2)]),(2,[(0,2)]),(3,[(0,2)]),(5,[(0,5)]),(6,[(0,4)]),(8,[(0,3)])],[(9,[(0,1)]),(10,[(10,0),(0,0)])]⟩ (fun γ=>[uN c,g4,uN c,uN c,.pointer (some ⟨b3,1,none⟩),uN x4.Y,uN r4.2,uN r5,w2,(γ 9 0),(γ 10 0),(γ 10 0)]) (fun i γ=>match i with | 9=>[rU (γ 9 0) r6] | 10=>[I14 (γ 10 0) r7] | _=>[]) [1,4,11] tryz_mix Tb_ok ?_ ?_
  ·refine ⟨?_,?_,?_,?_,?_,?_,?_,?_,?_,trivial⟩
   ·intro γ F;refine w_ldB 0 0 rfl kr ti_22 rfl rfl ?_;exact wE (gl []) [(0,Z)] 0
   ·intro γ F;refine w_ldB 0 0 rfl kr ti_22 rfl rfl ?_;exact wE (gl []) [(0,Z)] 0
   ·intro γ F;refine w_ldB 0 0 rfl kr ti_22 rfl rfl ?_;exact wE (gl []) [(0,Z)] 0
   ·intro γ F;refine w_ldB 0 1 rfl kr ti_22 rfl rfl ?_;exact wE (gl []) [(0,Z)] 0
   ·intro γ F;refine w_ldB 0 0 rfl kr ti_22 rfl rfl ?_;exact wE (gl []) [(0,Z)] 0
   ·intro γ F;refine Fe [] (c_interpolate_over er5) rfl fok_149 ?_;exact wE (gl []) [] 0
   ·intro γ F;refine w_ldB 0 0 rfl kr ti_60 rfl rfl ?_;exact wE (gl []) [(0,Z)] 0
   ·intro γ F;refine Fx [(0,Y)] (c_poly_Scale er6) rfl fok_148 (fun w5=>?_);refine WI.ent (frzAt 0 rfl) ?_;exact wE (gl [w5]) [(0,Y)] 2
   intro γ F;refine Fx [(1,Y),(0,Y)] (c_poly_Add er7) rfl fok_147 (fun w6=>?_);exact wE (gl [w6]) [(0,Z)] 2
  intro γ1;refine Bn (Tn (Rg (w_bi (zinc hk2 hN2) kr (Pp 1 (Ei ?_)))));have h13:=Sj h13;subst h13;exact q_rs (γ1 10 0) hn2 aK (tH [(2,Z),(5,Y),(8,Z),(6,Y)] 8)
 rintro g5 - j;refine Tn (Sg (Pp 1 ?_));refine WI.ent (frzAt 0 rfl) ?_;obtain ⟨r8,er8,h14⟩:=bnd h7;refine Fx [(0,Y)] (c_poly_Trim er8) rfl fok_150 (fun w7=>?_);refine Pp 2 (Er ?_);have h14:=Sj h14;subst h14;exact q_end (l:=[w7,iN 0]) [(0,Z)] 1 ⟨w7,rfl,rfl⟩ (.inl rfl) kr kr kr
theorem c_poly_Coefficient {c:List Nat} {d:Int} {a:Value} {r:Nat} (h:poly_Coefficient c d=some r):Ct Tryz.prog 86 [a,iV d] [rU a c] (fun v L=>v=uN r∧L=[]):=by
 refine ct_intro Tryz.func86 rfl kr (fun F=>?_);unfold poly_Coefficient at h;refine Sg (Pp 1 (Es (Sg (Pp 3 ?_))));rcases bcase h with ⟨t1,h1⟩ | ⟨t1,h1⟩
 ·refine Kb 7 t1 (Pp 5 (En ?_));refine h_ct (b:=true) rfl kr ?_;refine Sg (Pp 1 (Er (Tr ?_)));have h1:=Sj h1;subst h1;exact Ql [uN 0] [] 1
 refine Kb 7 t1 (Pp 2 (w_len (rd_hd 0 rfl) kr ts_60 (Pp 2 (En ?_))));rcases bcase h1 with ⟨t2,h2⟩ | ⟨t2,h2⟩
 ·refine Xt t2 (Sg (Pp 1 (Er (Tr ?_))));have h2:=Sj h2;subst h2;exact Ql [uN 0] [] 1
 refine Xs t2 (Tn (Sg (Pp 2 ?_)));obtain ⟨x1,ex1,h3⟩:=bnd h2;refine w_ix (k:=.i64) (rd_hd 0 rfl) (ib ex1) (iz ex1) kr ts_60 ti_22 ?_;refine w_ldR 0 0 rfl (ig ex1) kr ti_22 rfl rfl ?_;rintro _;refine Pp 1 (Er ?_);have h3:=Sj h3;subst h3;exact Ql [uN x1] [] 1
theorem c_shamir_Reconstruct {c:Nat} {d:Int} {b:List T_api_Point} {a:Value} {r:Nat × Int} (h:shamir_Reconstruct c d b=some r):Ct Tryz.prog 34 [uN c,iV d,a] [I71 a b] (fun v L=>v=.tuple #[uN r.1,iV r.2]∧L=[]):=by
 refine ct_intro Tryz.func34 rfl kr (fun F=>?_);unfold shamir_Reconstruct at h;refine Sg (Pp 2 (Es (Sq ?_)));obtain ⟨x1,ej1,h1⟩:=bnd h;refine h_join (X:=Unit) (fun g=>[(0,uN c),(1,iV d),(2,a),(22,.bool x1)]) (fun g=>[I71 a b]++F) (fun _=>True) ?_ ?_
 ·refine Rg (Pp 3 ?_);rcases bcase ej1 with ⟨t1,h2⟩ | ⟨t1,h2⟩
  ·refine Kb 12 t1 (Pp 10 (Ei ?_));cases h2;exact q_join () trivial aK (tH [(0,Y)] 1)
  refine Kb 12 t1 (Pp 1 ?_);obtain ⟨r1,er1,h3⟩:=bnd h2;refine Fe [(0,Y)] (c_shamir_placed er1) rfl fok_83 ?_;refine Pp 3 ?_;rcases bcase h3 with ⟨t2,h4⟩ | ⟨t2,h4⟩
  ·refine Kb 17 t2 (Pp 5 (Ei ?_));cases h4;exact q_join () trivial aK (tH [(0,Y)] 1)
  refine Kb 17 t2 (Pp 1 (w_len (rd_hd 0 rfl) kr ts_73 (Pp 3 (Ei ?_))));cases h4;exact q_join () trivial aK (tH [(0,Y)] 1)
 rintro ⟨⟩ - j;refine Tn ?_;rcases bcase h1 with ⟨t3,h5⟩ | ⟨t3,h5⟩
 ·refine Xt t3 (Sg (Pp 2 (Er (Tr ?_))));have h5:=Sj h5;subst h5;exact Ql [uN 0,iN 1] [] 1
 refine Xs t3 (Tn (Sg (Pp 2 ?_)));obtain ⟨r2,er2,h6⟩:=bnd h5;refine Fx [(0,Y)] (c_interpolate_Polynomial er2) rfl fok_84 (fun w2=>?_);refine Pp 5 (Es (Sg (Pp 2 (En ?_))));rcases bcase h6 with ⟨t4,h7⟩ | ⟨t4,h7⟩
 ·refine Xt t4 (Sg (Pp 3 (Er (Tr ?_))));have h7:=Sj h7;subst h7;exact Ql [uN 0,iV r2.2] [] 2
 refine Xs t4 (Tn (Sq (Sg (Pp 1 ?_))));refine WI.ent (frzAt 0 rfl) ?_;obtain ⟨r3,er3,h8⟩:=bnd h7;refine Fe [(0,Y)] (c_poly_Degree er3) rfl fok_85 ?_;refine Pp 2 (En ?_);rcases bcase h8 with ⟨t5,h9⟩ | ⟨t5,h9⟩
 ·refine Xt t5 (Sg (Pp 2 (Er (Tr ?_))));have h9:=Sj h9;subst h9;exact Ql [uN 0,iN 9] [] 2
 refine Xs t5 (Tn (Sg (Pp 1 ?_)));obtain ⟨r4,er4,h10⟩:=bnd h9;refine Fe [(0,Y)] (c_poly_Coefficient er4) rfl fok_86 ?_;refine Pp 2 (Er ?_);have h10:=Sj h10;subst h10;exact Ql [uN r4,iN 0] [] 2
theorem c_privityref12_ExtendCoalition {c:T_api_Params} {d:List Int} {a:Value} {r:(List Int)} (h:privityref12_ExtendCoalition c d=some r):Ct Tryz.prog 87 [(aP c),a] [rI a d] (fun v L=>∃ w0:Value,v=w0∧L=[I51 w0 r]):=by
 refine ct_intro Tryz.func87 rfl kr (fun F=>?_);unfold privityref12_ExtendCoalition at h;refine Sg ?_;refine w_box (t:=24) (v:=(aP c)) (cs:=(pP c [])) (cv0 kr) kr (fun q1=>?_);refine WI.hd (y:=I70 q1 c) kr ?_
 refine w_opP 0 rfl (fun b1 hb=>?_);subst hb;refine Pp 1 (Eg (Pp 1 (w_ldB 0 2 rfl kr ti_3 rfl rfl (Pp 1 (w_len (rd_hd 1 rfl) kr ts_25 ?_)))));obtain ⟨x1,ex1,h1⟩:=bnd h;refine w_bi (zsubI ex1) kr (Pp 1 (Eg (Pp 1 (Es (Sg (Pp 1 (En ?_)))))));refine WH.ent (ownNil (kd:=Ki) (e:=3)) ?_;obtain ⟨u1,eu1,h2⟩:=bnd h1;have hN1:=ckN_some eu1;obtain ⟨⟨x4,l2⟩,elp1,h3⟩:=bnd h2
 refine h_join (X:=Value) (fun g=>[(6,g)]) (fun g=>[I51 g l2]++F) (fun _=>True) ?_ ?_
 ·refine Wb ?_
  refine h_rs (fun (k1:Nat) (st:Int × (List Int)) (g:Value)=>[(1,a),(2,(bx b1)),(5,iV st.1),(6,g),(7,iN k1)]) (fun (k1:Nat) (st:Int × (List Int)) (g:Value)=>[rI a d,I21 b1 c,I51 g st.2]++F) (.slice none 0 0) elp1 (Nat.le_max_left ..) aK (tH [(2,Y),(1,Z),(0,Z)] 1) ?_ ?_
  ·rintro g3 j;refine Sq (Sg (Pp 2 (w_ldB 1 1 rfl kr ti_3 rfl rfl (Pp 1 (En ?_)))));refine h_cf (b:=(decide ((((max 1 (c.N+1).toNat):Nat):Int)≤c.N))) rgEF kr ?_;refine We (Te (q_rzX (Be ?_)));exact q_join g3 trivial aK (tH [(2,Z)] 2)
  rintro rem k1 ⟨x2,l1⟩ g1 o1 hk1 h4 hn1 j;have h4:privityref12_ExtendCoalition_L0 d k1 x2 l1=some o1:=h4;unfold privityref12_ExtendCoalition_L0 at h4;refine Sq (Sg (Pp 2 (w_ldB 1 1 rfl kr ti_3 rfl rfl (Pp 1 (En ?_)))));refine h_ct (b:=(decide ((k1:Int)≤c.N))) (rgET hk1) kr ?_;refine Ws (Tn (Sq (Wb (Sg (Pp 2 ?_)))));obtain ⟨r2,er2,h5⟩:=bnd h4
  refine Fe [(0,Y)] (c_privityref12_In er2) rfl fok_78 ?_;refine En ?_;rcases bcase h5 with ⟨t1,h6⟩ | ⟨t1,h6⟩
  ·refine Xt t1 (Rg (Pp 2 ?_));refine w_lt (kd:=Ki) (t:=25) (len:=1) (ps0:=[(0,iN k1)]) (ps:=[(0,iN k1)]) ([(k1:Int)]:List Int) _ (rowC (x:=(k1:Int)) (g:=()) (it0 rfl) row0) (scI sc0) kr ts_25 ti_3 kr rfl rfl (fun v1=>?_);obtain ⟨l3,el3,h7⟩:=bnd h6
   refine w_app 3 rfl (own_src 0 rfl) el3 kr ts_25 ti_3 rfl (fun v2=>?_);refine Pp 1 (Ei (Bn (Tn (Rg (Pp 1 (w_bi (zinc hk1 hN1) kr (Pp 1 (Ei ?_))))))));have h7:=Sj h7;subst h7;exact q_rs v2 hn1 aK (tH [(2,Y),(3,Z),(0,Z)] 2)
  refine Xf t1 (Sg (Pp 2 (En ?_)));rcases bcase h6 with ⟨t2,h8⟩ | ⟨t2,h8⟩
  ·refine Xt t2 (Sg (Pp 2 ?_));refine w_lt (kd:=Ki) (t:=25) (len:=1) (ps0:=[(0,iN k1)]) (ps:=[(0,iN k1)]) ([(k1:Int)]:List Int) _ (rowC (x:=(k1:Int)) (g:=()) (it0 rfl) row0) (scI sc0) kr ts_25 ti_3 kr rfl rfl (fun v3=>?_);obtain ⟨l4,el4,h9⟩:=bnd h8
   refine w_app 3 rfl (own_src 0 rfl) el4 kr ts_25 ti_3 rfl (fun v4=>?_);refine Pp 1 (En (Rg (Pp 1 ?_)));obtain ⟨x5,ex5,h10⟩:=bnd h9;refine w_bi (zsubI ex5) kr (Pp 1 (Ei (Bn (Tn (Rg (Pp 1 (w_bi (zinc hk1 hN1) kr (Pp 1 (Ei ?_)))))))));have h10:=Sj h10;subst h10;exact q_rs v4 hn1 aK (tH [(2,Y),(3,Z),(0,Z)] 2)
  refine Xs t2 (Bn (Tn (Rg (Pp 1 (w_bi (zinc hk1 hN1) kr (Pp 1 (Ei ?_)))))));have h8:=Sj h8;subst h8;exact q_rs g1 hn1 aK (tH [(0,Y),(1,Z),(1,Z)] 1)
 rintro g2 - j;refine Tn (Sg (Pp 2 (Er ?_)));have h3:=Sj h3;subst h3;exact q_end (l:=[g2]) [(0,Z)] 0 ⟨g2,rfl,rfl⟩ (.inl rfl) kr kr kr
theorem c_privityref01_Pow {a b c r:Nat} (h:privityref01_Pow a b c=some r):Ct Tryz.prog 151 [uN a,uN b,uN c] [] (fun v L=>v=uN r∧L=[]):=by
 refine ct_intro Tryz.func151 rfl kr (fun F=>?_);unfold privityref01_Pow at h;refine Sg (Pp 1 (Eg (Pp 1 (Es ?_))));obtain ⟨x5,elp1,h1⟩:=bnd h;refine h_join (X:=Unit) (fun g=>[(7,uN x5)]) (fun g=>[]++F) (fun _=>True) ?_ ?_
 ·refine Wb ?_;refine h_lp (fun (st:Nat × Nat × Nat) (g:Unit)=>[(0,uN a),(1,uN st.1),(2,uN st.2.1),(7,uN st.2.2)]) (fun (st:Nat × Nat × Nat) (g:Unit)=>[]++F) () elp1 aK (tH [] 0) ?_;rintro kk ⟨x1,x2,x3⟩ ⟨⟩ o1 h2 hn1 j;have h2:privityref01_Pow_L0 a x1 x2 x3=some o1:=h2;unfold privityref01_Pow_L0 at h2;refine Sq (Sg (Pp 2 (En ?_)))
  rcases bcase h2 with ⟨t1,h3⟩ | ⟨t1,h3⟩
  ·refine Xt t1 (Ws (Tn (Wb (Sq (Sg (Pp 1 ?_))))));obtain ⟨x6,ex6,h4⟩:=bnd h3;refine w_bi (zremU ex6) kr (Pp 1 (En ?_));rcases bcase h4 with ⟨t2,h5⟩ | ⟨t2,h5⟩
   ·refine Xt t2 (Rg (Pp 3 ?_));obtain ⟨r2,er2,h6⟩:=bnd h5;refine Fe [] (c_privityref01_Mul er2) rfl fok_38 ?_;refine Pp 1 (Eg (Pp 3 ?_));obtain ⟨r3,er3,h7⟩:=bnd h6;refine Fe [] (c_privityref01_Mul er3) rfl fok_38 ?_;refine Pp 1 (En (Rg (Pp 1 ?_)));obtain ⟨x7,ex7,h8⟩:=bnd h7;refine w_bi (zdivU ex7) kr (Pp 1 (Ei (Bn ?_)));have h8:=Sj h8;subst h8;exact q_go () hn1 aK (tH [] 0)
   refine Xs t2 (Tn (Sg (Pp 3 ?_)));obtain ⟨r4,er4,h9⟩:=bnd h5;refine Fe [] (c_privityref01_Mul er4) rfl fok_38 ?_;refine Pp 1 (En (Rg (Pp 1 ?_)));obtain ⟨x8,ex8,h10⟩:=bnd h9;refine w_bi (zdivU ex8) kr (Pp 1 (Ei (Bn ?_)));have h10:=Sj h10;subst h10;exact q_go () hn1 aK (tH [] 0)
  refine Xf t1 (We (Te ?_));refine q_lpX ?_;refine Be ?_;have h3:=Sj h3;subst h3;cases (show _=_ from hn1);exact q_join () trivial aK (tH [] 0)
 rintro ⟨⟩ - j;refine Tn (Sg (Pp 2 (Er ?_)));have h1:=Sj h1;subst h1;exact Ql [uN x5] [] 0
theorem c_privityref01_Inverse {a b:Nat} {r:Nat × Int} (h:privityref01_Inverse a b=some r):Ct Tryz.prog 88 [uN a,uN b] [] (fun v L=>v=.tuple #[uN r.1,iV r.2]∧L=[]):=by
 refine ct_intro Tryz.func88 rfl kr (fun F=>?_);unfold privityref01_Inverse at h;refine Sg (Pp 2 (Es (Sg (Pp 2 (En ?_)))));rcases bcase h with ⟨t1,h1⟩ | ⟨t1,h1⟩
 ·refine Xt t1 (Sg (Pp 2 (Er (Tr ?_))));have h1:=Sj h1;subst h1;exact Ql [uN 0,iN 8] [] 0
 refine Xs t1 (Tn (Sg (Pp 3 ?_)));obtain ⟨x1,ex1,h2⟩:=bnd h1;refine w_bi (esubU ex1) kr ?_;obtain ⟨r1,er1,h3⟩:=bnd h2;refine Fe [] (c_privityref01_Pow er1) rfl fok_151 ?_;refine Pp 2 (Er ?_);have h3:=Sj h3;subst h3;exact Ql [uN r1,iN 0] [] 0
theorem c_privityref01_Neg {a b r:Nat} (h:privityref01_Neg a b=some r):Ct Tryz.prog 90 [uN a,uN b] [] (fun v L=>v=uN r∧L=[]):=by
 refine ct_intro Tryz.func90 rfl kr (fun F=>?_);unfold privityref01_Neg at h;refine Sg (Pp 1 (Eg (Pp 2 ?_)));obtain ⟨x1,ex1,h1⟩:=bnd h;refine w_bi (esubU ex1) kr (Pp 1 ?_);obtain ⟨x2,ex2,h2⟩:=bnd h1;refine w_bi (zremU ex2) kr (Pp 1 (Er ?_));have h2:=Sj h2;subst h2;exact Ql [uN x2] [] 0
theorem c_privityref04_Mul {f:Nat} {c:List Nat} {d:List Nat} {a b:Value} {r:(List Nat)} (h:privityref04_Mul f c d=some r):Ct Tryz.prog 89 [uN f,a,b] [rU a c,rU b d] (fun v L=>∃ w0:Value,v=w0∧L=[I14 w0 r]):=by
 refine ct_intro Tryz.func89 rfl kr (fun F=>?_);unfold privityref04_Mul at h;refine Sg (Pp 1 (Es (Sq ?_)));obtain ⟨x1,ej1,h1⟩:=bnd h;refine h_join (X:=Unit) (fun g=>[(0,uN f),(1,a),(2,b),(17,.bool x1)]) (fun g=>[rU a c,rU b d]++F) (fun _=>True) ?_ ?_
 ·refine Rg (Pp 1 (w_len (rd_hd 0 rfl) kr ts_60 (Pp 2 ?_)));rcases bcase ej1 with ⟨t1,h2⟩ | ⟨t1,h2⟩
  ·refine Kb 13 t1 (Pp 4 (Ei ?_));cases h2;exact q_join () trivial aK (tH [(0,Y),(1,Y)] 2)
  refine Kb 13 t1 (Pp 1 (w_len (rd_hd 1 rfl) kr ts_60 (Pp 2 (Ei ?_))));cases h2;exact q_join () trivial aK (tH [(0,Y),(1,Y)] 2)
 rintro ⟨⟩ - j;refine Tn ?_;rcases bcase h1 with ⟨t2,h3⟩ | ⟨t2,h3⟩
 ·refine Xt t2 (Sg (Pp 1 (Er (Tr ?_))));refine QH.ent (ownNil (kd:=Ku) (e:=22)) ?_;have h3:=Sj h3;subst h3;exact q_end (l:=[(.slice none 0 0)]) [(0,Z)] 2 ⟨(.slice none 0 0),rfl,rfl⟩ (.inl rfl) kr kr kr
 refine Xs t2 (Tn (Sg (Pp 1 (w_len (rd_hd 0 rfl) kr ts_60 (Pp 1 (w_len (rd_hd 1 rfl) kr ts_60 ?_))))));obtain ⟨x2,ex2,h4⟩:=bnd h3;refine w_bi (zaddI ex2) kr ?_;obtain ⟨x3,ex3,h5⟩:=bnd h4;refine w_bi (zsubI ex3) kr ?_;obtain ⟨l1,el1,h6⟩:=bnd h5;refine w_mk (kd:=Ku) (kl:=.i64) (kc:=.i64) () el1 kr ts_60 ti_22 rfl kr (it0 rfl) (fun v1=>?_);refine Pp 1 (Es (Sg (Pp 1 (En ?_))))
 refine h_lenle (rd_lenle 1 rfl) (fun hN1=>?_);obtain ⟨l3,elp1,h7⟩:=bnd h6;refine h_join (X:=Unit) (fun g=>[(7,v1)]) (fun g=>[I14 v1 l3]++F) (fun _=>True) ?_ ?_
 ·refine Wb ?_;refine h_rs (fun (k1:Nat) (st:(List Nat)) (g:Unit)=>[(0,uN f),(1,a),(2,b),(7,v1),(8,iN k1)]) (fun (k1:Nat) (st:(List Nat)) (g:Unit)=>[rU a c,rU b d,I14 v1 st]++F) () elp1 (Nat.zero_le _) aK (tH [(1,Y),(2,Y),(0,Z)] 2) ?_ ?_
  ·rintro ⟨⟩ j;refine Sq (Sg (Pp 2 (w_len (rd_hd 0 rfl) kr ts_60 (Pp 1 (En (Xf (rgF (N:=c.length)) (We (Te (q_rzX (Be ?_))))))))));exact q_join () trivial aK (tH [(2,Z)] 2)
  rintro rem k1 l2 ⟨⟩ o1 hk1 h8 hn1 j;have h8:privityref04_Mul_L0 f c d k1 l2=some o1:=h8;unfold privityref04_Mul_L0 at h8;refine Sq (Sg (Pp 2 (w_len (rd_hd 0 rfl) kr ts_60 (Pp 1 (En (Xt (rgT (k:=k1) (N:=c.length) hk1) (Ws (Tn (Sq (Wb (Sg (Pp 1 (En ?_)))))))))))));refine h_lenle (rd_lenle 1 rfl) (fun hN2=>?_);obtain ⟨l5,elp2,h9⟩:=bnd h8
  refine h_join (X:=Unit) (fun g=>[(0,uN f),(1,a),(2,b),(7,v1),(8,iN k1)]) (fun g=>[rU a c,rU b d,I14 v1 l5]++F) (fun _=>True) ?_ ?_
  ·refine Wb ?_;refine h_rs (fun (k2:Nat) (st:(List Nat)) (g:Unit)=>[(0,uN f),(1,a),(2,b),(7,v1),(8,iN k1),(9,iN k2)]) (fun (k2:Nat) (st:(List Nat)) (g:Unit)=>[rU a c,rU b d,I14 v1 st]++F) () elp2 (Nat.zero_le _) aK (tH [(0,Y),(1,Y),(2,Z)] 2) ?_ ?_
   ·rintro ⟨⟩ j;refine Sq (Sg (Pp 2 (w_len (rd_hd 1 rfl) kr ts_60 (Pp 1 (En (Xf (rgF (N:=d.length)) (We (Te (q_rzX (Be ?_))))))))));exact q_join () trivial aK (tH [(0,Y),(1,Y),(2,Z)] 2)
   rintro rem k2 l4 ⟨⟩ o2 hk2 h10 hn2 j;have h10:privityref04_Mul_L1 f c d k1 k2 l4=some o2:=h10;unfold privityref04_Mul_L1 at h10;refine Sq (Sg (Pp 2 (w_len (rd_hd 1 rfl) kr ts_60 (Pp 1 (En (Xt (rgT (k:=k2) (N:=d.length) hk2) (Ws (Tn (Sq (Wb ?_))))))))));obtain ⟨x6,ex6,h11⟩:=bnd h10;obtain ⟨x7,ex7,h12⟩:=bnd h11;obtain ⟨x8,ex8,h13⟩:=bnd h12
   obtain ⟨x9,ex9,h14⟩:=bnd h13;obtain ⟨r3,er3,h15⟩:=bnd h14;obtain ⟨r4,er4,h16⟩:=bnd h15;obtain ⟨l6,el6,h17⟩:=bnd h16
   refine h_fm [0,0,0,6,0,0,0,0,192,480,992,0,0,0,12288,28672,0,0,196608,458752,1046528,2097136,4194303,8388607] ⟨3,[0,0,0,0,0,0,0,0,0,0,0,0,0,0,0,0,0,0,0,0,0,0,0,1],[(23,[(0,2)])],[(9,[(0,2)]),(10,[(0,2)]),(22,[(0,2)])],[(14,[(0,0)]),(15,[(0,0)]),(18,[(0,1)]),(19,[(0,1)])]⟩ (fun γ=>[v1,iN k1,iN k2,iV x6,uN f,v1,iN k1,iN k2,iV x6,.pointer (some (elV v1 (x6.toNat*Ku.size))),uN x7,uN f,a,iN k1,.pointer (some (elV a (k1*Ku.size))),uN x8,b,iN k2,.pointer (some (elV b (k2*Ku.size))),uN x9,uN r3,uN r4,.pointer (some (elV v1 (x6.toNat*Ku.size))),undef]) (fun i γ=>match i with | 23=>[I14 v1 l6] | _=>[]) [0,1,2,4,5,6,7,11,12,13,16,17] tryz_mix Tb_ok ?_ ?_
   ·refine ⟨?_,?_,?_,?_,?_,?_,?_,?_,?_,?_,?_,?_,trivial⟩
    ·intro γ F;refine w_bi (zaddI ex6) kr ?_;exact wE (gl []) [] 0
    ·intro γ F;refine w_bi (zaddI ex6) kr ?_;exact wE (gl []) [] 0
    ·intro γ F;refine w_ix (k:=.i64) (own_hd 0 rfl) (ib ex7) (iz ex7) kr ts_60 ti_22 ?_;exact wE (gl []) [(0,Z)] 0
    ·intro γ F;refine w_ldO 0 0 rfl (ig ex7) kr ti_22 rfl rfl ?_;rintro _;exact wE (gl []) [(0,Z)] 0
    ·intro γ F;refine w_ix (k:=.i64) (rd_hd 0 rfl) (nbd ex8) rfl kr ts_60 ti_22 ?_;exact wE (gl []) [] 1
    ·intro γ F;refine w_ldR 0 0 rfl ex8 kr ti_22 rfl rfl ?_;rintro _;exact wE (gl []) [] 1
    ·intro γ F;refine w_ix (k:=.i64) (rd_hd 0 rfl) (nbd ex9) rfl kr ts_60 ti_22 ?_;exact wE (gl []) [] 1
    ·intro γ F;refine w_ldR 0 0 rfl ex9 kr ti_22 rfl rfl ?_;rintro _;exact wE (gl []) [] 1
    ·intro γ F;refine Fe [] (c_privityref01_Mul er3) rfl fok_38 ?_;exact wE (gl []) [] 0
    ·intro γ F;refine Fe [] (c_privityref01_Add er4) rfl fok_37 ?_;exact wE (gl []) [] 0
    ·intro γ F;refine w_ix (k:=.i64) (own_hd 0 rfl) (ib ex7) (iz ex7) kr ts_60 ti_22 ?_;exact wE (gl []) [(0,Z)] 0
    intro γ F;refine w_stO (kd:=Ku) (w:=uN r4) (m:=x6.toNat) (x0:=r4) 0 () rfl (ib ex7) (sinj el6) kr ti_22 (cv0 kr) (it0 rfl) ?_;exact wE (gl []) [(0,Z)] 0
   intro γ1;refine Bn (Tn (Rg (Pp 1 (w_bi (zinc hk2 hN2) kr (Pp 1 (Ei ?_))))));have h17:=Sj h17;subst h17;exact q_rs () hn2 aK (tH [(0,Y),(1,Y),(2,Z)] 2)
  rintro ⟨⟩ - j;refine Bn (Tn (Rg (Pp 1 (w_bi (zinc hk1 hN1) kr (Pp 1 (Ei ?_))))));have h9:=Sj h9;subst h9;exact q_rs () hn1 aK (tH [(0,Y),(1,Y),(2,Z)] 2)
 rintro ⟨⟩ - j;refine Tn (Sg (Pp 1 ?_));refine WI.ent (frzAt 0 rfl) ?_;obtain ⟨r5,er5,h18⟩:=bnd h7;refine Fx [(0,Y)] (c_privityref04_Trim er5) rfl fok_82 (fun w3=>?_);refine Pp 1 (Er ?_);have h18:=Sj h18;subst h18;exact q_end (l:=[w3]) [(0,Z)] 1 ⟨w3,rfl,rfl⟩ (.inl rfl) kr kr kr
theorem c_privityref12_VanishingPolynomial {a:T_api_Params} {c:List Int} {b:Value} {r:(List Nat)} (h:privityref12_VanishingPolynomial a c=some r):Ct Tryz.prog 35 [(aP a),b] [rI b c] (fun v L=>∃ w0:Value,v=w0∧L=[I14 w0 r]):=by
 refine ct_intro Tryz.func35 rfl kr (fun F=>?_);unfold privityref12_VanishingPolynomial at h;refine Sg ?_;refine w_box (t:=24) (v:=(aP a)) (cs:=(pP a [])) (cv0 kr) kr (fun q1=>?_);refine WI.hd (y:=I70 q1 a) kr ?_
 refine w_opP 0 rfl (fun b1 hb=>?_);subst hb;refine Pp 1 (Eg ?_);refine w_lt (kd:=Ku) (t:=60) (len:=1) (ps0:=[(0,uN 1)]) (ps:=[(0,uN 1)]) ([1]:List Nat) _ (rowC (x:=1) (g:=()) (it0 rfl) row0) (scI sc0) kr ts_60 ti_22 kr rfl rfl (fun v1=>?_);refine Pp 1 (Eg (w_ldB 1 0 rfl kr ti_24 rfl rfl (Pp 1 ?_)))
 obtain ⟨r1,er1,h1⟩:=bnd h;refine Fx [(2,Y)] (c_privityref12_ExtendCoalition er1) rfl fok_87 (fun w1=>?_);refine Pp 1 (Es (Sg (Pp 1 (En ?_))));refine h_lenle (own_lenle 0 rfl) (fun hN1=>?_);obtain ⟨l2,elp1,h2⟩:=bnd h1;refine h_join (X:=Value) (fun g=>[(5,g)]) (fun g=>[I14 g l2]++F) (fun _=>True) ?_ ?_
 ·refine Wb ?_
  refine h_rs (fun (k1:Nat) (st:(List Nat)) (g:Value)=>[(2,(bx b1)),(5,g),(6,w1),(7,iN k1)]) (fun (k1:Nat) (st:(List Nat)) (g:Value)=>[I21 b1 a,I14 g st,I51 w1 r1]++F) v1 elp1 (Nat.zero_le _) aK (tH [(2,Z),(1,Z),(0,Z)] 1) ?_ ?_
  ·rintro g3 j;refine Sq (Sg (Pp 2 (w_len (own_hd 2 rfl) kr ts_25 (Pp 1 (En (Xf (rgF (N:=r1.length)) (We (Te (q_rzX (Be ?_))))))))));exact q_join g3 trivial aK (tH [(1,Z)] 2)
  rintro rem k1 l1 g1 o1 hk1 h3 hn1 j;have h3:privityref12_VanishingPolynomial_L0 a r1 k1 l1=some o1:=h3;unfold privityref12_VanishingPolynomial_L0 at h3;refine Sq (Sg (Pp 2 (w_len (own_hd 2 rfl) kr ts_25 (Pp 1 (En (Xt (rgT (k:=k1) (N:=r1.length) hk1) (Ws (Tn (Sq (Wb (Sq ?_)))))))))));obtain ⟨x2,ex2,h4⟩:=bnd h3;obtain ⟨x3,ex3,h5⟩:=bnd h4;obtain ⟨r3,er3,h6⟩:=bnd h5
  refine h_fm [0,1,0,0,12,28,60,127,255,511,511,1023,4095] ⟨3,[0,0,0,0,0,0,0,0,0,0,0,0,0],[],[(1,[(0,0)]),(4,[(0,2)]),(5,[(0,2)])],[]⟩ (fun γ=>[bx b1,uN a.P,w1,iN k1,.pointer (some (elV w1 (k1*Ki.size))),iV x2,uN x3,.tuple #[uN r3.1,iV r3.2],.tuple #[uN r3.1,iV r3.2],uN r3.1,iV r3.2,uN r3.1,iV r3.2]) nO [0,2,3,8,9,10,11,12] tryz_mix Tb_ok ?_ ?_
  ·refine ⟨?_,?_,?_,?_,?_,trivial⟩
   ·intro γ F;refine w_ldB 0 0 rfl kr ti_22 rfl rfl ?_;exact wE (gl []) [(0,Z)] 0
   ·intro γ F;refine w_ix (k:=.i64) (own_hd 0 rfl) (nbd ex2) rfl kr ts_25 ti_3 ?_;exact wE (gl []) [(0,Z)] 0
   ·intro γ F;refine w_ldO 0 0 rfl ex2 kr ti_3 rfl rfl ?_;rintro _;exact wE (gl []) [(0,Z)] 0
   ·intro γ F;refine w_cv Tb_ok (ecU ex3) kr ?_;exact wE (gl []) [] 0
   intro γ F;refine Fe [] (c_privityref01_Inverse er3) rfl fok_88 ?_;exact wE (gl []) [] 0
  intro γ1;refine Tn ?_;refine WH.ent (frzAt 1 rfl) ?_;obtain ⟨r4,er4,h7⟩:=bnd h6;obtain ⟨r5,er5,h8⟩:=bnd h7
  refine h_fm [0,1,0,0,8,0,56,120,255,511] ⟨3,[0,0,0,0,0,0,0,1,1,0],[],[(1,[(0,1)]),(4,[(0,1)])],[(8,[(8,0),(0,0)])]⟩ (fun γ=>[bx b1,uN a.P,g1,bx b1,uN a.P,uN r3.1,uN r4,(γ 7 0),(γ 8 0),(γ 8 0)]) (fun i γ=>match i with | 7=>[rU (γ 7 0) ([1,r4]:List Nat)] | 8=>[I14 (γ 8 0) r5] | _=>[]) [0,2,3,5,9] tryz_mix Tb_ok ?_ ?_
  ·refine ⟨?_,?_,?_,?_,?_,trivial⟩
   ·intro γ F;refine w_ldB 0 0 rfl kr ti_22 rfl rfl ?_;exact wE (gl []) [(0,Z)] 0
   ·intro γ F;refine w_ldB 0 0 rfl kr ti_22 rfl rfl ?_;exact wE (gl []) [(0,Z)] 0
   ·intro γ F;refine Fe [] (c_privityref01_Neg er4) rfl fok_90 ?_;exact wE (gl []) [] 0
   ·intro γ F;refine w_lt (kd:=Ku) (t:=60) (len:=2) (ps0:=[(0,uN 1),(1,uN r4)]) (ps:=[(0,uN 1),(1,uN r4)]) ([1,r4]:List Nat) _ (rowC (x:=1) (g:=()) (it0 rfl) (rowC (x:=r4) (g:=()) (it0 rfl) row0)) (scI (scI sc0)) kr ts_60 ti_22 kr rfl rfl (fun v2=>?_);refine WI.ent (frzAt 0 rfl) ?_
    exact wE (gl [v2]) [(0,Y)] 1
   intro γ F;refine Fx [(1,Y),(0,Y)] (c_privityref04_Mul er5) rfl fok_89 (fun w5=>?_);exact wE (gl [w5]) [(0,Z)] 2
  intro γ2;refine Bn (Tn (Rg (Pp 1 (w_bi (zinc hk1 hN1) kr (Pp 1 (Ei ?_))))));have h8:=Sj h8;subst h8;exact q_rs (γ2 8 0) hn1 aK (tH [(1,Z),(3,Z),(1,Z)] 2)
 rintro g2 - j;refine Tn (Sg (Pp 2 (Er ?_)));have h2:=Sj h2;subst h2;exact q_end (l:=[g2]) [(0,Z)] 0 ⟨g2,rfl,rfl⟩ (.inl rfl) kr kr kr
theorem c_privityref15_SameEvent {c d:T_api_Event} {a b:Value} {r:Bool} (h:privityref15_SameEvent c d=some r):Ct Tryz.prog 139 [.agg #[iV c.Round,iV c.From,a],.agg #[iV d.Round,iV d.From,b]] [rU a c.Words,rU b d.Words] (fun v L=>v=.bool r∧L=[]):=by
 refine ct_intro Tryz.func139 rfl kr (fun F=>?_);unfold privityref15_SameEvent at h;refine Sg ?_;refine w_box (t:=68) (v:=.agg #[iV c.Round,iV c.From,a]) (cs:=[iV c.Round,iV c.From,a]) (cv0 kr) kr (fun q1=>?_);refine WI.hd (y:=blkP q1 68 [iV c.Round,iV c.From,a]) kr ?_;refine w_opP 0 rfl (fun b1 hb=>?_)
 subst hb;refine w_box (t:=68) (v:=.agg #[iV d.Round,iV d.From,b]) (cs:=[iV d.Round,iV d.From,b]) (cv0 kr) kr (fun q2=>?_);refine WI.hd (y:=blkP q2 68 [iV d.Round,iV d.From,b]) kr ?_;refine w_opP 0 rfl (fun b2 hb=>?_);subst hb
 refine Pp 1 (Eg (Pp 1 (w_ldB 1 0 rfl kr ti_3 rfl rfl (Pp 1 (w_ldB 0 0 rfl kr ti_3 rfl rfl (Pp 2 ?_))))));rcases bcase h with ⟨t1,h1⟩ | ⟨t1,h1⟩
 ·refine Kb 10 t1 (Pp 1 (w_ldB 1 1 rfl kr ti_3 rfl rfl (Pp 1 (w_ldB 0 1 rfl kr ti_3 rfl rfl (Pp 3 ?_)))));rcases bcase h1 with ⟨t2,h2⟩ | ⟨t2,h2⟩
  ·refine Kb 17 t2 (Pp 1 (w_ldB 1 2 rfl kr ti_60 rfl rfl (Pp 1 (w_ldB 0 2 rfl kr ti_60 rfl rfl ?_))));obtain ⟨r1,er1,h3⟩:=bnd h2;refine Fe [(2,Y),(3,Y)] (c_privityref05_Same er1) rfl fok_24 ?_;refine Pp 2 (Er ?_);have h3:=Sj h3;subst h3;exact Ql [.bool r1] [] 4
  refine Kb 17 t2 (Pp 7 (Er ?_));have h2:=Sj h2;subst h2;exact Ql [.bool false] [] 4
 refine Kb 10 t1 (Pp 14 (Er ?_));have h1:=Sj h1;subst h1;exact Ql [.bool false] [] 4
theorem c_privityref15_FirstDifference {c:List T_api_Event} {d:List T_api_Event} {a b:Value} {r:Int} (h:privityref15_FirstDifference c d=some r):Ct Tryz.prog 81 [a,b] [rdV KE a c,rdV KE b d] (fun v L=>v=iV r∧L=[]):=by
 refine ct_intro Tryz.func81 rfl kr (fun F=>?_);unfold privityref15_FirstDifference at h;refine Sg (Pp 1 (Es (Sg (Pp 1 (En ?_)))));obtain ⟨r1,elp1,h1⟩:=bnd h;refine h_join (X:=Unit × Unit) (fun g=>[(0,a),(1,b)]) (fun g=>[rdV KE a c,rdV KE b d]++F) (fun g=>r1=.inr g.2) ?_ ?_
 ·refine Wb ?_;refine h_lp (fun (st:Int) (g:Unit)=>[(0,a),(1,b),(5,iV st)]) (fun (st:Int) (g:Unit)=>[rdV KE a c,rdV KE b d]++F) () elp1 aK (tH [(0,Y),(1,Y)] 2) ?_;rintro kk x1 ⟨⟩ o1 h2 hn1 j;have h2:privityref15_FirstDifference_L0 c d x1=some o1:=h2;unfold privityref15_FirstDifference_L0 at h2;refine Sq (Sq ?_)
  obtain ⟨x2,ej1,h3⟩:=bnd h2;refine h_join (X:=Unit) (fun g=>[(0,a),(1,b),(5,iV x1),(15,.bool x2)]) (fun g=>[rdV KE a c,rdV KE b d]++F) (fun _=>True) ?_ ?_
  ·refine Rg (Pp 2 (w_len (rd_hd 0 rfl) kr ts_65 (Pp 2 ?_)));rcases bcase ej1 with ⟨t1,h4⟩ | ⟨t1,h4⟩
   ·refine Kb 10 t1 (Pp 2 (w_len (rd_hd 1 rfl) kr ts_65 (Pp 2 (Ei ?_))));cases h4;exact q_join () trivial aK (tH [(0,Y),(1,Y)] 2)
   refine Kb 10 t1 (Pp 5 (Ei ?_));cases h4;exact q_join () trivial aK (tH [(0,Y),(1,Y)] 2)
  rintro ⟨⟩ - j;refine Tn ?_;rcases bcase h3 with ⟨t2,h5⟩ | ⟨t2,h5⟩
  ·refine Xt t2 (Ws (Tn (Sq (Wb (Sq ?_)))));obtain ⟨x3,ex3,h6⟩:=bnd h5;obtain ⟨x4,ex4,h7⟩:=bnd h6;obtain ⟨r2,er2,h8⟩:=bnd h7
   refine h_fm [0,0,3,7,0,0,48,112,255,511] ⟨2,[0,0,0,1,0,0,0,1,0,0],[],[],[(2,[(0,0)]),(3,[(0,0)]),(6,[(0,1)]),(7,[(0,1)]),(8,[(8,0),(4,0)])]⟩ (fun γ=>[a,iV x1,.pointer (some (elV a (x1.toNat*KE.size))),.agg #[iV x3.Round,iV x3.From,(γ 3 0)],b,iV x1,.pointer (some (elV b (x1.toNat*KE.size))),.agg #[iV x4.Round,iV x4.From,(γ 7 0)],.bool r2,.bool (!r2)]) (fun i γ=>match i with | 3=>[rU (γ 3 0) x3.Words] | 7=>[rU (γ 7 0) x4.Words] | _=>[]) [0,1,4,5,9] tryz_mix Tb_ok ?_ ?_
   ·refine ⟨?_,?_,?_,?_,?_,trivial⟩
    ·intro γ F;refine w_ix (k:=.i64) (rd_hd 0 rfl) (ib ex3) (iz ex3) kr ts_65 ti_68 ?_;exact wE (gl []) [] 1
    ·intro γ F;refine w_ldR 0 0 rfl (ig ex3) kr ti_68 rfl rfl ?_;rintro ⟨_,_,v1⟩;exact wE (gl [v1]) [(0,Y)] 2
    ·intro γ F;refine w_ix (k:=.i64) (rd_hd 0 rfl) (ib ex4) (iz ex4) kr ts_65 ti_68 ?_;exact wE (gl []) [] 1
    ·intro γ F;refine w_ldR 0 0 rfl (ig ex4) kr ti_68 rfl rfl ?_;rintro ⟨_,_,v2⟩;exact wE (gl [v2]) [(0,Y)] 2
    intro γ F;refine Fe [(1,Y),(0,Y)] (c_privityref15_SameEvent er2) rfl fok_139 ?_;exact wE (gl []) [] 2
   intro γ1;refine Tn ?_;rcases bcase h8 with ⟨t3,h9⟩ | ⟨t3,h9⟩
   ·refine Xt t3 (Sg (Pp 2 (Er (Br (Tr ?_)))));refine q_lpR ?_;refine Br (q_joinR (Tr ?_));have h9:=Sj h9;subst h9;have hn:=(show _=_ from hn1);subst hn;have h1:=Sj (show some _=some _ from h1);subst h1;exact Ql [iV x1] [] 4
   refine Xs t3 (Bn (Tn (Rg (Pp 1 ?_))));obtain ⟨x5,ex5,h10⟩:=bnd h9;refine w_bi (zaddI ex5) kr (Pp 1 (Ei ?_));have h10:=Sj h10;subst h10;exact q_go () hn1 aK (tH [(0,Y),(1,Y)] 4)
  refine Xf t2 (We (Te ?_));refine q_lpX ?_;refine Be ?_;have h5:=Sj h5;subst h5;exact q_join ((),()) (Eq.symm hn1) aK (tH [(0,Y),(1,Y)] 2)
 rintro ⟨⟨⟩,⟨⟩⟩ hc j;subst hc;refine Tn (Sq (Sg (Pp 1 (w_len (rd_hd 0 rfl) kr ts_65 (Pp 1 (w_len (rd_hd 1 rfl) kr ts_65 (Pp 1 (En ?_))))))));rcases bcase h1 with ⟨t4,h11⟩ | ⟨t4,h11⟩
 ·refine Xt t4 (Sg (Pp 1 (Er (Tr ?_))));have h11:=Sj h11;subst h11;exact Ql [iV (-1)] [] 2
 refine Xs t4 (Tn (Sq (Sg (Pp 1 (w_len (rd_hd 0 rfl) kr ts_65 (Pp 1 (w_len (rd_hd 1 rfl) kr ts_65 (Pp 1 (En ?_)))))))));rcases bcase h11 with ⟨t5,h12⟩ | ⟨t5,h12⟩
 ·refine Xt t5 (Sg (Pp 1 (w_len (rd_hd 0 rfl) kr ts_65 (Pp 1 (Er (Tr ?_))))));have h12:=Sj h12;subst h12;exact Ql [iN c.length] [] 2
 refine Xs t5 (Tn (Sg (Pp 1 (w_len (rd_hd 1 rfl) kr ts_65 (Pp 1 (Er ?_))))));have h12:=Sj h12;subst h12;exact Ql [iN d.length] [] 2
theorem c_privityref15_Same {c:List T_api_Event} {d:List T_api_Event} {a b:Value} {r:Bool} (h:privityref15_Same c d=some r):Ct Tryz.prog 28 [a,b] [rdV KE a c,rdV KE b d] (fun v L=>v=.bool r∧L=[]):=by
 refine ct_intro Tryz.func28 rfl kr (fun F=>?_);unfold privityref15_Same at h;refine Sg (Pp 1 (Eg (Pp 2 ?_)));obtain ⟨r1,er1,h1⟩:=bnd h;refine Fe [(0,Y),(1,Y)] (c_privityref15_FirstDifference er1) rfl fok_81 ?_;refine Pp 2 (Er ?_);have h1:=Sj h1;subst h1;exact Ql [.bool (decide (r1 < (0:Int)))] [] 2
theorem c_privitylaw19_VSSPerfectSecrecy {a:T_privitylaw19_Moved} {c d f l:Value} {r:Bool} (h:privitylaw19_VSSPerfectSecrecy a=some r):Ct Tryz.prog 9 [.agg #[uN a.X.W.S.P,iV a.X.W.S.N,iV a.X.W.S.T,c,d,f,l,.int .u8 a.Dealer,uN a.D]] [rI c a.X.W.Corrupt,rD d a.X.W.Deviations,rS f a.X.W.Tapes,I9 l a.X.Q,exF] (fun v L=>v=.bool r∧L=[]):=by
 refine ct_intro Tryz.func9 rfl kr (fun F=>?_);unfold privitylaw19_VSSPerfectSecrecy at h;refine Sg ?_
 refine w_box (t:=79) (v:=.agg #[uN a.X.W.S.P,iV a.X.W.S.N,iV a.X.W.S.T,c,d,f,l,.int .u8 a.Dealer,uN a.D]) (cs:=(pP a.X.W.S [c,d,f,l,.int .u8 a.Dealer,uN a.D])) (cv0 kr) kr (fun q1=>?_)
 refine WI.hd (y:=blkP q1 79 (pP a.X.W.S [c,d,f,l,.int .u8 a.Dealer,uN a.D])) kr ?_;refine w_opP 0 rfl (fun b1 hb=>?_);subst hb;refine Pp 1 (Es (Sg ?_));obtain ⟨r1,er1,h1⟩:=bnd h;refine Fe [(5,Y)] (c_privitylaw19_awake er1) rfl fok_11 ?_;refine Pp 1 (En ?_)
 rcases bcase h1 with ⟨t1,h2⟩ | ⟨t1,h2⟩
 ·refine Xt t1 (Sg (Pp 1 (Er (Tr ?_))));have h2:=Sj h2;subst h2;exact Ql [.bool false] [] 6
 refine Xs t1 (Tn (Sg (Pp 1 (w_ldB 0 0 rfl kr ti_32 rfl rfl ?_))));refine w_al kr ti_32 (fun q2=>?_);refine WI.hd (y:=I33 q2) kr ?_;refine w_opP 0 rfl (fun b2 hb=>?_);subst hb
 refine w_stB (v:=.agg #[uN a.X.W.S.P,iV a.X.W.S.N,iV a.X.W.S.T,c,d,f,l]) (off:=0) (cs:=(pP a.X.W.S [c,d,f,l])) 0 rfl (cv0 kr) kr ti_32 rfl rfl (oC (fun _ _=>rfl) (oC (fun _ _=>rfl) (oC (fun _ _=>rfl) (oC (sl_one (rd_hd 2 rfl)) (oC (sl_one (rd_hd 3 rfl)) (oC (sl_one (rd_hd 4 rfl)) (oC (sl_one (rd_hd 5 rfl)) oN))))))) ?_
 refine WI.hd (y:=I17 b2 a.X.W.S c d f l) kr ?_;refine Es (Sq ?_);obtain ⟨x1,ej1,h3⟩:=bnd h2
 refine h_join (X:=Unit) (fun g=>[(1,(bx b1)),(3,(bx b2)),(46,.bool x1)]) (fun g=>[I18 b1 a.X.W.S c d f l a.Dealer a.D,rI c a.X.W.Corrupt,rD d a.X.W.Deviations,rS f a.X.W.Tapes,I9 l a.X.Q,I17 b2 a.X.W.S c d f l,exF]++F) (fun _=>True) ?_ ?_
 ·refine Rg (Pp 1 (w_ldB 0 0 rfl kr ti_29 rfl rfl (Pp 1 (w_ldB 0 6 rfl kr ti_30 rfl rfl ?_))));obtain ⟨r2,er2,h4⟩:=bnd ej1;refine Fe [(2,Y),(3,Y),(4,Y),(5,Y)] (c_privityref19_Fair er2) rfl fok_12 ?_;refine Pp 2 ?_;rcases bcase h4 with ⟨t2,h5⟩ | ⟨t2,h5⟩
  ·refine Kb 38 t2 (Pp 8 (Ei ?_));cases h5;exact q_join () trivial aK (tH [(1,Z),(1,Y),(2,Y),(3,Y),(4,Y),(0,Z),(4,Y)] 5)
  refine Kb 38 t2 (Pp 1 (w_ldB 1 8 rfl kr ti_22 rfl rfl (Pp 3 (w_ldB 0 0 rfl kr ti_22 rfl rfl (Pp 2 (Ei ?_))))));cases h5;exact q_join () trivial aK (tH [(1,Z),(1,Y),(2,Y),(3,Y),(4,Y),(0,Z),(4,Y)] 5)
 rintro ⟨⟩ - j;refine Tn ?_;rcases bcase h3 with ⟨t3,h6⟩ | ⟨t3,h6⟩
 ·refine Xt t3 (Sg (Pp 1 (Er (Tr ?_))));have h6:=Sj h6;subst h6;exact Ql [.bool true] [] 7
 refine Xs t3 (Tn (Sg (Pp 2 (w_ldB 5 0 rfl kr ti_24 rfl rfl (Pp 2 (w_ldB 5 3 rfl kr ti_25 rfl rfl ?_))))));obtain ⟨r3,er3,h7⟩:=bnd h6;refine Fx [(1,Y)] (c_privityref12_HonestParties er3) rfl fok_22 (fun w3=>?_);refine Pp 1 (Eg (Pp 2 (w_ldB 1 7 rfl kr ti_5 rfl rfl ?_)));obtain ⟨x2,ex2,h8⟩:=bnd h7;refine w_cv Tb_ok (ecI ex2) kr ?_;refine Pp 1 (w_len (own_hd 0 rfl) kr ts_25 ?_)
 obtain ⟨x3,ex3,h9⟩:=bnd h8;refine w_bi (zremI ex3) kr ?_;obtain ⟨x4,ex4,h10⟩:=bnd h9;refine w_ix (k:=.i64) (own_hd 0 rfl) (ib ex4) (iz ex4) kr ts_25 ti_3 ?_;refine w_ldO 0 0 rfl (ig ex4) kr ti_3 rfl rfl ?_;rintro _;refine Pp 1 (Es (Sg (Pp 1 (w_ldB 6 6 rfl kr ti_30 rfl rfl (Pp 1 ?_)))));obtain ⟨x5,ex5,h11⟩:=bnd h10;refine w_bi (zsubI ex5) kr ?_;obtain ⟨x6,ex6,h12⟩:=bnd h11
 refine w_ix (k:=.i64) (rd_hd 5 rfl) (ib ex6) (iz ex6) kr ts_30 ti_27 ?_;refine w_ldR 5 0 rfl (ig ex6) kr ti_27 rfl rfl ?_;rintro v1;refine w_len (rd_hd 0 rfl) kr ts_27 (Pp 1 (En ?_));rcases bcase h12 with ⟨t4,h13⟩ | ⟨t4,h13⟩
 ·refine Xt t4 (Sg (Pp 1 (Er (Tr ?_))));have h13:=Sj h13;subst h13;exact Ql [.bool true] [] 9
 refine Xs t4 (Tn (Sg (Pp 3 (w_ldB 7 0 rfl kr ti_22 rfl rfl (Pp 1 (Eg (Pp 2 (w_ldB 7 0 rfl kr ti_24 rfl rfl (Pp 2 (w_ldB 7 3 rfl kr ti_25 rfl rfl ?_))))))))));obtain ⟨r4,er4,h14⟩:=bnd h13;refine Fx [(3,Y)] (c_privityref12_VanishingPolynomial er4) rfl fok_35 (fun w4=>?_);refine Pp 1 (Eg (Pp 2 (w_ldB 8 0 rfl kr ti_24 rfl rfl ?_)));obtain ⟨r5,er5,h15⟩:=bnd h14
 refine Fe [] (c_privityref19_Rest er5) rfl fok_36 ?_;refine Pp 1 (Es ?_);obtain ⟨l1,el1,h16⟩:=bnd h15
 refine h_fm [0,1,0,0,8,28,63,0,255] ⟨10,[0,0,1,0,0,1,0,1,1],[(5,[(3,0)]),(8,[(8,0)])],[(1,[(0,8)]),(4,[(0,8)]),(6,[(6,0)]),(8,[(6,0)])],[(5,[(0,7)]),(8,[(0,4),(0,5),(0,6)])]⟩ (fun γ=>[bx b2,.agg #[uN a.X.W.S.P,iV a.X.W.S.N,iV a.X.W.S.T,c,d,f],(γ 2 0),.pointer (some ⟨b2,6,none⟩),l,(γ 5 0),.agg #[uN a.X.W.S.P,iV a.X.W.S.N,iV a.X.W.S.T,c,d,f,(γ 5 0)],(γ 7 0),undef]) (fun i γ=>match i with | 2=>[ownV (Kd.sl Ks) 27 (γ 2 0) ([]:List (List (List Nat)))] | 5=>[I12 (γ 5 0) l1] | 7=>[I33 (γ 7 0)] | 8=>[blkP (γ 7 0) 32 (pP a.X.W.S [c,d,f,(γ 5 0)])] | _=>[]) [0,3] tryz_mix Tb_ok ?_ ?_
 ·refine ⟨?_,?_,?_,?_,?_,?_,?_,trivial⟩
  ·intro γ F;refine w_ldB 0 0 rfl kr ti_29 rfl rfl ?_;exact wE (gl []) [(0,Z)] 0
  ·intro γ F;refine w_lt (kd:=(Kd.sl Ks)) (t:=30) (len:=0) (ps0:=[]) (ps:=[]) ([]:List (List (List Nat))) _ row0 sc0 kr ts_30 ti_27 kr rfl rfl (fun v2=>?_);exact wE (gl [v2]) [(0,Z)] 0
  ·intro γ F;refine w_ldB 0 6 rfl kr ti_30 rfl rfl ?_;exact wE (gl []) [(0,Z)] 0
  ·intro γ F;refine w_app 0 rfl (rd_src 1 rfl) el1 kr ts_30 ti_27 rfl (fun v3=>?_);exact wE (gl [v3]) [(0,Z)] 1
  ·intro γ F;refine Rh ([I12 (γ 5 0) l1]++F) ?_
   refine w_bd (v:=.agg #[uN a.X.W.S.P,iV a.X.W.S.N,iV a.X.W.S.T,c,d,f,(γ 5 0)]) (t:=32) (ps0:=[(0,.agg #[uN a.X.W.S.P,iV a.X.W.S.N,iV a.X.W.S.T,c,d,f]),(1,(γ 5 0))]) (ps:=[(0,.agg #[uN a.X.W.S.P,iV a.X.W.S.N,iV a.X.W.S.T,c,d,f]),(1,.agg #[(γ 5 0)])]) (scI (scS (own_hd 0 rfl) sc0)) kr (fun w=>by kernel_rfl) ?_
   exact wE (gl []) [(0,Z)] 0
  ·intro γ F;refine w_al kr ti_32 (fun q3=>?_);refine WI.hd (y:=I33 q3) kr ?_;exact wE (gl [q3]) [(0,Z)] 0
  intro γ F;refine Rh ([I33 (γ 7 0),I12 (γ 5 0) l1,rI c a.X.W.Corrupt,rD d a.X.W.Deviations,rS f a.X.W.Tapes]++F) ?_
  refine w_stBp (v:=.agg #[uN a.X.W.S.P,iV a.X.W.S.N,iV a.X.W.S.T,c,d,f,(γ 5 0)]) (cs:=(pP a.X.W.S [c,d,f,(γ 5 0)])) 0 rfl (cv0 kr) kr ti_32 rfl rfl (oC (fun _ _=>rfl) (oC (fun _ _=>rfl) (oC (fun _ _=>rfl) (oC (sl_one (rd_hd 2 rfl)) (oC (sl_one (rd_hd 3 rfl)) (oC (sl_one (rd_hd 4 rfl)) (oC (sl_one (own_hd 1 rfl)) oN))))))) ?_
  exact wE (gl []) [(0,Z),(0,Z)] 3
 intro γ1;refine q_opS 9 11 kr rfl (fun b3=>?_);refine Tn (Sg ?_);refine w_lt (kd:=Ks) (t:=27) (len:=0) (ps0:=[]) (ps:=[]) ([]:List (List Nat)) _ row0 sc0 kr ts_27 ti_60 kr rfl rfl (fun v4=>?_);refine Pp 2 (w_ldB 10 5 rfl kr ti_27 rfl rfl ?_);obtain ⟨l2,el2,h17⟩:=bnd h16;refine w_app 0 rfl (rd_src 8 rfl) el2 kr ts_27 ti_60 rfl (fun v5=>?_);refine Pp 2 ?_
 refine w_stB (v:=v5) (off:=5) (cs:=[v5]) 1 rfl (cvS (own_hd 0 rfl)) kr ti_27 rfl rfl (oC (sl_one (own_hd 0 rfl)) oN) ?_;refine WI.hd (y:=I17 b3 a.X.W.S c d v5 (γ1 5 0)) kr ?_;refine Eg ?_
 refine w_lt (kd:=Ku) (t:=60) (len:=0) (ps0:=[]) (ps:=[]) ([]:List Nat) _ row0 sc0 kr ts_60 ti_22 kr rfl rfl (fun v6=>?_);refine Pp 1 (w_ldB 11 6 rfl kr ti_30 rfl rfl (Pp 1 (w_bi (zsubI ex5) kr ?_)));refine w_ix (k:=.i64) (rd_hd 10 rfl) (ib ex6) (iz ex6) kr ts_30 ti_27 ?_;refine w_ldR 10 0 rfl (ig ex6) kr ti_27 rfl rfl ?_;rintro v7;obtain ⟨x7,ex7,h18⟩:=bnd h17
 refine w_ix (k:=.i64) (rd_hd 0 rfl) (nbd ex7) rfl kr ts_27 ti_60 ?_;refine w_ldR 0 0 rfl ex7 kr ti_60 rfl rfl ?_;rintro v8;obtain ⟨l3,el3,h19⟩:=bnd h18;refine w_app 2 rfl (rd_src 0 rfl) el3 kr ts_60 ti_22 rfl (fun v9=>?_);refine Pp 1 (Es (Sg (Pp 1 (En ?_))));obtain ⟨l7,elp1,h20⟩:=bnd h19
 refine h_join (X:=Unit) (fun g=>[(1,(bx b1)),(3,(bx b2)),(4,w3),(5,iV x4),(6,uN a.X.W.S.P),(7,w4),(8,iV r5),(9,(bx b3)),(10,v9)]) (fun g=>[I18 b1 a.X.W.S c d f l a.Dealer a.D,rI c a.X.W.Corrupt,rD d a.X.W.Deviations,rS f a.X.W.Tapes,I9 l a.X.Q,I17 b2 a.X.W.S c d f l,I51 w3 r3,I14 w4 r4,I17 b3 a.X.W.S c d v5 (γ1 5 0),I19 v5 l2,I12 (γ1 5 0) l1,I14 v9 l7,exF]++F) (fun _=>True) ?_ ?_
 ·refine Wb ?_
  refine h_lp (fun (st:(List Nat) × Int) (g:Unit)=>[(1,(bx b1)),(3,(bx b2)),(4,w3),(5,iV x4),(6,uN a.X.W.S.P),(7,w4),(8,iV r5),(9,(bx b3)),(10,v9),(11,iV st.2)]) (fun (st:(List Nat) × Int) (g:Unit)=>[I18 b1 a.X.W.S c d f l a.Dealer a.D,rI c a.X.W.Corrupt,rD d a.X.W.Deviations,rS f a.X.W.Tapes,I9 l a.X.Q,I17 b2 a.X.W.S c d f l,I51 w3 r3,I14 w4 r4,I17 b3 a.X.W.S c d v5 (γ1 5 0),I19 v5 l2,I12 (γ1 5 0) l1,I14 v9 st.1,exF]++F) () elp1 aK (tH [(8,Z),(8,Y),(9,Y),(10,Y),(11,Y),(12,Z),(7,Z),(5,Z),(3,Z),(3,Z),(9,Z),(0,Z),(7,Y)] 8) ?_
  rintro kk ⟨l5,x9⟩ ⟨⟩ o1 h21 hn1 j;have h21:privitylaw19_VSSPerfectSecrecy_L0 a r4 l5 x9=some o1:=h21;unfold privitylaw19_VSSPerfectSecrecy_L0 at h21;refine Sq (Sg (Pp 2 (w_len (own_hd 11 rfl) kr ts_60 (Pp 1 (En ?_)))));rcases bcase h21 with ⟨t5,h22⟩ | ⟨t5,h22⟩
  ·refine Xt t5 (Ws (Tn (Sq (Wb ?_))));obtain ⟨x10,ex10,h23⟩:=bnd h22;obtain ⟨x11,ex11,h24⟩:=bnd h23;obtain ⟨r7,er7,h25⟩:=bnd h24;obtain ⟨r8,er8,h26⟩:=bnd h25;obtain ⟨l8,el8,h27⟩:=bnd h26
   refine h_fm [0,0,0,0,0,24,56,0,0,256,0,0,3072,7168,16256,32764,65535,131071] ⟨13,[0,0,0,0,0,0,0,0,0,0,0,0,0,0,0,0,0,1],[(17,[(0,11)])],[(5,[(0,11)]),(6,[(0,11)]),(9,[(0,0)]),(12,[(0,7)]),(13,[(0,7)]),(16,[(0,11)])],[]⟩ (fun γ=>[v9,iV x9,uN a.X.W.S.P,v9,iV x9,.pointer (some (elV v9 (x9.toNat*Ku.size))),uN x10,uN a.X.W.S.P,.pointer (some ⟨b1,8,none⟩),uN a.D,w4,iV x9,.pointer (some (elV w4 (x9.toNat*Ku.size))),uN x11,uN r7,uN r8,.pointer (some (elV v9 (x9.toNat*Ku.size))),undef]) (fun i γ=>match i with | 17=>[I14 v9 l8] | _=>[]) [0,1,2,3,4,7,8,10,11] tryz_mix Tb_ok ?_ ?_
   ·refine ⟨?_,?_,?_,?_,?_,?_,?_,?_,?_,trivial⟩
    ·intro γ F;refine w_ix (k:=.i64) (own_hd 0 rfl) (ib ex10) (iz ex10) kr ts_60 ti_22 ?_;exact wE (gl []) [(0,Z)] 0
    ·intro γ F;refine w_ldO 0 0 rfl (ig ex10) kr ti_22 rfl rfl ?_;rintro _;exact wE (gl []) [(0,Z)] 0
    ·intro γ F;refine w_ldB 0 8 rfl kr ti_22 rfl rfl ?_;exact wE (gl []) [(0,Z)] 0
    ·intro γ F;refine w_ix (k:=.i64) (own_hd 0 rfl) (ib ex11) (iz ex11) kr ts_60 ti_22 ?_;exact wE (gl []) [(0,Z)] 0
    ·intro γ F;refine w_ldO 0 0 rfl (ig ex11) kr ti_22 rfl rfl ?_;rintro _;exact wE (gl []) [(0,Z)] 0
    ·intro γ F;refine Fe [] (c_privityref01_Mul er7) rfl fok_38 ?_;exact wE (gl []) [] 0
    ·intro γ F;refine Fe [] (c_privityref01_Add er8) rfl fok_37 ?_;exact wE (gl []) [] 0
    ·intro γ F;refine w_ix (k:=.i64) (own_hd 0 rfl) (ib ex10) (iz ex10) kr ts_60 ti_22 ?_;exact wE (gl []) [(0,Z)] 0
    intro γ F;refine w_stO (kd:=Ku) (w:=uN r8) (m:=x9.toNat) (x0:=r8) 0 () rfl (ib ex10) (sinj el8) kr ti_22 (cv0 kr) (it0 rfl) ?_;exact wE (gl []) [(0,Z)] 0
   intro γ2;refine Bn (Tn (Rg (Pp 1 ?_)));obtain ⟨x12,ex12,h28⟩:=bnd h27;refine w_bi (zaddI ex12) kr (Pp 1 (Ei ?_));have h28:=Sj h28;subst h28;exact q_go () hn1 aK (tH [(0,Z),(0,Y),(1,Y),(2,Y),(3,Y),(4,Z),(4,Z),(4,Z),(4,Z),(4,Z),(4,Z),(5,Z),(4,Y)] 5)
  refine Xf t5 (We (Te ?_));refine q_lpX ?_;refine Be ?_;have h22:=Sj h22;subst h22;cases (show _=_ from hn1);exact q_join () trivial aK (tH [(0,Z),(0,Y),(1,Y),(2,Y),(3,Y),(4,Z),(4,Z),(4,Z),(4,Z),(4,Z),(4,Z),(4,Z),(4,Y)] 5)
 rintro ⟨⟩ - j;refine Tn (Sq ?_);refine WH.ent (frzAt 11 rfl) ?_;obtain ⟨l9,el9,h29⟩:=bnd h20;obtain ⟨l10,el10,h30⟩:=bnd h29;obtain ⟨x13,ex13,h31⟩:=bnd h30;obtain ⟨l11,el11,h32⟩:=bnd h31
 refine h_fm [0,1,0,4,0,16,0,64,0,256,960,1984,4032,8176,16383,32767] ⟨13,[0,0,0,0,0,1,0,0,0,0,0,1,1,1,0,1],[(13,[(6,0)]),(15,[(0,11)])],[(1,[(0,9)]),(7,[(0,6)]),(14,[(0,11)])],[(5,[(0,0)]),(10,[(0,5)]),(11,[(0,5)]),(12,[(12,0)]),(13,[(13,0)]),(15,[(14,0)])]⟩ (fun γ=>[.pointer (some ⟨b3,6,none⟩),(γ1 5 0),iV x4,iV x5,v9,(γ 5 0),.pointer (some ⟨b2,6,none⟩),l,iV x4,iV x5,.pointer (some (elV l (x5.toNat*(Kd.sl Ks).size))),(γ 11 0),(γ 12 0),(γ 13 0),.pointer (some (elV (γ1 5 0) (x5.toNat*(Kd.sl Ks).size))),undef]) (fun i γ=>match i with | 5=>[I32 (γ 5 0) l7] | 11=>[rS (γ 11 0) x6] | 12=>[rS (γ 12 0) l9] | 13=>[rS (γ 13 0) l10] | 15=>[I12 (γ1 5 0) l11] | _=>[]) [0,2,4,6,8] tryz_mix Tb_ok ?_ ?_
 ·refine ⟨?_,?_,?_,?_,?_,?_,?_,?_,?_,?_,?_,trivial⟩
  ·intro γ F;refine w_ldB 0 6 rfl kr ti_30 rfl rfl ?_;exact wE (gl []) [(0,Z)] 0
  ·intro γ F;refine w_bi (zsubI ex5) kr ?_;exact wE (gl []) [] 0
  ·intro γ F;refine w_lt (kd:=Ks) (t:=27) (len:=1) (ps0:=[(0,v9)]) (ps:=[(0,.agg #[v9])]) ([l7]:List (List Nat)) _ (rowC (x:=l7) (g:=v9) (itS 0 rfl) row0) (scS (rd_hd 0 rfl) sc0) kr ts_27 ti_60 kr rfl rfl (fun v10=>?_);exact wE (gl [v10]) [(0,Z)] 1
  ·intro γ F;refine w_ldB 0 6 rfl kr ti_30 rfl rfl ?_;exact wE (gl []) [(0,Z)] 0
  ·intro γ F;refine w_bi (zsubI ex5) kr ?_;exact wE (gl []) [] 0
  ·intro γ F;refine w_ix (k:=.i64) (rd_hd 0 rfl) (ib ex6) (iz ex6) kr ts_30 ti_27 ?_;exact wE (gl []) [] 1
  ·intro γ F;refine w_ldR 0 0 rfl (ig ex6) kr ti_27 rfl rfl ?_;rintro v11;exact wE (gl [v11]) [(0,Y)] 2
  ·intro γ F;refine w_cut 0 rfl el9 (loS (k:=.i64)) hiN kr ts_27 ti_60 (fun v12=>?_);exact wE (gl [v12]) [(0,Y)] 2
  ·intro γ F;refine w_app 0 rfl (rd_src 1 rfl) el10 kr ts_27 ti_60 rfl (fun v13=>?_);refine WI.ent (frzAt 0 rfl) ?_;exact wE (gl [v13]) [(0,Y)] 2
  ·intro γ F;refine w_ix (k:=.i64) (own_hd 0 rfl) (ib ex13) (iz ex13) kr ts_30 ti_27 ?_;exact wE (gl []) [(0,Z)] 0
  intro γ F;refine w_stO (kd:=(Kd.sl Ks)) (w:=(γ 13 0)) (m:=x5.toNat) (x0:=l10) 0 (γ 13 0) rfl (ib ex13) (sinj el11) kr ti_27 (cvS (rd_hd 1 rfl)) (itS 1 rfl) ?_;exact wE (gl []) [(0,Z)] 1
 intro γ3;refine Tn (Sg ?_);refine w_lt (kd:=Ku) (t:=60) (len:=0) (ps0:=[]) (ps:=[]) ([]:List Nat) _ row0 sc0 kr ts_60 ti_22 kr rfl rfl (fun v14=>?_);refine Pp 2 (w_ldB 7 5 rfl kr ti_27 rfl rfl (Pp 1 (w_bi (zsubI ex5) kr ?_)));obtain ⟨x14,ex14,h33⟩:=bnd h32;refine w_ix (k:=.i64) (rd_hd 5 rfl) (ib ex14) (iz ex14) kr ts_27 ti_60 ?_
 refine w_ldR 5 0 rfl (ig ex14) kr ti_60 rfl rfl ?_;rintro v15;obtain ⟨l12,el12,h34⟩:=bnd h33;refine w_app 1 rfl (rd_src 0 rfl) el12 kr ts_60 ti_22 rfl (fun v16=>?_);refine Pp 1 (Eg (Pp 1 (Es (Sg (Pp 1 (En ?_))))));obtain ⟨u1,eu1,h35⟩:=bnd h34;have hN1:=ckN_some eu1;obtain ⟨⟨l14,x17⟩,elp2,h36⟩:=bnd h35
 refine h_join (X:=Unit) (fun g=>[(1,(bx b1)),(3,(bx b2)),(4,w3),(5,iV x4),(6,uN a.X.W.S.P),(9,(bx b3)),(12,v16)]) (fun g=>[I18 b1 a.X.W.S c d f l a.Dealer a.D,rI c a.X.W.Corrupt,rD d a.X.W.Deviations,rS f a.X.W.Tapes,I9 l a.X.Q,I17 b2 a.X.W.S c d f l,I51 w3 r3,I17 b3 a.X.W.S c d v5 (γ1 5 0),I19 v5 l2,I12 (γ1 5 0) l11,I14 v16 l14,exF]++F) (fun _=>True) ?_ ?_
 ·refine Wb ?_
  refine h_rs (fun (k2:Nat) (st:(List Nat) × Int) (g:Unit)=>[(1,(bx b1)),(3,(bx b2)),(4,w3),(5,iV x4),(6,uN a.X.W.S.P),(7,w4),(8,iV r5),(9,(bx b3)),(12,v16),(13,iV st.2),(14,iN k2)]) (fun (k2:Nat) (st:(List Nat) × Int) (g:Unit)=>[I18 b1 a.X.W.S c d f l a.Dealer a.D,rI c a.X.W.Corrupt,rD d a.X.W.Deviations,rS f a.X.W.Tapes,I9 l a.X.Q,I17 b2 a.X.W.S c d f l,I51 w3 r3,I14 w4 r4,I17 b3 a.X.W.S c d v5 (γ1 5 0),I19 v5 l2,I12 (γ1 5 0) l11,I14 v16 st.1,exF]++F) () elp2 (Nat.le_max_left ..) aK (tH [(3,Z),(3,Y),(4,Y),(5,Y),(6,Y),(7,Z),(7,Z),(7,Z),(7,Z),(7,Z),(11,Z),(0,Z),(6,Y)] 10) ?_ ?_
  ·rintro ⟨⟩ j;refine Sq (Sg (Pp 4 (w_ldB 5 2 rfl kr ti_3 rfl rfl (Pp 1 (En ?_)))));refine h_cf (b:=(decide ((((max 1 (a.X.W.S.T+1).toNat):Nat):Int)≤a.X.W.S.T))) rgEF kr ?_;refine We (Te (q_rzX (Be ?_)));exact q_join () trivial aK (tH [(0,Z),(0,Y),(1,Y),(2,Y),(3,Y),(4,Z),(4,Z),(5,Z),(5,Z),(5,Z),(5,Z),(5,Y)] 6)
  rintro rem k2 ⟨l13,x15⟩ ⟨⟩ o2 hk1 h37 hn2 j;have h37:privitylaw19_VSSPerfectSecrecy_L1 a r4 r5 k2 l13 x15=some o2:=h37;unfold privitylaw19_VSSPerfectSecrecy_L1 at h37;refine Sq (Sg (Pp 4 (w_ldB 5 2 rfl kr ti_3 rfl rfl (Pp 1 (En ?_)))));refine h_ct (b:=(decide ((k2:Int)≤a.X.W.S.T))) (rgET hk1) kr ?_;refine Ws (Tn (Sq (Wb (Sg (Pp 2 (En ?_))))))
  obtain ⟨⟨l17,x21⟩,elp3,h38⟩:=bnd h37
  refine h_join (X:=Unit) (fun g=>[(1,(bx b1)),(3,(bx b2)),(4,w3),(5,iV x4),(6,uN a.X.W.S.P),(7,w4),(8,iV r5),(9,(bx b3)),(12,v16),(13,iV x21),(14,iN k2)]) (fun g=>[I18 b1 a.X.W.S c d f l a.Dealer a.D,rI c a.X.W.Corrupt,rD d a.X.W.Deviations,rS f a.X.W.Tapes,I9 l a.X.Q,I17 b2 a.X.W.S c d f l,I51 w3 r3,I14 w4 r4,I17 b3 a.X.W.S c d v5 (γ1 5 0),I19 v5 l2,I12 (γ1 5 0) l11,I14 v16 l17,exF]++F) (fun _=>True) ?_ ?_
  ·refine Wb ?_
   refine h_lp (fun (st:(List Nat) × Int × Int) (g:Unit)=>[(1,(bx b1)),(3,(bx b2)),(4,w3),(5,iV x4),(6,uN a.X.W.S.P),(7,w4),(8,iV r5),(9,(bx b3)),(12,v16),(13,iV st.2.1),(14,iN k2),(15,iV st.2.2)]) (fun (st:(List Nat) × Int × Int) (g:Unit)=>[I18 b1 a.X.W.S c d f l a.Dealer a.D,rI c a.X.W.Corrupt,rD d a.X.W.Deviations,rS f a.X.W.Tapes,I9 l a.X.Q,I17 b2 a.X.W.S c d f l,I51 w3 r3,I14 w4 r4,I17 b3 a.X.W.S c d v5 (γ1 5 0),I19 v5 l2,I12 (γ1 5 0) l11,I14 v16 st.1,exF]++F) () elp3 aK (tH [(0,Z),(0,Y),(1,Y),(2,Y),(3,Y),(4,Z),(4,Z),(4,Z),(4,Z),(4,Z),(4,Z),(4,Z),(4,Y)] 5) ?_
   rintro kk ⟨l15,x18,x19⟩ ⟨⟩ o3 h39 hn3 j;have h39:privitylaw19_VSSPerfectSecrecy_L2 a r4 r5 k2 l15 x18 x19=some o3:=h39;unfold privitylaw19_VSSPerfectSecrecy_L2 at h39;refine Sq (Sq ?_);obtain ⟨x22,ej2,h40⟩:=bnd h39
   refine h_join (X:=Unit) (fun g=>[(1,(bx b1)),(3,(bx b2)),(4,w3),(5,iV x4),(6,uN a.X.W.S.P),(7,w4),(8,iV r5),(9,(bx b3)),(12,v16),(13,iV x18),(14,iN k2),(15,iV x19),(176,.bool x22)]) (fun g=>[I18 b1 a.X.W.S c d f l a.Dealer a.D,rI c a.X.W.Corrupt,rD d a.X.W.Deviations,rS f a.X.W.Tapes,I9 l a.X.Q,I17 b2 a.X.W.S c d f l,I51 w3 r3,I14 w4 r4,I17 b3 a.X.W.S c d v5 (γ1 5 0),I19 v5 l2,I12 (γ1 5 0) l11,I14 v16 l15,exF]++F) (fun _=>True) ?_ ?_
   ·refine Rg (Pp 4 (w_ldB 5 2 rfl kr ti_3 rfl rfl (Pp 2 ?_)));rcases bcase ej2 with ⟨t6,h41⟩ | ⟨t6,h41⟩
    ·refine Kb 172 t6 (Pp 4 (Ei ?_));cases h41;exact q_join () trivial aK (tH [(0,Z),(0,Y),(1,Y),(2,Y),(3,Y),(4,Z),(4,Z),(4,Z),(4,Z),(4,Z),(4,Z),(4,Z),(4,Y)] 5)
    refine Kb 172 t6 (Pp 4 (Ei ?_));cases h41;exact q_join () trivial aK (tH [(0,Z),(0,Y),(1,Y),(2,Y),(3,Y),(4,Z),(4,Z),(4,Z),(4,Z),(4,Z),(4,Z),(4,Z),(4,Y)] 5)
   rintro ⟨⟩ - j;refine Tn ?_;rcases bcase h40 with ⟨t7,h42⟩ | ⟨t7,h42⟩
   ·refine Xt t7 (Ws (Tn (Sq (Wb (Sq ?_)))));obtain ⟨x23,ex23,h43⟩:=bnd h42;obtain ⟨x24,ex24,h44⟩:=bnd h43;obtain ⟨x25,ex25,h45⟩:=bnd h44;obtain ⟨r11,er11,h46⟩:=bnd h45;obtain ⟨r12,er12,h47⟩:=bnd h46;obtain ⟨r13,er13,h48⟩:=bnd h47;obtain ⟨l18,el18,h49⟩:=bnd h48
    refine h_fm [0,0,0,0,0,24,56,0,0,256,0,0,0,6144,14336,0,0,98304,229376,523264,1048448,2097148,4194303,8388607] ⟨13,[0,0,0,0,0,0,0,0,0,0,0,0,0,0,0,0,0,0,0,0,0,0,0,1],[(23,[(0,11)])],[(5,[(0,11)]),(6,[(0,11)]),(9,[(0,0)]),(13,[(0,7)]),(14,[(0,7)]),(17,[(0,7)]),(18,[(0,7)]),(22,[(0,11)])],[]⟩ (fun γ=>[v16,iV x18,uN a.X.W.S.P,v16,iV x18,.pointer (some (elV v16 (x18.toNat*Ku.size))),uN x23,uN a.X.W.S.P,.pointer (some ⟨b1,8,none⟩),uN a.D,uN a.X.W.S.P,w4,iN k2,.pointer (some (elV w4 (k2*Ku.size))),uN x24,w4,iV x19,.pointer (some (elV w4 (x19.toNat*Ku.size))),uN x25,uN r11,uN r12,uN r13,.pointer (some (elV v16 (x18.toNat*Ku.size))),undef]) (fun i γ=>match i with | 23=>[I14 v16 l18] | _=>[]) [0,1,2,3,4,7,8,10,11,12,15,16] tryz_mix Tb_ok ?_ ?_
    ·refine ⟨?_,?_,?_,?_,?_,?_,?_,?_,?_,?_,?_,?_,trivial⟩
     ·intro γ F;refine w_ix (k:=.i64) (own_hd 0 rfl) (ib ex23) (iz ex23) kr ts_60 ti_22 ?_;exact wE (gl []) [(0,Z)] 0
     ·intro γ F;refine w_ldO 0 0 rfl (ig ex23) kr ti_22 rfl rfl ?_;rintro _;exact wE (gl []) [(0,Z)] 0
     ·intro γ F;refine w_ldB 0 8 rfl kr ti_22 rfl rfl ?_;exact wE (gl []) [(0,Z)] 0
     ·intro γ F;refine w_ix (k:=.i64) (own_hd 0 rfl) (nbd ex24) rfl kr ts_60 ti_22 ?_;exact wE (gl []) [(0,Z)] 0
     ·intro γ F;refine w_ldO 0 0 rfl ex24 kr ti_22 rfl rfl ?_;rintro _;exact wE (gl []) [(0,Z)] 0
     ·intro γ F;refine w_ix (k:=.i64) (own_hd 0 rfl) (ib ex25) (iz ex25) kr ts_60 ti_22 ?_;exact wE (gl []) [(0,Z)] 0
     ·intro γ F;refine w_ldO 0 0 rfl (ig ex25) kr ti_22 rfl rfl ?_;rintro _;exact wE (gl []) [(0,Z)] 0
     ·intro γ F;refine Fe [] (c_privityref01_Mul er11) rfl fok_38 ?_;exact wE (gl []) [] 0
     ·intro γ F;refine Fe [] (c_privityref01_Mul er12) rfl fok_38 ?_;exact wE (gl []) [] 0
     ·intro γ F;refine Fe [] (c_privityref01_Add er13) rfl fok_37 ?_;exact wE (gl []) [] 0
     ·intro γ F;refine w_ix (k:=.i64) (own_hd 0 rfl) (ib ex23) (iz ex23) kr ts_60 ti_22 ?_;exact wE (gl []) [(0,Z)] 0
     intro γ F;refine w_stO (kd:=Ku) (w:=uN r13) (m:=x18.toNat) (x0:=r13) 0 () rfl (ib ex23) (sinj el18) kr ti_22 (cv0 kr) (it0 rfl) ?_;exact wE (gl []) [(0,Z)] 0
    intro γ4;refine Tn (Rg (Pp 1 ?_));obtain ⟨x26,ex26,h50⟩:=bnd h49;refine w_bi (zaddI ex26) kr (Pp 1 (Ei (Bn (Tn (Rg (Pp 1 ?_))))));obtain ⟨x27,ex27,h51⟩:=bnd h50;refine w_bi (zaddI ex27) kr (Pp 1 (Ei ?_));have h51:=Sj h51;subst h51
    exact q_go () hn3 aK (tH [(0,Z),(0,Y),(1,Y),(2,Y),(3,Y),(4,Z),(4,Z),(4,Z),(4,Z),(4,Z),(4,Z),(5,Z),(4,Y)] 5)
   refine Xf t7 (We (Te ?_));refine q_lpX ?_;refine Be ?_;have h42:=Sj h42;subst h42;cases (show _=_ from hn3);exact q_join () trivial aK (tH [(0,Z),(0,Y),(1,Y),(2,Y),(3,Y),(4,Z),(4,Z),(4,Z),(4,Z),(4,Z),(4,Z),(4,Z),(4,Y)] 5)
  rintro ⟨⟩ - j;refine Bn (Tn (Rg (Pp 1 (w_bi (zinc hk1 hN1) kr (Pp 1 (Ei ?_))))));have h38:=Sj h38;subst h38;exact q_rs () hn2 aK (tH [(0,Z),(0,Y),(1,Y),(2,Y),(3,Y),(4,Z),(4,Z),(4,Z),(4,Z),(4,Z),(4,Z),(4,Z),(4,Y)] 5)
 rintro ⟨⟩ - j;refine Tn (Sg (Pp 2 (w_ldB 7 5 rfl kr ti_27 rfl rfl (Pp 1 (w_bi (zsubI ex5) kr (Pp 1 ?_))))));obtain ⟨x28,ex28,h52⟩:=bnd h36;refine w_ix (k:=.i64) (own_hd 8 rfl) (ib ex28) (iz ex28) kr ts_27 ti_60 ?_;refine WI.ent (frzAt 10 rfl) ?_;obtain ⟨l19,el19,h53⟩:=bnd h52
 refine w_stO (kd:=Ks) (w:=v16) (m:=x5.toNat) (x0:=l14) 9 v16 rfl (ib ex28) (sinj el19) kr ti_60 (cvS (rd_hd 0 rfl)) (itS 0 rfl) ?_;refine Eg (w_ldB 7 0 rfl kr ti_32 rfl rfl ?_);obtain ⟨r14,er14,h54⟩:=bnd h53;rcases r14 with r15 | r16
 ·have h55:=sumL h54;refine w_fn [(3,Y),(4,Y),(5,Y),(6,Y),(11,Y)] (c_privitylaw19_run er14) rfl fok_21 kr ?_;rintro _ _ ⟨w12_0,w12_1,hv,rfl⟩;have hv:=hv.symm;subst hv;refine Pp 4 ?_;refine w_al kr ti_45 (fun q4=>?_);refine WI.hd (y:=I28 q4) kr ?_;refine w_opP 0 rfl (fun b4 hb=>?_);subst hb;refine Pp 1 ?_
  refine w_stB (v:=.agg #[w12_0,w12_1]) (off:=0) (cs:=[w12_0,w12_1]) 0 rfl (cv0 kr) kr ti_45 rfl rfl (oC (sl_one (rd_hd 1 rfl)) (oC (sl_one (rd_hd 2 rfl)) oN)) ?_;refine WI.hd (y:=I25 b4 w12_0 w12_1) kr ?_;refine Pp 1 (Eg (w_ldB 12 0 rfl kr ti_32 rfl rfl ?_));refine WI.ent (frzAt 3 rfl) ?_;refine WI.ent (frzAt 13 rfl) ?_
  obtain ⟨r17,er17,h56⟩:=bnd h55;rcases r17 with r18 | r19
  ·have h57:=sumL h56;refine w_fn [(7,Y),(8,Y),(1,Y),(0,Y),(14,Y)] (c_privitylaw19_run er17) rfl fok_21 kr ?_;rintro _ _ ⟨w15_0,w15_1,hv,rfl⟩;have hv:=hv.symm;subst hv;refine Pp 4 ?_;refine w_al kr ti_45 (fun q5=>?_);refine WI.hd (y:=I28 q5) kr ?_;refine w_opP 0 rfl (fun b5 hb=>?_);subst hb;refine Pp 1 ?_
   refine w_stB (v:=.agg #[w15_0,w15_1]) (off:=0) (cs:=[w15_0,w15_1]) 0 rfl (cv0 kr) kr ti_45 rfl rfl (oC (sl_one (rd_hd 1 rfl)) (oC (sl_one (rd_hd 2 rfl)) oN)) ?_;refine WI.hd (y:=I25 b5 w15_0 w15_1) kr ?_;refine Pp 1 (Es (Sg (Pp 6 (En ?_))));refine h_ct (b:=true) rfl kr ?_;refine Sg (Pp 1 (Er (Tr ?_)));have h57:=Sj h57;subst h57
   exact Ql [.bool false] [] 18
  have h58:=sumR h56;refine w_fn [(7,Y),(8,Y),(1,Y),(0,Y),(14,Y)] (c_privitylaw19_run er17) rfl fok_21 kr ?_;rintro _ _ ⟨w17,w17__0_1,w17__0_2,w17__0_3,w17__2,w17__3,w18_0,w18_1,hv,rfl⟩;have hv:=hv.symm;subst hv;refine w_opP 0 rfl (fun b6 hb=>?_);subst hb;refine Pp 4 ?_;refine w_al kr ti_45 (fun q6=>?_)
  refine WI.hd (y:=I28 q6) kr ?_;refine w_opP 0 rfl (fun b7 hb=>?_);subst hb;refine Pp 1 ?_;refine w_stB (v:=.agg #[w18_0,w18_1]) (off:=0) (cs:=[w18_0,w18_1]) 0 rfl (cv0 kr) kr ti_45 rfl rfl (oC (sl_one (rd_hd 7 rfl)) (oC (sl_one (rd_hd 8 rfl)) oN)) ?_;refine WI.hd (y:=I25 b7 w18_0 w18_1) kr ?_
  refine Pp 1 (Es (Sg (Pp 6 (En ?_))));refine h_ct (b:=true) rfl kr ?_;refine Sg (Pp 1 (Er (Tr ?_)));have h58:=Sj h58;subst h58;exact Ql [.bool false] [] 24
 have h59:=sumR h54;refine w_fn [(3,Y),(4,Y),(5,Y),(6,Y),(11,Y)] (c_privitylaw19_run er14) rfl fok_21 kr ?_;rintro _ _ ⟨w20,w20__0_1,w20__0_2,w20__0_3,w20__2,w20__3,w21_0,w21_1,hv,rfl⟩;have hv:=hv.symm;subst hv;refine w_opP 0 rfl (fun b8 hb=>?_);subst hb;refine Pp 4 ?_;refine w_al kr ti_45 (fun q7=>?_)
 refine WI.hd (y:=I28 q7) kr ?_;refine w_opP 0 rfl (fun b9 hb=>?_);subst hb;refine Pp 1 ?_;refine w_stB (v:=.agg #[w21_0,w21_1]) (off:=0) (cs:=[w21_0,w21_1]) 0 rfl (cv0 kr) kr ti_45 rfl rfl (oC (sl_one (rd_hd 7 rfl)) (oC (sl_one (rd_hd 8 rfl)) oN)) ?_;refine WI.hd (y:=I25 b9 w21_0 w21_1) kr ?_
 refine Pp 1 (Eg (w_ldB 18 0 rfl kr ti_32 rfl rfl ?_));refine WI.ent (frzAt 9 rfl) ?_;refine WI.ent (frzAt 19 rfl) ?_;obtain ⟨r20,er20,h60⟩:=bnd h59;rcases r20 with r21 | r22
 ·have h61:=sumL h60
  refine Rh ([I9 (γ1 5 0) l11,rS v5 l19,I25 b9 w21_0 w21_1,I1 b8 r16.1.zw.S w20__0_1 w20__0_2 w20__0_3 r16.1.zround w20__2 w20__3,rI w20__0_1 r16.1.zw.Corrupt,rD w20__0_2 r16.1.zw.Deviations,rS w20__0_3 r16.1.zw.Tapes,I2 w20__2 r16.1.zviews,I0 w20__3 r16.1.ztapes,I5 w21_0 r16.2.1.Rows,I43 w21_1 r16.2.1.Disqualified,rU v16 l14,I18 b1 a.X.W.S c d f l a.Dealer a.D,rI c a.X.W.Corrupt,rD d a.X.W.Deviations,rS f a.X.W.Tapes,I9 l a.X.Q,I17 b2 a.X.W.S c d f l,I51 w3 r3,I17 b3 a.X.W.S c d v5 (γ1 5 0),exF]++F) ?_
  refine w_fn [(13,Y),(14,Y),(1,Y),(0,Y),(20,Y)] (c_privitylaw19_run er20) rfl fok_21 kr ?_;rintro _ _ ⟨w24_0,w24_1,hv,rfl⟩;have hv:=hv.symm;subst hv;refine Pp 4 ?_;refine w_al kr ti_45 (fun q8=>?_);refine WI.hd (y:=I28 q8) kr ?_;refine w_opP 0 rfl (fun b10 hb=>?_);subst hb;refine Pp 1 ?_
  refine w_stB (v:=.agg #[w24_0,w24_1]) (off:=0) (cs:=[w24_0,w24_1]) 0 rfl (cv0 kr) kr ti_45 rfl rfl (oC (sl_one (rd_hd 1 rfl)) (oC (sl_one (rd_hd 2 rfl)) oN)) ?_;refine WI.hd (y:=I25 b10 w24_0 w24_1) kr ?_;refine Pp 1 (Es (Sq ?_));obtain ⟨⟨⟩,ej3,h62⟩:=bnd h61
  refine h_join (X:=Unit) (fun g=>[(1,(bx b1)),(3,(bx b2)),(4,w3),(5,iV x4),(6,uN a.X.W.S.P),(16,(bx b8)),(19,(.pointer none)),(20,(bx b10)),(228,.bool true)]) (fun g=>[I18 b1 a.X.W.S c d f l a.Dealer a.D,rI c a.X.W.Corrupt,rD d a.X.W.Deviations,rS f a.X.W.Tapes,I9 l a.X.Q,I17 b2 a.X.W.S c d f l,I51 w3 r3,I1 b8 r16.1.zw.S w20__0_1 w20__0_2 w20__0_3 r16.1.zround w20__2 w20__3,rI w20__0_1 r16.1.zw.Corrupt,rD w20__0_2 r16.1.zw.Deviations,rS w20__0_3 r16.1.zw.Tapes,I2 w20__2 r16.1.zviews,I0 w20__3 r16.1.ztapes,I25 b10 w24_0 w24_1,I5 w24_0 r21.Rows,I43 w24_1 r21.Disqualified,exF]++F) (fun _=>True) ?_ ?_
  ·refine Rg (Pp 3 ?_);rcases bcase ej3 with ⟨t8,h63⟩ | ⟨t8,h63⟩
   ·refine Kb 225 t8 (Pp 3 (Ei ?_));cases h63;exact q_join () trivial aK (tH [(15,Z),(15,Y),(16,Y),(17,Y),(18,Y),(19,Z),(19,Z),(6,Z),(6,Y),(7,Y),(8,Y),(9,Z),(9,Z),(0,Z),(0,Y),(1,Y),(16,Y)] 17)
   refine Kb 225 t8 (Pp 3 (Ei ?_));cases h63;exact q_join () trivial aK (tH [(15,Z),(15,Y),(16,Y),(17,Y),(18,Y),(19,Z),(19,Z),(6,Z),(6,Y),(7,Y),(8,Y),(9,Z),(9,Z),(0,Z),(0,Y),(1,Y),(16,Y)] 17)
  rintro ⟨⟩ - j;refine Tn ?_;refine h_ct (b:=true) rfl kr ?_;refine Sg (Pp 1 (Er (Tr ?_)));have h62:=Sj h62;subst h62;exact Ql [.bool false] [] 17
 have h64:=sumR h60
 refine Rh ([I9 (γ1 5 0) l11,rS v5 l19,I25 b9 w21_0 w21_1,I1 b8 r16.1.zw.S w20__0_1 w20__0_2 w20__0_3 r16.1.zround w20__2 w20__3,rI w20__0_1 r16.1.zw.Corrupt,rD w20__0_2 r16.1.zw.Deviations,rS w20__0_3 r16.1.zw.Tapes,I2 w20__2 r16.1.zviews,I0 w20__3 r16.1.ztapes,I5 w21_0 r16.2.1.Rows,I43 w21_1 r16.2.1.Disqualified,rU v16 l14,I18 b1 a.X.W.S c d f l a.Dealer a.D,rI c a.X.W.Corrupt,rD d a.X.W.Deviations,rS f a.X.W.Tapes,I9 l a.X.Q,I17 b2 a.X.W.S c d f l,I51 w3 r3,I17 b3 a.X.W.S c d v5 (γ1 5 0),exF]++F) ?_
 refine w_fn [(13,Y),(14,Y),(1,Y),(0,Y),(20,Y)] (c_privitylaw19_run er20) rfl fok_21 kr ?_;rintro _ _ ⟨w26,w26__0_1,w26__0_2,w26__0_3,w26__2,w26__3,w27_0,w27_1,hv,rfl⟩;have hv:=hv.symm;subst hv;refine w_opP 0 rfl (fun b11 hb=>?_);subst hb;refine Pp 4 ?_;refine w_al kr ti_45 (fun q9=>?_)
 refine WI.hd (y:=I28 q9) kr ?_;refine w_opP 0 rfl (fun b12 hb=>?_);subst hb;refine Pp 1 ?_;refine w_stB (v:=.agg #[w27_0,w27_1]) (off:=0) (cs:=[w27_0,w27_1]) 0 rfl (cv0 kr) kr ti_45 rfl rfl (oC (sl_one (rd_hd 7 rfl)) (oC (sl_one (rd_hd 8 rfl)) oN)) ?_;refine WI.hd (y:=I25 b12 w27_0 w27_1) kr ?_
 refine Pp 1 (Es (Sq ?_));obtain ⟨x29,ej4,h65⟩:=bnd h64
 refine h_join (X:=Unit) (fun g=>[(1,(bx b1)),(3,(bx b2)),(4,w3),(5,iV x4),(6,uN a.X.W.S.P),(16,(bx b8)),(19,(bx b11)),(20,(bx b12)),(228,.bool x29)]) (fun g=>[I18 b1 a.X.W.S c d f l a.Dealer a.D,rI c a.X.W.Corrupt,rD d a.X.W.Deviations,rS f a.X.W.Tapes,I9 l a.X.Q,I17 b2 a.X.W.S c d f l,I51 w3 r3,I1 b8 r16.1.zw.S w20__0_1 w20__0_2 w20__0_3 r16.1.zround w20__2 w20__3,rI w20__0_1 r16.1.zw.Corrupt,rD w20__0_2 r16.1.zw.Deviations,rS w20__0_3 r16.1.zw.Tapes,I2 w20__2 r16.1.zviews,I0 w20__3 r16.1.ztapes,I1 b11 r22.1.zw.S w26__0_1 w26__0_2 w26__0_3 r22.1.zround w26__2 w26__3,rI w26__0_1 r22.1.zw.Corrupt,rD w26__0_2 r22.1.zw.Deviations,rS w26__0_3 r22.1.zw.Tapes,I2 w26__2 r22.1.zviews,I0 w26__3 r22.1.ztapes,I25 b12 w27_0 w27_1,I5 w27_0 r22.2.1.Rows,I43 w27_1 r22.2.1.Disqualified,exF]++F) (fun _=>True) ?_ ?_
 ·refine Rg (Pp 3 ?_);rcases bcase ej4 with ⟨t9,h66⟩ | ⟨t9,h66⟩
  ·refine Kb 225 t9 (Pp 3 (Ei ?_));cases h66;exact q_join () trivial aK (tH [(21,Z),(21,Y),(22,Y),(23,Y),(24,Y),(25,Z),(25,Z),(12,Z),(12,Y),(13,Y),(14,Y),(15,Z),(15,Z),(1,Z),(1,Y),(2,Y),(3,Y),(4,Z),(4,Z),(0,Z),(3,Y),(4,Y),(19,Y)] 20)
  refine Kb 225 t9 (Pp 3 (Ei ?_));cases h66;exact q_join () trivial aK (tH [(21,Z),(21,Y),(22,Y),(23,Y),(24,Y),(25,Z),(25,Z),(12,Z),(12,Y),(13,Y),(14,Y),(15,Z),(15,Z),(1,Z),(1,Y),(2,Y),(3,Y),(4,Z),(4,Z),(0,Z),(3,Y),(4,Y),(19,Y)] 20)
 rintro ⟨⟩ - j;refine Tn ?_;rcases bcase h65 with ⟨t10,h67⟩ | ⟨t10,h67⟩
 ·refine Xt t10 (Sg (Pp 1 (Er (Tr ?_))));have h67:=Sj h67;subst h67;exact Ql [.bool false] [] 23
 refine Xs t10 (Tn (Sq (Sg (Pp 1 (En ?_)))));refine h_lenle (rd_lenle 1 rfl) (fun hN2=>?_);obtain ⟨r23,elp4,h68⟩:=bnd h67
 refine h_join (X:=Unit × Unit) (fun g=>[(1,(bx b1)),(3,(bx b2)),(4,w3),(5,iV x4),(6,uN a.X.W.S.P),(20,(bx b12))]) (fun g=>[I18 b1 a.X.W.S c d f l a.Dealer a.D,rI c a.X.W.Corrupt,rD d a.X.W.Deviations,rS f a.X.W.Tapes,I9 l a.X.Q,I17 b2 a.X.W.S c d f l,I51 w3 r3,I25 b12 w27_0 w27_1,I5 w27_0 r22.2.1.Rows,I43 w27_1 r22.2.1.Disqualified,exF]++F) (fun g=>r23=.go g.2) ?_ ?_
 ·refine Wb ?_
  refine h_rg (fun (k3:Nat) (st:Unit) (g:Unit)=>[(1,(bx b1)),(3,(bx b2)),(4,w3),(5,iV x4),(6,uN a.X.W.S.P),(16,(bx b8)),(19,(bx b11)),(20,(bx b12)),(22,iN k3)]) (fun (k3:Nat) (st:Unit) (g:Unit)=>[I18 b1 a.X.W.S c d f l a.Dealer a.D,rI c a.X.W.Corrupt,rD d a.X.W.Deviations,rS f a.X.W.Tapes,I9 l a.X.Q,I17 b2 a.X.W.S c d f l,I51 w3 r3,I1 b8 r16.1.zw.S w20__0_1 w20__0_2 w20__0_3 r16.1.zround w20__2 w20__3,rI w20__0_1 r16.1.zw.Corrupt,rD w20__0_2 r16.1.zw.Deviations,rS w20__0_3 r16.1.zw.Tapes,I2 w20__2 r16.1.zviews,I0 w20__3 r16.1.ztapes,I1 b11 r22.1.zw.S w26__0_1 w26__0_2 w26__0_3 r22.1.zround w26__2 w26__3,rI w26__0_1 r22.1.zw.Corrupt,rD w26__0_2 r22.1.zw.Deviations,rS w26__0_3 r22.1.zw.Tapes,I2 w26__2 r22.1.zviews,I0 w26__3 r22.1.ztapes,I25 b12 w27_0 w27_1,I5 w27_0 r22.2.1.Rows,I43 w27_1 r22.2.1.Disqualified,exF]++F) () elp4 (Nat.zero_le _) aK (tH [(0,Z),(0,Y),(1,Y),(2,Y),(3,Y),(4,Z),(4,Z),(4,Z),(4,Y),(5,Y),(6,Y),(7,Z),(7,Z),(7,Z),(7,Y),(8,Y),(9,Y),(10,Z),(10,Z),(10,Z),(10,Y),(11,Y),(12,Y)] 13) ?_ ?_
  ·rintro ⟨⟩ ⟨⟩ hr2 j;refine Sq (Sg (Pp 3 (w_ldB 5 3 rfl kr ti_25 rfl rfl (w_len (rd_hd 1 rfl) kr ts_25 (Pp 1 (En (Xf (rgF (N:=a.X.W.Corrupt.length)) (We (Te (q_rzX (Be ?_)))))))))));exact q_join ((),()) hr2 aK (tH [(0,Z),(0,Y),(1,Y),(2,Y),(3,Y),(4,Z),(4,Z),(16,Z),(16,Y),(17,Y),(18,Y)] 19)
  rintro rem k3 ⟨⟩ ⟨⟩ o4 hk2 h69 hn4 j;have h69:privitylaw19_VSSPerfectSecrecy_L3 a r16 r22 k3=some o4:=h69;unfold privitylaw19_VSSPerfectSecrecy_L3 at h69;refine Sq (Sg (Pp 3 (w_ldB 5 3 rfl kr ti_25 rfl rfl (w_len (rd_hd 1 rfl) kr ts_25 (Pp 1 (En (Xt (rgT (k:=k3) (N:=a.X.W.Corrupt.length) hk2) (Ws (Tn (Sq (Wb (Sq ?_))))))))))));refine WH.ent (hd_add (tree_hdI (inP 11 rfl))) ?_
  refine WH.ent (hd_add (tree_hdI (inP 13 rfl))) ?_;refine WH.ent (hd_add (tree_hdI (inP 19 rfl))) ?_;refine WH.ent (hd_add (tree_hdI (inP 21 rfl))) ?_;obtain ⟨x30,ex30,h70⟩:=bnd h69;obtain ⟨r24,er24,h71⟩:=bnd h70;obtain ⟨r25,er25,h72⟩:=bnd h71;obtain ⟨r26,er26,h73⟩:=bnd h72
  refine h_fm [0,0,2,6,0,30,62,127,0,0,512,1536,0,7680,15872,32767,65535,131071] ⟨27,[0,0,0,0,0,0,0,1,0,0,0,0,0,0,0,1,0,0],[],[(3,[(0,9)]),(7,[(0,11),(0,15),(0,16)]),(11,[(0,9)]),(15,[(0,17),(0,21),(0,22)])],[(5,[(0,5)]),(6,[(0,5)]),(7,[(0,12),(0,13),(0,14)]),(13,[(0,5)]),(14,[(0,5)]),(15,[(0,18),(0,19),(0,20)]),(16,[(16,0),(8,0)])]⟩ (fun γ=>[(bx b8),bx b2,.pointer (some ⟨b2,3,none⟩),c,iN k3,.pointer (some (elV c (k3*Ki.size))),iV x30,(γ 7 0),(bx b11),bx b2,.pointer (some ⟨b2,3,none⟩),c,iN k3,.pointer (some (elV c (k3*Ki.size))),iV x30,(γ 15 0),.bool r26,.bool (!r26)]) (fun i γ=>match i with | 7=>[rdV KE (γ 7 0) r24] | 15=>[rdV KE (γ 15 0) r25] | _=>[]) [0,1,2,4,8,9,10,12,17] tryz_mix Tb_ok ?_ ?_
  ·refine ⟨?_,?_,?_,?_,?_,?_,?_,?_,?_,trivial⟩
   ·intro γ F;refine w_ldB 0 3 rfl kr ti_25 rfl rfl ?_;exact wE (gl []) [(0,Z)] 0
   ·intro γ F;refine w_ix (k:=.i64) (rd_hd 0 rfl) (nbd ex30) rfl kr ts_25 ti_3 ?_;exact wE (gl []) [] 1
   ·intro γ F;refine w_ldR 0 0 rfl ex30 kr ti_3 rfl rfl ?_;rintro _;exact wE (gl []) [] 1
   ·intro γ F
    refine Rh ([I1 b8 r16.1.zw.S w20__0_1 w20__0_2 w20__0_3 r16.1.zround w20__2 w20__3,I2 w20__2 r16.1.zviews,I0 w20__3 r16.1.ztapes,rI w20__0_1 r16.1.zw.Corrupt,rD w20__0_2 r16.1.zw.Deviations,rS w20__0_3 r16.1.zw.Tapes]++F) ?_
    refine Fx [(0,Z),(2,Y),(3,Y),(4,Y),(0,Z),(0,Z)] (c_network_Net_View er24) rfl fok_29 (fun w29=>?_);refine WI.ent (frzAt 0 rfl) ?_;exact wE (gl [w29]) [(0,Y),(1,Z),(1,Z),(1,Z)] 4
   ·intro γ F;refine w_ldB 0 3 rfl kr ti_25 rfl rfl ?_;exact wE (gl []) [(0,Z)] 0
   ·intro γ F;refine w_ix (k:=.i64) (rd_hd 0 rfl) (nbd ex30) rfl kr ts_25 ti_3 ?_;exact wE (gl []) [] 1
   ·intro γ F;refine w_ldR 0 0 rfl ex30 kr ti_3 rfl rfl ?_;rintro _;exact wE (gl []) [] 1
   ·intro γ F
    refine Rh ([I1 b11 r22.1.zw.S w26__0_1 w26__0_2 w26__0_3 r22.1.zround w26__2 w26__3,I2 w26__2 r22.1.zviews,I0 w26__3 r22.1.ztapes,rI w26__0_1 r22.1.zw.Corrupt,rD w26__0_2 r22.1.zw.Deviations,rS w26__0_3 r22.1.zw.Tapes]++F) ?_
    refine Fx [(0,Z),(2,Y),(3,Y),(4,Y),(0,Z),(0,Z)] (c_network_Net_View er25) rfl fok_29 (fun w30=>?_);refine WI.ent (frzAt 0 rfl) ?_;exact wE (gl [w30]) [(0,Y),(1,Z),(1,Z),(1,Z)] 4
   intro γ F;refine Fe [(1,Y),(0,Y)] (c_privityref15_Same er26) rfl fok_28 ?_;exact wE (gl []) [] 2
  intro γ5;refine Tn ?_;rcases bcase h73 with ⟨t11,h74⟩ | ⟨t11,h74⟩
  ·refine Xt t11 (Sg (Pp 1 (Er (Br (Tr (q_rgR (Br (q_joinR (Tr ?_)))))))));have h74:=Sj h74;subst h74;have hn:=(show _=_ from hn4);subst hn;have h68:=Sj (show some _=some _ from h68);subst h68;exact Ql [.bool false] [] 29
  refine Xs t11 (Bn (Tn (Rg (Pp 1 (w_bi (zinc hk2 hN2) kr (Pp 1 (Ei ?_)))))));have h74:=Sj h74;subst h74
  exact q_rgo () hn4 aK (tH [(4,Z),(4,Y),(5,Y),(6,Y),(7,Y),(8,Z),(8,Z),(8,Z),(8,Y),(9,Y),(10,Y),(11,Z),(11,Z),(11,Z),(11,Y),(12,Y),(13,Y),(14,Z),(14,Z),(14,Z),(14,Y),(15,Y),(16,Y)] 19)
 rintro ⟨⟨⟩,⟨⟩⟩ hc j;subst hc;refine Tn (Sg (w_ldB 7 0 rfl kr ti_45 rfl rfl (Pp 1 ?_)));obtain ⟨r27,er27,h75⟩:=bnd h68;refine Fx [(8,Y),(9,Y)] (c_vss_SharingOf er27) rfl fok_32 (fun w32=>?_);refine Pp 1 (Eg (Pp 1 (Es (Sg (Pp 1 (En ?_))))));refine WH.ent (ownNil (kd:=K_api_Point) (e:=75)) ?_;refine h_lenle (own_lenle 8 rfl) (fun hN3=>?_);obtain ⟨l21,elp5,h76⟩:=bnd h75
 refine h_join (X:=Value) (fun g=>[(1,(bx b1)),(3,(bx b2)),(5,iV x4),(6,uN a.X.W.S.P),(24,g)]) (fun g=>[I18 b1 a.X.W.S c d f l a.Dealer a.D,rI c a.X.W.Corrupt,rD d a.X.W.Deviations,rS f a.X.W.Tapes,I9 l a.X.Q,I17 b2 a.X.W.S c d f l,ownV K_api_Point 75 g l21,exF]++F) (fun _=>True) ?_ ?_
 ·refine Wb ?_
  refine h_rs (fun (k4:Nat) (st:(List T_api_Point)) (g:Value)=>[(1,(bx b1)),(3,(bx b2)),(4,w3),(5,iV x4),(6,uN a.X.W.S.P),(23,w32),(24,g),(25,iN k4)]) (fun (k4:Nat) (st:(List T_api_Point)) (g:Value)=>[I18 b1 a.X.W.S c d f l a.Dealer a.D,rI c a.X.W.Corrupt,rD d a.X.W.Deviations,rS f a.X.W.Tapes,I9 l a.X.Q,I17 b2 a.X.W.S c d f l,I51 w3 r3,I19 w32 r27,ownV K_api_Point 75 g st,exF]++F) (.slice none 0 0) elp5 (Nat.zero_le _) aK (tH [(2,Z),(2,Y),(3,Y),(4,Y),(5,Y),(6,Z),(6,Z),(1,Z),(0,Z),(7,Y)] 8) ?_ ?_
  ·rintro g3 j;refine Sq (Sg (Pp 2 (w_len (own_hd 6 rfl) kr ts_25 (Pp 1 (En (Xf (rgF (N:=r3.length)) (We (Te (q_rzX (Be ?_))))))))));exact q_join g3 trivial aK (tH [(0,Z),(0,Y),(1,Y),(2,Y),(3,Y),(4,Z),(6,Z),(6,Y)] 7)
  rintro rem k4 l20 g1 o5 hk3 h77 hn5 j;have h77:privitylaw19_VSSPerfectSecrecy_L4 r3 r27 k4 l20=some o5:=h77;unfold privitylaw19_VSSPerfectSecrecy_L4 at h77;refine Sq (Sg (Pp 2 (w_len (own_hd 6 rfl) kr ts_25 (Pp 1 (En (Xt (rgT (k:=k4) (N:=r3.length) hk3) (Ws (Tn (Sq (Wb ?_))))))))));obtain ⟨x32,ex32,h78⟩:=bnd h77;obtain ⟨x33,ex33,h79⟩:=bnd h78;obtain ⟨x34,ex34,h80⟩:=bnd h79
  obtain ⟨x35,ex35,h81⟩:=bnd h80;obtain ⟨x36,ex36,h82⟩:=bnd h81;obtain ⟨l22,el22,h83⟩:=bnd h82
  refine h_fm [0,0,0,6,14,30,0,0,0,384,896,1920,4032,8128,16320,32704,65534,131070,262143,524287] ⟨10,[0,0,0,0,0,0,0,0,0,0,0,0,0,1,0,0,0,1,1,0],[(18,[(0,8)])],[(3,[(0,6)]),(4,[(0,6)]),(9,[(0,6)]),(10,[(0,6)]),(12,[(0,7)]),(13,[(0,7)]),(18,[(18,0)])],[(14,[(14,0)]),(15,[(14,0)])]⟩ (fun γ=>[g1,w3,iN k4,.pointer (some (elV w3 (k4*Ki.size))),iV x32,uN x33,w32,w3,iN k4,.pointer (some (elV w3 (k4*Ki.size))),iV x32,iV x34,.pointer (some (elV w32 (x34.toNat*Ks.size))),(γ 13 0),.pointer (some (elV (γ 13 0) (0*Ku.size))),uN x36,.agg #[uN x33,uN x36],(γ 17 0),(γ 18 0),(γ 18 0)]) (fun i γ=>match i with | 13=>[rU (γ 13 0) x35] | 17=>[I61 (γ 17 0) x33 x36] | 18=>[ownV K_api_Point 75 (γ 18 0) l22] | _=>[]) [0,1,2,6,7,8,19] tryz_mix Tb_ok ?_ ?_
  ·refine ⟨?_,?_,?_,?_,?_,?_,?_,?_,?_,?_,?_,?_,?_,trivial⟩
   ·intro γ F;refine w_ix (k:=.i64) (own_hd 0 rfl) (nbd ex32) rfl kr ts_25 ti_3 ?_;exact wE (gl []) [(0,Z)] 0
   ·intro γ F;refine w_ldO 0 0 rfl ex32 kr ti_3 rfl rfl ?_;rintro _;exact wE (gl []) [(0,Z)] 0
   ·intro γ F;refine w_cv Tb_ok (ecU ex33) kr ?_;exact wE (gl []) [] 0
   ·intro γ F;refine w_ix (k:=.i64) (own_hd 0 rfl) (nbd ex32) rfl kr ts_25 ti_3 ?_;exact wE (gl []) [(0,Z)] 0
   ·intro γ F;refine w_ldO 0 0 rfl ex32 kr ti_3 rfl rfl ?_;rintro _;exact wE (gl []) [(0,Z)] 0
   ·intro γ F;refine w_bi (zsubI ex34) kr ?_;exact wE (gl []) [] 0
   ·intro γ F;refine w_ix (k:=.i64) (own_hd 0 rfl) (ib ex35) (iz ex35) kr ts_70 ti_60 ?_;exact wE (gl []) [(0,Z)] 0
   ·intro γ F;refine w_ldO 0 0 rfl (ig ex35) kr ti_60 rfl rfl ?_;rintro v17;exact wE (gl [v17]) [(0,Y),(1,Z)] 1
   ·intro γ F;refine w_ix (k:=.i64) (rd_hd 0 rfl) (nbd ex36) rfl kr ts_60 ti_22 ?_;exact wE (gl []) [] 1
   ·intro γ F;refine w_ldR 0 0 rfl ex36 kr ti_22 rfl rfl ?_;rintro _;exact wE (gl []) [] 1
   ·intro γ F;refine w_bd (v:=.agg #[uN x33,uN x36]) (t:=75) (ps0:=[(0,uN x33),(1,uN x36)]) (ps:=[(0,uN x33),(1,uN x36)]) (scI (scI sc0)) kr (fun w=>by kernel_rfl) ?_;exact wE (gl []) [] 0
   ·intro γ F;refine w_lt (kd:=K_api_Point) (t:=73) (len:=1) (ps0:=[(0,.agg #[uN x33,uN x36])]) (ps:=[(0,.agg #[uN x33,uN x36])]) ([(⟨x33,x36⟩:T_api_Point)]:List T_api_Point) _ (rowC (x:=(⟨x33,x36⟩:T_api_Point)) (g:=((),())) (itC (itA (it0 rfl) (it0 rfl))) row0) (scI sc0) kr ts_73 ti_75 kr rfl rfl (fun v18=>?_)
    exact wE (gl [v18]) [(0,Z)] 0
   intro γ F;refine w_app 0 rfl (own_src 1 rfl) el22 kr ts_73 ti_75 rfl (fun v19=>?_);exact wE (gl [v19]) [(0,Z),(0,Z)] 0
  intro γ6;refine Bn (Tn (Rg (Pp 1 (w_bi (zinc hk3 hN3) kr (Pp 1 (Ei ?_))))));have h83:=Sj h83;subst h83;exact q_rs (γ6 18 0) hn5 aK (tH [(0,Z),(0,Y),(1,Y),(2,Y),(3,Y),(4,Z),(4,Z),(4,Z),(7,Z),(4,Y)] 7)
 rintro g2 - j;refine Tn (Sg (Pp 4 (w_ldB 5 2 rfl kr ti_3 rfl rfl (Pp 1 ?_))));refine WI.ent (frzAt 6 rfl) ?_;obtain ⟨r29,er29,h84⟩:=bnd h76;refine Fe [(0,Y)] (c_shamir_Reconstruct er29) rfl fok_34 ?_;refine Pp 5 (Es ?_);rcases bcase h84 with ⟨t12,h85⟩ | ⟨t12,h85⟩
 ·obtain ⟨x37,ex37,h86⟩:=bnd h85;obtain ⟨r30,er30,h87⟩:=bnd h86
  refine h_fm [0,1,3,7,7,7,39,7,135,487,999,2023,4071,8167,16359,7,32775,131063,262143,524287,1048575] ⟨8,[0,0,0,0,0,0,0,0,0,0,1,0,1,0,0,0,0,0,0,0,0],[],[(6,[(0,6)]),(16,[(0,1)])],[(9,[(0,5)]),(10,[(0,5)]),(11,[(11,0)]),(12,[(11,0)]),(13,[(13,0)]),(14,[(13,0)])]⟩ (fun γ=>[iV r29.2,.bool (r29.2 == (0:Int)),.bool true,uN r29.1,uN a.X.W.S.P,.pointer (some ⟨b2,6,none⟩),l,iV x4,iV x5,.pointer (some (elV l (x5.toNat*(Kd.sl Ks).size))),(γ 10 0),.pointer (some (elV (γ 10 0) (0*Ks.size))),(γ 12 0),.pointer (some (elV (γ 12 0) (0*Ku.size))),uN x37,.pointer (some ⟨b1,8,none⟩),uN a.D,uN r30,.bool ((r29.1:Int) == (r30:Int)),.bool ((r29.1:Int) == (r30:Int)),.bool ((r29.1:Int) == (r30:Int))]) (fun i γ=>match i with | 10=>[rS (γ 10 0) x6] | 12=>[rU (γ 12 0) x7] | _=>[]) [0,1,3,4,5,7,15,18,19,20] tryz_mix Tb_ok ?_ ?_
  ·refine ⟨?_,?_,?_,?_,?_,?_,?_,?_,?_,?_,?_,trivial⟩
   ·intro γ F;refine w_pk Tb_ok (congrArg Value.bool t12) kr ?_;exact wE (gl []) [] 0
   ·intro γ F;refine w_ldB 0 6 rfl kr ti_30 rfl rfl ?_;exact wE (gl []) [(0,Z)] 0
   ·intro γ F;refine w_bi (zsubI ex5) kr ?_;exact wE (gl []) [] 0
   ·intro γ F;refine w_ix (k:=.i64) (rd_hd 0 rfl) (ib ex6) (iz ex6) kr ts_30 ti_27 ?_;exact wE (gl []) [] 1
   ·intro γ F;refine w_ldR 0 0 rfl (ig ex6) kr ti_27 rfl rfl ?_;rintro v20;exact wE (gl [v20]) [(0,Y)] 2
   ·intro γ F;refine w_ix (k:=.i64) (rd_hd 0 rfl) (nbd ex7) rfl kr ts_27 ti_60 ?_;exact wE (gl []) [] 1
   ·intro γ F;refine w_ldR 0 0 rfl ex7 kr ti_60 rfl rfl ?_;rintro v21;exact wE (gl [v21]) [(0,Y)] 2
   ·intro γ F;refine w_ix (k:=.i64) (rd_hd 0 rfl) (nbd ex37) rfl kr ts_60 ti_22 ?_;exact wE (gl []) [] 1
   ·intro γ F;refine w_ldR 0 0 rfl ex37 kr ti_22 rfl rfl ?_;rintro _;exact wE (gl []) [] 1
   ·intro γ F;refine w_ldB 0 8 rfl kr ti_22 rfl rfl ?_;exact wE (gl []) [(0,Z)] 0
   intro γ F;refine Fe [] (c_privityref01_Add er30) rfl fok_37 ?_;exact wE (gl []) [] 0
  intro γ7;refine Tn (Wr ?_);have h87:=Sj h87;subst h87;exact Ql [.bool ((r29.1:Int) == (r30:Int))] [] 10
 refine h_fm [0,1,3,7,7,7,39,7,135,487,999,2023,4071,8167,16359,7,32775,131063,262143,524287,1048575] ⟨8,[0,0,0,0,0,0,0,0,0,0,0,0,0,0,0,0,0,0,0,0,0],[],[],[]⟩ (fun γ=>[iV r29.2,.bool (r29.2 == (0:Int)),.bool false,undef,undef,undef,undef,undef,undef,undef,undef,undef,undef,undef,undef,undef,undef,undef,undef,.bool false,.bool false]) nO [0,1,3,4,5,6,7,8,9,10,11,12,13,14,15,16,17,18,19,20] tryz_mix Tb_ok ?_ ?_
 ·refine ⟨?_,trivial⟩;intro γ F;refine w_pk Tb_ok (congrArg Value.bool t12) kr ?_;exact wE (gl []) [] 0
 intro γ8;refine Tn (Wr ?_);have h85:=Sj h85;subst h85;exact Ql [.bool false] [] 8
end Go.Proofs.YtahofpgjianhdaaGreatDoor
