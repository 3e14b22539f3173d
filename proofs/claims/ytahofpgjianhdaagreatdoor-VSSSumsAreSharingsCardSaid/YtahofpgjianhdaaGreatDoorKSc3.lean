/- Contracts of Go functions, one theorem each: the call returns just what the plain function says. Printed by a program of this claim. -/
import Derived.Test.YtahofpgjianhdaaGreatDoorKSc2
set_option linter.unusedVariables false
namespace Go.Proofs.YtahofpgjianhdaaGreatDoor
open Go Gv Gw Pu
set_option maxHeartbeats 4000000
theorem c_shamir_placed {b:List T_api_Point} {c:Value} {r:Bool} (h:shamir_placed b=some r):Ct Tryz.prog 83 [c] [I72 c b] (fun v L=>v=.bool r∧L=[]):=by
 refine ct_intro Tryz.func83 rfl kr (fun F=>?_);unfold shamir_placed at h;refine Sg (Pp 1 (Eg ?_));refine w_mkM (t:=186) .u64 Value.bool kr (fun v1=>?_);refine w_inM (vd:=Value.bool) (k:=(0:Int)) (a:=true) 0 rfl kr tm_186 ?_;refine Pp 2 (Es (Sg (Pp 1 (w_len (rd_hd 1 rfl) kr ts_73 (Pp 1 (En ?_))))));refine h_lenle (rd_lenle 1 rfl) (fun hN1=>?_);obtain ⟨r1,elp1,h1⟩:=bnd h
 refine h_join (X:=Unit × (List (Int × Bool))) (fun g=>[]) (fun g=>[]++F) (fun g=>r1=.go g.2) ?_ ?_
 ·refine Wb ?_;refine h_rg (fun (k1:Nat) (st:(List (Int × Bool))) (g:Unit)=>[(3,v1),(8,c),(9,iN b.length),(10,iN k1)]) (fun (k1:Nat) (st:(List (Int × Bool))) (g:Unit)=>[mapV .u64 Value.bool v1 st,I72 c b]++F) () elp1 (Nat.zero_le _) aK (tH [(0,Z),(0,Y)] 1) ?_ ?_
  ·rintro l3 ⟨⟩ hr1 j;refine Sg (Pp 1 (Es (Xf (rgF (N:=b.length)) (We (Te (q_rzX (Be ?_)))))));exact q_join ((),l3) hr1 aK (tH [] 2)
  rintro rem k1 l1 ⟨⟩ o1 hk1 h2 hn1 j;have h2:shamir_placed_L0 b k1 l1=some o1:=h2;unfold shamir_placed_L0 at h2;refine Sg (Pp 1 (Es (Xt (rgT (k:=k1) (N:=b.length) hk1) (Ws (Tn (Sq (Wb (Sg ?_))))))));obtain ⟨x2,ex2,h3⟩:=bnd h2;refine w_ix (k:=.i64) (rd_hd 1 rfl) (nbd ex2) rfl kr ts_73 ti_75 ?_;refine w_ldR 1 0 rfl ex2 kr ti_75 rfl rfl ?_;rintro ⟨_,_⟩
  refine w_al kr ti_75 (fun q1=>?_);refine WI.hd (y:=blkP q1 75 [uN 0,uN 0]) kr ?_;refine w_opP 0 rfl (fun b1 hb=>?_);subst hb;refine w_stB (v:=.agg #[uN x2.X,uN x2.Y]) (off:=0) (cs:=[uN x2.X,uN x2.Y]) 0 rfl (cv0 kr) kr ti_75 rfl rfl (oC (fun _ _=>rfl) (oC (fun _ _=>rfl) oN)) ?_
  refine WI.hd (y:=I47 b1 x2.X x2.Y) kr ?_;refine Es (Sg (Pp 2 (w_ldB 0 0 rfl kr ti_22 rfl rfl ?_)));refine w_lkM (k:=(x2.X:Int)) false false 1 rfl kr tm_186 ti_4 rfl ?_;refine En ?_;rcases bcase h3 with ⟨t1,h4⟩ | ⟨t1,h4⟩
  ·refine Xt t1 (Sg (Pp 1 (Er (Tr (Br (Tr (q_rgR (Br (q_joinR (Tr ?_))))))))));have h4:=Sj h4;subst h4;have hn:=(show _=_ from hn1);subst hn;have h1:=Sj (show some _=some _ from h1);subst h1;exact Ql [.bool false] [] 3
  refine Xs t1 (Tn (Rg (Pp 2 (w_ldB 0 0 rfl kr ti_22 rfl rfl ?_))));refine w_upM (vd:=Value.bool) (k:=(x2.X:Int)) (a:=true) 1 rfl kr tm_186 ?_;refine Ei (Bn (Tn (Rg (w_bi (zinc hk1 hN1) kr (Pp 1 (Ei ?_))))));have h4:=Sj h4;subst h4;exact q_rgo () hn1 aK (tH [(0,Z),(1,Y)] 2)
 rintro ⟨⟨⟩,l2⟩ hc j;subst hc;refine Tn (Sg (Pp 1 (Er ?_)));have h1:=Sj h1;subst h1;exact Ql [.bool true] [] 0
theorem c_math_bits_Len {a:Nat} {r:Int} (h:math_bits_Len a=some r):Ct Tryz.prog 185 [uN a] [] (fun v L=>v=iV r∧L=[]):=by
 refine ct_intro Tryz.func185 rfl kr (fun F=>?_);unfold math_bits_Len at h;refine Sg (Pp 1 (Es ?_));refine h_cf (b:=false) rfl kr ?_;refine Ws (Tn (Sg (Pp 1 ?_)));obtain ⟨r1,er1,h1⟩:=bnd h;refine Fe [] (c_math_bits_Len64 er1) rfl fok_187 ?_;refine Pp 1 (Er ?_);have h1:=Sj h1;subst h1;exact Ql [iV r1] [] 0
theorem c_cmp_isNaN_uint64 {a:Nat} {r:Bool} (h:cmp_isNaN_uint64 a=some r):Ct Tryz.prog 209 [uN a] [] (fun v L=>v=.bool r∧L=[]):=by
 refine ct_intro Tryz.func209 rfl kr (fun F=>?_);unfold cmp_isNaN_uint64 at h;refine Sg (Pp 1 (Eg (Pp 4 (Er ?_))));have h:=Option.some.inj h;subst h;exact Ql [.bool ((a:Int) != (a:Int))] [] 0
theorem c_cmp_Less_uint64 {a b:Nat} {r:Bool} (h:cmp_Less_uint64 a b=some r):Ct Tryz.prog 199 [uN a,uN b] [] (fun v L=>v=.bool r∧L=[]):=by
 refine ct_intro Tryz.func199 rfl kr (fun F=>?_);unfold cmp_Less_uint64 at h;refine Sg (Pp 1 (Eg (Pp 1 ?_)));obtain ⟨r1,er1,h1⟩:=bnd h;refine Fe [] (c_cmp_isNaN_uint64 er1) rfl fok_209 ?_;refine Pp 1 ?_;rcases bcase h1 with ⟨t1,h2⟩ | ⟨t1,h2⟩
 ·refine Kb 7 t1 (Pp 1 ?_);obtain ⟨r2,er2,h3⟩:=bnd h2;refine Fe [] (c_cmp_isNaN_uint64 er2) rfl fok_209 ?_;refine Pp 3 ?_;rcases bcase h3 with ⟨t2,h4⟩ | ⟨t2,h4⟩
  ·refine Kb 12 t2 (Pp 5 (Er ?_));have h4:=Sj h4;subst h4;exact Ql [.bool true] [] 0
  refine Kb 12 t2 (Pp 5 (Er ?_));have h4:=Sj h4;subst h4;exact Ql [.bool (decide ((a:Int) < (b:Int)))] [] 0
 refine Kb 7 t1 (Pp 10 (Er ?_));have h2:=Sj h2;subst h2;exact Ql [.bool (decide ((a:Int) < (b:Int)))] [] 0
theorem c_slices_insertionSortOrdered_uint64 {d:List Nat} {b c:Int} {a:Value} {r:(List Nat)} (h:slices_insertionSortOrdered_uint64 d b c=some r):Ct Tryz.prog 193 [a,iV b,iV c] [I15 a d] (fun v L=>v=.tuple #[]∧L=[I15 a r]):=by
 refine ct_intro Tryz.func193 rfl kr (fun F=>?_);unfold slices_insertionSortOrdered_uint64 at h;refine Sg (Pp 1 ?_);obtain ⟨x1,ex1,h1⟩:=bnd h;refine w_bi (zaddI ex1) kr (Pp 1 (En ?_));obtain ⟨l3,elp1,h2⟩:=bnd h1;refine h_join (X:=Unit) (fun g=>[(0,a)]) (fun g=>[I15 a l3]++F) (fun _=>True) ?_ ?_
 ·refine Wb ?_;refine h_lp (fun (st:(List Nat) × Int) (g:Unit)=>[(0,a),(1,iV b),(2,iV c),(6,iV st.2)]) (fun (st:(List Nat) × Int) (g:Unit)=>[I15 a st.1]++F) () elp1 aK (tH [(0,Z)] 0) ?_;rintro kk ⟨l1,x2⟩ ⟨⟩ o1 h3 hn1 j;have h3:slices_insertionSortOrdered_uint64_L0 b c l1 x2=some o1:=h3
  unfold slices_insertionSortOrdered_uint64_L0 at h3;refine Sq (Sg (Pp 3 (En ?_)));rcases bcase h3 with ⟨t1,h4⟩ | ⟨t1,h4⟩
  ·refine Xt t1 (Ws (Tn (Sq (Wb (Sg (Pp 2 (En ?_)))))));obtain ⟨l6,elp2,h5⟩:=bnd h4;refine h_join (X:=Unit) (fun g=>[(0,a),(1,iV b),(2,iV c),(6,iV x2)]) (fun g=>[I15 a l6]++F) (fun _=>True) ?_ ?_
   ·refine Wb ?_;refine h_lp (fun (st:(List Nat) × Int) (g:Unit)=>[(0,a),(1,iV b),(2,iV c),(6,iV x2),(7,iV st.2)]) (fun (st:(List Nat) × Int) (g:Unit)=>[I15 a st.1]++F) () elp2 aK (tH [(0,Z)] 0) ?_;rintro kk ⟨l4,x3⟩ ⟨⟩ o2 h6 hn2 j;have h6:slices_insertionSortOrdered_uint64_L1 b l4 x3=some o2:=h6
    unfold slices_insertionSortOrdered_uint64_L1 at h6;refine Sq (Sq ?_);obtain ⟨x4,ej1,h7⟩:=bnd h6;refine h_join (X:=Unit) (fun g=>[(0,a),(1,iV b),(2,iV c),(6,iV x2),(7,iV x3),(30,.bool x4)]) (fun g=>[I15 a l4]++F) (fun _=>True) ?_ ?_
    ·rcases bcase ej1 with ⟨t2,h8⟩ | ⟨t2,h8⟩
     ·obtain ⟨x5,ex5,h9⟩:=bnd h8;obtain ⟨x6,ex6,h10⟩:=bnd h9;obtain ⟨x7,ex7,h11⟩:=bnd h10;obtain ⟨r3,er3,h12⟩:=bnd h11
      refine h_fm [0,0,3,7,15,15,63,127,15,15,527,1807,3855,8191,16383] ⟨1,[0,0,0,0,0,0,0,0,0,0,0,0,0,0,0],[],[(6,[(0,0)]),(7,[(0,0)]),(11,[(0,0)]),(12,[(0,0)])],[]⟩ (fun γ=>[iV x3,iV b,.bool (decide (x3 > b)),.bool true,a,iV x3,.pointer (some (elV a (x3.toNat*Ku.size))),uN x5,a,iV x3,iV x6,.pointer (some (elV a (x6.toNat*Ku.size))),uN x7,.bool r3,.bool r3]) nO [0,1,2,4,5,8,9,14] tryz_mix Tb_ok ?_ ?_
      ·refine ⟨?_,?_,?_,?_,?_,?_,?_,trivial⟩
       ·intro γ F;refine w_pk Tb_ok (congrArg Value.bool t2) kr ?_;exact wE (gl []) [] 0
       ·intro γ F;refine w_ix (k:=.i64) (own_hd 0 rfl) (ib ex5) (iz ex5) kr ts_60 ti_22 ?_;exact wE (gl []) [(0,Z)] 0
       ·intro γ F;refine w_ldO 0 0 rfl (ig ex5) kr ti_22 rfl rfl ?_;rintro _;exact wE (gl []) [(0,Z)] 0
       ·intro γ F;refine w_bi (zsubI ex6) kr ?_;exact wE (gl []) [] 0
       ·intro γ F;refine w_ix (k:=.i64) (own_hd 0 rfl) (ib ex7) (iz ex7) kr ts_60 ti_22 ?_;exact wE (gl []) [(0,Z)] 0
       ·intro γ F;refine w_ldO 0 0 rfl (ig ex7) kr ti_22 rfl rfl ?_;rintro _;exact wE (gl []) [(0,Z)] 0
       intro γ F;refine Fe [] (c_cmp_Less_uint64 er3) rfl fok_199 ?_;exact wE (gl []) [] 0
      intro γ1;cases h12;exact q_join () trivial aK (tH [(0,Z)] 0)
     refine h_fm [0,0,3,7,15,15,63,127,15,15,527,1807,3855,8191,16383] ⟨1,[0,0,0,0,0,0,0,0,0,0,0,0,0,0,0],[],[],[]⟩ (fun γ=>[iV x3,iV b,.bool (decide (x3 > b)),.bool false,undef,undef,undef,undef,undef,undef,undef,undef,undef,undef,.bool false]) nO [0,1,2,4,5,6,7,8,9,10,11,12,13,14] tryz_mix Tb_ok ?_ ?_
     ·refine ⟨?_,trivial⟩;intro γ F;refine w_pk Tb_ok (congrArg Value.bool t2) kr ?_;exact wE (gl []) [] 0
     intro γ2;cases h8;exact q_join () trivial aK (tH [(0,Z)] 0)
    rintro ⟨⟩ - j;refine Tn ?_;rcases bcase h7 with ⟨t3,h13⟩ | ⟨t3,h13⟩
    ·refine Xt t3 (Ws (Tn (Sq (Wb ?_))));refine WH.ent (hd_add (own_hd 0 rfl)) ?_;obtain ⟨x8,ex8,h14⟩:=bnd h13;obtain ⟨x9,ex9,h15⟩:=bnd h14;obtain ⟨x10,ex10,h16⟩:=bnd h15;obtain ⟨l7,el7,h17⟩:=bnd h16;obtain ⟨x11,ex11,h18⟩:=bnd h17;obtain ⟨l8,el8,h19⟩:=bnd h18
     refine h_fm [0,0,0,0,8,0,0,64,224,480,0,0,3072,7168,16355,32739,65535,131071] ⟨2,[0,0,0,0,0,0,0,0,0,0,0,0,0,0,0,1,0,1],[(15,[(0,1)]),(17,[(16,0)])],[(9,[(0,1)]),(13,[(0,1)])],[(8,[(0,0)]),(12,[(0,0)]),(14,[(0,0)]),(16,[(0,0)])]⟩ (fun γ=>[a,iV x3,a,iV x3,iV x8,a,iV x3,iV x8,.pointer (some (elV a (x8.toNat*Ku.size))),uN x9,a,iV x3,.pointer (some (elV a (x3.toNat*Ku.size))),uN x10,.pointer (some (elV a (x3.toNat*Ku.size))),undef,.pointer (some (elV a (x8.toNat*Ku.size))),undef]) (fun i γ=>match i with | 15=>[I15 a l7] | 17=>[I15 a l8] | _=>[]) [0,1,2,3,5,6,10,11] tryz_mix Tb_ok ?_ ?_
     ·refine ⟨?_,?_,?_,?_,?_,?_,?_,?_,?_,?_,trivial⟩
      ·intro γ F;refine w_bi (zsubI ex8) kr ?_;exact wE (gl []) [] 0
      ·intro γ F;refine w_bi (zsubI ex8) kr ?_;exact wE (gl []) [] 0
      ·intro γ F;refine w_ix (k:=.i64) (hdI 0 rfl) (ib ex9) (iz ex9) kr ts_60 ti_22 ?_;exact wE (gl []) [] 1
      ·intro γ F;refine w_ldO 0 0 rfl (ig ex9) kr ti_22 rfl rfl ?_;rintro _;exact wE (gl []) [(0,Z)] 0
      ·intro γ F;refine w_ix (k:=.i64) (hdI 0 rfl) (ib ex10) (iz ex10) kr ts_60 ti_22 ?_;exact wE (gl []) [] 1
      ·intro γ F;refine w_ldO 0 0 rfl (ig ex10) kr ti_22 rfl rfl ?_;rintro _;exact wE (gl []) [(0,Z)] 0
      ·intro γ F;refine w_ix (k:=.i64) (hdI 0 rfl) (ib ex10) (iz ex10) kr ts_60 ti_22 ?_;exact wE (gl []) [] 1
      ·intro γ F;refine w_stO (kd:=Ku) (w:=uN x9) (m:=x3.toNat) (x0:=x9) 0 () rfl (ib ex10) (sinj el7) kr ti_22 (cv0 kr) (it0 rfl) ?_;exact wE (gl []) [(0,Z)] 0
      ·intro γ F;refine w_ix (k:=.i64) (hdI 0 rfl) (ib ex9) (iz ex9) kr ts_60 ti_22 ?_;exact wE (gl []) [] 1
      intro γ F;refine w_stO (kd:=Ku) (w:=uN x10) (m:=x8.toNat) (x0:=x10) 0 () rfl (ib ex11) (sinj el8) kr ti_22 (cv0 kr) (it0 rfl) ?_;exact wE (gl []) [(0,Z)] 0
     intro γ3;refine Bn (Tn (Rg (Pp 1 (w_bi (zsubI ex8) kr (Pp 1 (Ei ?_))))));have h19:=Sj h19;subst h19;exact q_go () hn2 aK (tH [(1,Z)] 1)
    refine Xf t3 (We (Te ?_));refine q_lpX ?_;refine Be ?_;have h13:=Sj h13;subst h13;cases (show _=_ from hn2);exact q_join () trivial aK (tH [(0,Z)] 0)
   rintro ⟨⟩ - j;refine Bn (Tn (Rg (Pp 1 ?_)));obtain ⟨x12,ex12,h20⟩:=bnd h5;refine w_bi (zaddI ex12) kr (Pp 1 (Ei ?_));have h20:=Sj h20;subst h20;exact q_go () hn1 aK (tH [(0,Z)] 0)
  refine Xf t1 (We (Te ?_));refine q_lpX ?_;refine Be ?_;have h4:=Sj h4;subst h4;cases (show _=_ from hn1);exact q_join () trivial aK (tH [(0,Z)] 0)
 rintro ⟨⟩ - j;have h2:=Sj h2;subst h2;exact q_end (l:=[]) [(0,Z)] 0 ⟨rfl,rfl⟩ (.inr rfl) kr kr kr
theorem c_slices_pdqsortOrdered_uint64 {b:List Nat} {d e c:Int} {a:Value} {r:(List Nat)} (h:slices_pdqsortOrdered_uint64 b d e c=some r):Ct Tryz.prog 184 [a,iV d,iV e,iV c] [I15 a b] (fun v L=>v=.tuple #[]∧L=[I15 a r]):=by
 refine ct_intro Tryz.func184 rfl kr (fun F=>?_);unfold slices_pdqsortOrdered_uint64 at h;refine Sg (Pp 1 (Eg (Pp 1 (En ?_))));obtain ⟨r1,elp1,h1⟩:=bnd h;refine Wb ?_
 refine h_lp (fun (st:Unit) (g:Unit)=>[(0,a),(1,iV d),(2,iV e),(3,iV c),(8,.bool true),(9,.bool true)]) (fun (st:Unit) (g:Unit)=>[I15 a b]++F) () elp1 aK (tH [(0,Z)] 0) ?_;rintro kk ⟨⟩ ⟨⟩ o1 h2 hn1 j;have h2:slices_pdqsortOrdered_uint64_L0 b d e=some o1:=h2
 unfold slices_pdqsortOrdered_uint64_L0 at h2;refine Wb (Sg (Pp 2 ?_));obtain ⟨x1,ex1,h3⟩:=bnd h2;refine w_bi (zsubI ex1) kr (Pp 1 (Es (Sg (Pp 2 (En ?_)))));rcases bcase h3 with ⟨t1,h4⟩ | ⟨t1,h4⟩
 ·refine Xt t1 (Sg (Pp 3 ?_));obtain ⟨r2,er2,h5⟩:=bnd h4;refine Fe [(0,Z)] (c_slices_insertionSortOrdered_uint64 er2) rfl fok_193 ?_;refine Er (Tr (Br ?_));refine q_lpR ?_;refine Br ?_;have h5:=Sj h5;subst h5;have hn:=(show _=_ from hn1);subst hn;have h1:=Sj (show some _=some _ from h1);subst h1;exact Ql [] [(0,Z)] 0
 refine Xs t1 (Tn (Sq (Sg ?_)));cases h4
theorem c_slices_Sort_Luint64_uint64 {b:List Nat} {a:Value} {r:(List Nat)} (h:slices_Sort_Luint64_uint64 b=some r):Ct Tryz.prog 171 [a] [I15 a b] (fun v L=>v=.tuple #[]∧L=[I15 a r]):=by
 refine ct_intro Tryz.func171 rfl kr (fun F=>?_);unfold slices_Sort_Luint64_uint64 at h;refine Sg (Pp 1 (w_len (own_hd 0 rfl) kr ts_60 (Pp 1 (En (Rg (Pp 3 ?_))))));obtain ⟨x1,ex1,h1⟩:=bnd h;refine w_cv Tb_ok (ecU ex1) kr ?_;obtain ⟨r1,er1,h2⟩:=bnd h1;refine Fe [] (c_math_bits_Len er1) rfl fok_185 ?_;obtain ⟨r2,er2,h3⟩:=bnd h2
 refine Fe [(0,Z)] (c_slices_pdqsortOrdered_uint64 er2) rfl fok_184 ?_;refine Ei ?_;have h3:=Sj h3;subst h3;exact q_end (l:=[]) [(0,Z)] 0 ⟨rfl,rfl⟩ (.inr rfl) kr kr kr
theorem c_slices_Compact_Luint64_uint64 {b:List Nat} {a:Value} {r:(List Nat)} (h:slices_Compact_Luint64_uint64 b=some r):Ct Tryz.prog 172 [a] [rU a b] (fun v L=>∃ w0:Value,v=w0∧L=[rU w0 r]):=by
 refine ct_intro Tryz.func172 rfl kr (fun F=>?_);unfold slices_Compact_Luint64_uint64 at h;refine Sg (Pp 1 (Es (Sg (Pp 1 (w_len (rd_hd 0 rfl) kr ts_60 (Pp 1 (En ?_)))))));rcases bcase h with ⟨t1,h1⟩ | ⟨t1,h1⟩
 ·refine Xt t1 (Sg (Pp 2 (Er (Tr ?_))));have h1:=Sj h1;subst h1;exact q_end (l:=[a]) [(0,Y)] 1 ⟨a,rfl,rfl⟩ (.inl rfl) kr kr kr
 refine Xs t1 (Tn (Sq (Sg (Pp 1 (En ?_)))));obtain ⟨⟨⟩,elp1,h2⟩:=bnd h1;refine h_join (X:=Unit) (fun g=>[(0,a)]) (fun g=>[rU a b]++F) (fun _=>True) ?_ ?_
 ·refine Wb ?_;refine h_lp (fun (st:Int) (g:Unit)=>[(0,a),(3,iV st)]) (fun (st:Int) (g:Unit)=>[rU a b]++F) () elp1 aK (tH [(0,Y)] 1) ?_;rintro kk x1 ⟨⟩ o1 h3 hn1 j;have h3:slices_Compact_Luint64_uint64_L0 b x1=some o1:=h3;unfold slices_Compact_Luint64_uint64_L0 at h3;refine Sq (Sg (Pp 2 (w_len (rd_hd 0 rfl) kr ts_60 (Pp 1 (En ?_)))))
  rcases bcase h3 with ⟨t2,h4⟩ | ⟨t2,h4⟩
  ·refine Xt t2 (Ws (Tn (Sq (Wb (Sq ?_)))));obtain ⟨x2,ex2,h5⟩:=bnd h4;obtain ⟨x3,ex3,h6⟩:=bnd h5;obtain ⟨x4,ex4,h7⟩:=bnd h6
   refine h_fm [0,0,3,7,0,0,32,112,240,511] ⟨1,[0,0,0,0,0,0,0,0,0,0],[],[],[(2,[(0,0)]),(3,[(0,0)]),(7,[(0,0)]),(8,[(0,0)])]⟩ (fun γ=>[a,iV x1,.pointer (some (elV a (x1.toNat*Ku.size))),uN x2,a,iV x1,iV x3,.pointer (some (elV a (x3.toNat*Ku.size))),uN x4,.bool ((x2:Int) == (x4:Int))]) nO [0,1,4,5,9] tryz_mix Tb_ok ?_ ?_
   ·refine ⟨?_,?_,?_,?_,?_,trivial⟩
    ·intro γ F;refine w_ix (k:=.i64) (rd_hd 0 rfl) (ib ex2) (iz ex2) kr ts_60 ti_22 ?_;exact wE (gl []) [] 1
    ·intro γ F;refine w_ldR 0 0 rfl (ig ex2) kr ti_22 rfl rfl ?_;rintro _;exact wE (gl []) [] 1
    ·intro γ F;refine w_bi (zsubI ex3) kr ?_;exact wE (gl []) [] 0
    ·intro γ F;refine w_ix (k:=.i64) (rd_hd 0 rfl) (ib ex4) (iz ex4) kr ts_60 ti_22 ?_;exact wE (gl []) [] 1
    intro γ F;refine w_ldR 0 0 rfl (ig ex4) kr ti_22 rfl rfl ?_;rintro _;exact wE (gl []) [] 1
   intro γ1;refine Tn ?_;rcases bcase h7 with ⟨t3,h8⟩ | ⟨t3,h8⟩
   ·refine Xt t3 (Sg ?_);cases h8
   refine Xs t3 (Bn (Tn (Rg (Pp 1 ?_))));obtain ⟨x5,ex5,h9⟩:=bnd h8;refine w_bi (zaddI ex5) kr (Pp 1 (Ei ?_));have h9:=Sj h9;subst h9;exact q_go () hn1 aK (tH [(0,Y)] 1)
  refine Xf t2 (We (Te ?_));refine q_lpX ?_;refine Be ?_;have h4:=Sj h4;subst h4;cases (show _=_ from hn1);exact q_join () trivial aK (tH [(0,Y)] 1)
 rintro ⟨⟩ - j;refine Tn (Sg (Pp 2 (Er ?_)));have h2:=Sj h2;subst h2;exact q_end (l:=[a]) [(0,Y)] 1 ⟨a,rfl,rfl⟩ (.inl rfl) kr kr kr
theorem c_interpolate_unlike {b:List Nat} {a:Value} {r:Bool} (h:interpolate_unlike b=some r):Ct Tryz.prog 140 [a] [rU a b] (fun v L=>v=.bool r∧L=[]):=by
 refine ct_intro Tryz.func140 rfl kr (fun F=>?_);unfold interpolate_unlike at h;refine Sg (Pp 1 (Eg (Pp 1 ?_)));obtain ⟨r1,er1,h1⟩:=bnd h;refine Fx [(0,Y)] (c_slices_Clone_Luint64_uint64 er1) rfl fok_170 (fun w1=>?_);refine Pp 1 (Eg (Pp 1 ?_));obtain ⟨r2,er2,h2⟩:=bnd h1;refine Fe [(0,Z)] (c_slices_Sort_Luint64_uint64 er2) rfl fok_171 ?_;refine Eg (Pp 1 ?_)
 refine WI.ent (frzAt 0 rfl) ?_;obtain ⟨r3,er3,h3⟩:=bnd h2;refine Fx [(0,Y)] (c_slices_Compact_Luint64_uint64 er3) rfl fok_172 (fun w2=>?_);refine w_len (rd_hd 0 rfl) kr ts_60 (Pp 1 (w_len (rd_hd 2 rfl) kr ts_60 (Pp 2 (Er ?_))));have h3:=Sj h3;subst h3;exact Ql [.bool ((r3.length:Int) == (b.length:Int))] [] 3
theorem c_field_Neg {a b r:Nat} (h:field_Neg a b=some r):Ct Tryz.prog 144 [uN a,uN b] [] (fun v L=>v=uN r∧L=[]):=by
 refine ct_intro Tryz.func144 rfl kr (fun F=>?_);unfold field_Neg at h;refine Sg (Pp 1 (Es (Sg (Pp 2 (En ?_)))));rcases bcase h with ⟨t1,h1⟩ | ⟨t1,h1⟩
 ·refine Xt t1 (Sg (Pp 1 (Er (Tr ?_))));have h1:=Sj h1;subst h1;exact Ql [uN 0] [] 0
 refine Xs t1 (Tn (Sg (Pp 2 ?_)));obtain ⟨x1,ex1,h2⟩:=bnd h1;refine w_bi (esubU ex1) kr (Pp 1 (Er ?_));have h2:=Sj h2;subst h2;exact Ql [uN x1] [] 0
theorem c_poly_sum_put {b:T_poly_sum} {c:Int} {e a:Nat} {d:Value} {r:(List Nat)} (h:poly_sum_put b c e=some r):Ct Tryz.prog 173 [(bx a),iV c,uN e] [I43 a b.zp d,I15 d b.zf] (fun v L=>∃ w0:Value,v=.tuple #[]∧L=[I43 a b.zp w0,I15 w0 r]):=by
 refine ct_intro Tryz.func173 rfl kr (fun F=>?_);unfold poly_sum_put at h;refine Sq ?_;obtain ⟨l3,elp1,h1⟩:=bnd h;refine h_join (X:=Value) (fun g=>[(0,(bx a)),(1,iV c),(2,uN e)]) (fun g=>[I43 a b.zp g,I15 g l3]++F) (fun _=>True) ?_ ?_
 ·refine Wb ?_;refine h_lp (fun (st:(List Nat)) (g:Value)=>[(0,(bx a)),(1,iV c),(2,uN e)]) (fun (st:(List Nat)) (g:Value)=>[I43 a b.zp g,I15 g st]++F) d elp1 aK (tH [(0,Z),(0,Z)] 0) ?_;rintro kk l1 g1 o1 h2 hn1 j
  have h2:poly_sum_put_L0 c l1=some o1:=h2;unfold poly_sum_put_L0 at h2;refine Sq (Sg (Pp 3 (w_ldB 0 1 rfl kr ti_60 rfl rfl (w_len (own_hd 1 rfl) kr ts_60 (Pp 2 (En ?_))))));rcases bcase h2 with ⟨t1,h3⟩ | ⟨t1,h3⟩
  ·refine Xt t1 (Ws (Tn (Wb (Rg (Pp 4 (w_ldB 0 1 rfl kr ti_60 rfl rfl ?_))))));refine w_lt (kd:=Ku) (t:=60) (len:=1) (ps0:=[(0,uN 0)]) (ps:=[(0,uN 0)]) ([0]:List Nat) _ (rowC (x:=0) (g:=()) (it0 rfl) row0) (scI sc0) kr ts_60 ti_22 kr rfl rfl (fun v1=>?_);obtain ⟨l4,el4,h4⟩:=bnd h3
   refine w_app 2 rfl (own_src 0 rfl) el4 kr ts_60 ti_22 rfl (fun v2=>?_);refine Pp 2 ?_;refine w_stB (v:=v2) (off:=1) (cs:=[v2]) 2 rfl (cvS (own_hd 0 rfl)) kr ti_60 rfl rfl (oC (sl_one (own_hd 0 rfl)) oN) ?_;refine WI.hd (y:=I43 a b.zp v2) kr ?_;refine Ei (Bn ?_);have h4:=Sj h4;subst h4
   exact q_go v2 hn1 aK (tH [(0,Z),(0,Z)] 1)
  refine Xf t1 (We (Te ?_));refine q_lpX ?_;refine Be ?_;have h3:=Sj h3;subst h3;cases (show _=_ from hn1);exact q_join g1 trivial aK (tH [(0,Z),(0,Z)] 0)
 rintro g3 - j;refine Tn ?_;obtain ⟨x1,ex1,h5⟩:=bnd h1;obtain ⟨r2,er2,h6⟩:=bnd h5;obtain ⟨l5,el5,h7⟩:=bnd h6
 refine h_fm [0,1,3,7,0,0,32,96,224,0,512,1536,3584,0,15872,32256,0,131040,262143,524287] ⟨2,[0,0,0,0,0,0,0,0,0,0,0,0,0,0,0,0,0,0,0,1],[(19,[(0,1)])],[(3,[(0,0)]),(8,[(0,0)]),(12,[(0,0)]),(14,[(0,1)]),(15,[(0,1)]),(18,[(0,1)])],[]⟩ (fun γ=>[(bx a),(bx a),.pointer (some ⟨a,1,none⟩),g3,iV c,(bx a),(bx a),bx a,uN b.zp,(bx a),(bx a),.pointer (some ⟨a,1,none⟩),g3,iV c,.pointer (some (elV g3 (c.toNat*Ku.size))),uN x1,uN e,uN r2,.pointer (some (elV g3 (c.toNat*Ku.size))),undef]) (fun i γ=>match i with | 19=>[I15 g3 l5] | _=>[]) [0,1,2,4,5,6,7,9,10,11,13,16] tryz_mix Tb_ok ?_ ?_
 ·refine ⟨?_,?_,?_,?_,?_,?_,?_,?_,trivial⟩
  ·intro γ F;refine w_ldB 0 1 rfl kr ti_60 rfl rfl ?_;exact wE (gl []) [(0,Z)] 0
  ·intro γ F;refine w_ldB 0 0 rfl kr ti_22 rfl rfl ?_;exact wE (gl []) [(0,Z)] 0
  ·intro γ F;refine w_ldB 0 1 rfl kr ti_60 rfl rfl ?_;exact wE (gl []) [(0,Z)] 0
  ·intro γ F;refine w_ix (k:=.i64) (own_hd 0 rfl) (ib ex1) (iz ex1) kr ts_60 ti_22 ?_;exact wE (gl []) [(0,Z)] 0
  ·intro γ F;refine w_ldO 0 0 rfl (ig ex1) kr ti_22 rfl rfl ?_;rintro _;exact wE (gl []) [(0,Z)] 0
  ·intro γ F;refine Fe [] (c_field_Add er2) rfl fok_92 ?_;exact wE (gl []) [] 0
  ·intro γ F;refine w_ix (k:=.i64) (own_hd 0 rfl) (ib ex1) (iz ex1) kr ts_60 ti_22 ?_;exact wE (gl []) [(0,Z)] 0
  intro γ F;refine w_stO (kd:=Ku) (w:=uN r2) (m:=c.toNat) (x0:=r2) 0 () rfl (ib ex1) (sinj el5) kr ti_22 (cv0 kr) (it0 rfl) ?_;exact wE (gl []) [(0,Z)] 0
 intro γ1;have h7:=Sj h7;subst h7;exact q_end (l:=[]) [(0,Z),(0,Z)] 0 ⟨g3,rfl,rfl⟩ (.inr rfl) kr kr kr
theorem c_poly_Degree {b:List Nat} {a:Value} {r:Int} (h:poly_Degree b=some r):Ct Tryz.prog 85 [a] [rU a b] (fun v L=>v=iV r∧L=[]):=by
 refine ct_intro Tryz.func85 rfl kr (fun F=>?_);unfold poly_Degree at h;refine Sg (Pp 1 (Es (Sg (Pp 1 (w_len (rd_hd 0 rfl) kr ts_60 ?_)))));obtain ⟨x1,ex1,h1⟩:=bnd h;refine w_bi (zsubI ex1) kr (Pp 1 (En ?_));obtain ⟨r1,elp1,h2⟩:=bnd h1;refine h_join (X:=Unit × Unit) (fun g=>[]) (fun g=>[]++F) (fun g=>r1=.inr g.2) ?_ ?_
 ·refine Wb ?_;refine h_lp (fun (st:Int) (g:Unit)=>[(0,a),(3,iV st)]) (fun (st:Int) (g:Unit)=>[rU a b]++F) () elp1 aK (tH [(0,Y)] 1) ?_;rintro kk x2 ⟨⟩ o1 h3 hn1 j;have h3:poly_Degree_L0 b x2=some o1:=h3;unfold poly_Degree_L0 at h3;refine Sq (Sg (Pp 2 (En ?_)));rcases bcase h3 with ⟨t1,h4⟩ | ⟨t1,h4⟩
  ·refine Xt t1 (Ws (Tn (Sq (Wb (Sg (Pp 2 ?_))))));obtain ⟨x3,ex3,h5⟩:=bnd h4;refine w_ix (k:=.i64) (rd_hd 0 rfl) (ib ex3) (iz ex3) kr ts_60 ti_22 ?_;refine w_ldR 0 0 rfl (ig ex3) kr ti_22 rfl rfl ?_;rintro _;refine Pp 1 (En ?_);rcases bcase h5 with ⟨t2,h6⟩ | ⟨t2,h6⟩
   ·refine Xt t2 (Sg (Pp 2 (Er (Br (Tr ?_)))));refine q_lpR ?_;refine Br (q_joinR (Tr ?_));have h6:=Sj h6;subst h6;have hn:=(show _=_ from hn1);subst hn;have h2:=Sj (show some _=some _ from h2);subst h2;exact Ql [iV x2] [] 1
   refine Xs t2 (Bn (Tn (Rg (Pp 1 ?_))));obtain ⟨x4,ex4,h7⟩:=bnd h6;refine w_bi (zsubI ex4) kr (Pp 1 (Ei ?_));have h7:=Sj h7;subst h7;exact q_go () hn1 aK (tH [(0,Y)] 1)
  refine Xf t1 (We (Te ?_));refine q_lpX ?_;refine Be ?_;have h4:=Sj h4;subst h4;exact q_join ((),()) (Eq.symm hn1) aK (tH [] 1)
 rintro ⟨⟨⟩,⟨⟩⟩ hc j;subst hc;refine Tn (Sg (Pp 1 (Er ?_)));have h2:=Sj h2;subst h2;exact Ql [iV (-1)] [] 0
theorem c_poly_Trim {b:List Nat} {a:Value} {r:(List Nat)} (h:poly_Trim b=some r):Ct Tryz.prog 150 [a] [rU a b] (fun v L=>∃ w0:Value,v=w0∧L=[I15 w0 r]):=by
 refine ct_intro Tryz.func150 rfl kr (fun F=>?_);unfold poly_Trim at h;refine Sg (Pp 1 (Eg (Pp 1 ?_)));obtain ⟨r1,er1,h1⟩:=bnd h;refine Fe [(0,Y)] (c_poly_Degree er1) rfl fok_85 ?_;obtain ⟨x1,ex1,h2⟩:=bnd h1;refine w_bi (zaddI ex1) kr (Pp 1 (Eg (Pp 2 ?_)));obtain ⟨l1,el1,h3⟩:=bnd h2;refine w_cut 0 rfl el1 loN (hiS (k:=.i64)) kr ts_60 ti_22 (fun v1=>?_)
 obtain ⟨l2,el2,h4⟩:=bnd h3;refine w_app0 (kd:=Ku) (rd_src 0 rfl) el2 kr ts_60 ti_22 rfl (fun v2=>?_);refine Pp 1 (Er ?_);have h4:=Sj h4;subst h4;exact q_end (l:=[v2]) [(0,Z)] 2 ⟨v2,rfl,rfl⟩ (.inl rfl) kr kr kr
theorem c_poly_Mul {b:Nat} {d:List Nat} {f:List Nat} {c a:Value} {r:(List Nat)} (h:poly_Mul b d f=some r):Ct Tryz.prog 143 [uN b,c,a] [rU c d,rU a f] (fun v L=>∃ w0:Value,v=w0∧L=[I15 w0 r]):=by
 refine ct_intro Tryz.func143 rfl kr (fun F=>?_);unfold poly_Mul at h;refine Sg (Pp 1 (Eg (Pp 1 ?_)));refine w_bd (v:=.agg #[uN b,(.slice none 0 0)]) (t:=202) (ps0:=[(0,uN b)]) (ps:=[(0,uN b)]) (scI sc0) kr (fun w=>by kernel_rfl) ?_
 refine w_box (t:=202) (v:=.agg #[uN b,(.slice none 0 0)]) (cs:=[uN b,(.slice none 0 0)]) (cv0 kr) kr (fun q1=>?_);refine WI.hd (y:=blkP q1 202 [uN b,(.slice none 0 0)]) kr ?_;refine w_opP 0 rfl (fun b1 hb=>?_);subst hb;refine Pp 1 (Eg (Pp 3 (Es (Sg (Pp 1 (w_len (rd_hd 1 rfl) kr ts_60 (Pp 1 (En ?_))))))));refine WH.ent (ownNil (kd:=Ku) (e:=22)) ?_
 refine h_lenle (rd_lenle 2 rfl) (fun hN1=>?_);obtain ⟨l2,elp1,h1⟩:=bnd h;refine h_join (X:=Value) (fun g=>[(7,(bx b1))]) (fun g=>[I43 b1 b g,I15 g l2]++F) (fun _=>True) ?_ ?_
 ·refine Wb ?_
  refine h_rs (fun (k1:Nat) (st:(List Nat)) (g:Value)=>[(0,uN b),(2,a),(7,(bx b1)),(8,.func (.func 173) #[(bx b1)] #[]),(18,c),(19,iN d.length),(20,iN k1)]) (fun (k1:Nat) (st:(List Nat)) (g:Value)=>[rU a f,I43 b1 b g,I15 g st,rU c d]++F) (.slice none 0 0) elp1 (Nat.zero_le _) aK (tH [(3,Y),(1,Z),(0,Z),(0,Y)] 2) ?_ ?_
  ·rintro g3 j;refine Sg (Pp 1 (Es (Xf (rgF (N:=d.length)) (We (Te (q_rzX (Be ?_)))))));exact q_join g3 trivial aK (tH [(1,Z),(1,Z)] 2)
  rintro rem k1 l1 g1 o1 hk1 h2 hn1 j;have h2:poly_Mul_L0 b d f k1 l1=some o1:=h2;unfold poly_Mul_L0 at h2;refine Sg (Pp 1 (Es (Xt (rgT (k:=k1) (N:=d.length) hk1) (Ws (Tn (Sq (Wb (Sg (Pp 1 ?_)))))))));obtain ⟨x2,ex2,h3⟩:=bnd h2;refine w_ix (k:=.i64) (rd_hd 3 rfl) (nbd ex2) rfl kr ts_60 ti_22 ?_;refine w_ldR 3 0 rfl ex2 kr ti_22 rfl rfl ?_;rintro _
  refine Pp 2 (Eg (Pp 1 (w_len (rd_hd 0 rfl) kr ts_60 (Pp 1 (En ?_)))));refine h_lenle (rd_lenle 0 rfl) (fun hN2=>?_);obtain ⟨l4,elp2,h4⟩:=bnd h3
  refine h_join (X:=Value) (fun g=>[(0,uN b),(2,a),(7,(bx b1)),(8,.func (.func 173) #[(bx b1)] #[]),(18,c),(19,iN d.length),(20,iN k1)]) (fun g=>[rU a f,I43 b1 b g,I15 g l4,rU c d]++F) (fun _=>True) ?_ ?_
  ·refine Wb ?_
   refine h_rs (fun (k2:Nat) (st:(List Nat)) (g:Value)=>[(0,uN b),(2,a),(7,(bx b1)),(8,.func (.func 173) #[(bx b1)] #[]),(9,iN k1),(10,uN x2),(18,c),(19,iN d.length),(20,iN k1),(25,a),(26,iN f.length),(27,iN k2)]) (fun (k2:Nat) (st:(List Nat)) (g:Value)=>[rU a f,I43 b1 b g,I15 g st,rU c d]++F) g1 elp2 (Nat.zero_le _) aK (tH [(0,Y),(1,Z),(1,Z),(1,Y)] 2) ?_ ?_
   ·rintro g6 j;refine Sg (Pp 1 (Es (Xf (rgF (N:=f.length)) (We (Te (q_rzX (Be ?_)))))));exact q_join g6 trivial aK (tH [(0,Y),(1,Z),(1,Z),(1,Y)] 2)
   rintro rem k2 l3 g4 o2 hk2 h5 hn2 j;have h5:poly_Mul_L1 b f k1 x2 k2 l3=some o2:=h5;unfold poly_Mul_L1 at h5;refine Sg (Pp 1 (Es (Xt (rgT (k:=k2) (N:=f.length) hk2) (Ws (Tn (Sq (Wb (Sg (Pp 1 ?_)))))))));obtain ⟨x4,ex4,h6⟩:=bnd h5;refine w_ix (k:=.i64) (rd_hd 0 rfl) (nbd ex4) rfl kr ts_60 ti_22 ?_;refine w_ldR 0 0 rfl ex4 kr ti_22 rfl rfl ?_;rintro _
   refine Pp 2 (En (Rg (Pp 3 ?_)));obtain ⟨x5,ex5,h7⟩:=bnd h6;refine w_bi (zaddI ex5) kr (Pp 3 ?_);obtain ⟨r3,er3,h8⟩:=bnd h7;refine Fe [] (c_field_Mul er3) rfl fok_145 ?_;obtain ⟨r4,er4,h9⟩:=bnd h8;refine Fx [(1,Z),(1,Z)] (c_poly_sum_put er4) rfl fok_173 (fun w2=>?_);refine Ei (Bn (Tn (Rg (w_bi (zinc hk2 hN2) kr (Pp 1 (Ei ?_))))));have h9:=Sj h9;subst h9
   exact q_rs w2 hn2 aK (tH [(2,Y),(0,Z),(0,Z),(1,Y)] 2)
  rintro g5 - j;refine Bn (Tn (Rg (w_bi (zinc hk1 hN1) kr (Pp 1 (Ei ?_)))));have h4:=Sj h4;subst h4;exact q_rs g5 hn1 aK (tH [(0,Y),(1,Z),(1,Z),(1,Y)] 2)
 rintro g2 - j;refine Tn (Sg (Pp 3 (w_ldB 0 1 rfl kr ti_60 rfl rfl ?_)));refine WI.ent (frzAt 1 rfl) ?_;obtain ⟨r5,er5,h10⟩:=bnd h1;refine Fx [(0,Y)] (c_poly_Trim er5) rfl fok_150 (fun w3=>?_);refine Pp 1 (Er ?_);have h10:=Sj h10;subst h10;exact q_end (l:=[w3]) [(0,Z)] 2 ⟨w3,rfl,rfl⟩ (.inl rfl) kr kr kr
theorem c_field_Sub {a b c r:Nat} (h:field_Sub a b c=some r):Ct Tryz.prog 146 [uN a,uN b,uN c] [] (fun v L=>v=uN r∧L=[]):=by
 refine ct_intro Tryz.func146 rfl kr (fun F=>?_);unfold field_Sub at h;refine Sg (Pp 1 (Eg (Pp 4 ?_)));obtain ⟨r1,er1,h1⟩:=bnd h;refine Fe [] (c_field_Neg er1) rfl fok_144 ?_;obtain ⟨r2,er2,h2⟩:=bnd h1;refine Fe [] (c_field_Add er2) rfl fok_92 ?_;refine Pp 1 (Er ?_);have h2:=Sj h2;subst h2;exact Ql [uN r2] [] 0
theorem c_interpolate_Polynomial_1 {n b:Nat} {m:List Nat} {k:Nat} {c:T_api_Point} {d e:Nat} {a:Value} {f j:Nat} {r:(List Nat) × Nat} (h:interpolate_Polynomial_1 n b m k c=some r):Ct Tryz.prog 142 [uN n,(bx d),(bx e),(bx f),(bx j)] [I22 d b,I64 e a,I15 a m,I22 f k,I47 j c.X c.Y] (fun v L=>∃ w0:Value,v=.tuple #[]∧L=[I22 d b,I64 e w0,I15 w0 r.1,I22 f r.2,I47 j c.X c.Y]):=by
 refine ct_intro Tryz.func142 rfl kr (fun F=>?_);unfold interpolate_Polynomial_1 at h;refine Sq ?_;refine WH.ent (frzAt 2 rfl) ?_;obtain ⟨r1,er1,h1⟩:=bnd h;obtain ⟨r2,er2,h2⟩:=bnd h1
 refine h_fm [0,0,0,0,12,28,63,127] ⟨5,[0,0,0,0,0,1,1,1],[(7,[(0,2)])],[(0,[(0,1)]),(1,[(0,2)]),(2,[(0,1)]),(7,[(7,0)])],[(6,[(6,0),(0,0)])]⟩ (fun γ=>[uN b,a,uN b,uN n,uN r1,(γ 5 0),(γ 6 0),undef]) (fun i γ=>match i with | 5=>[rU (γ 5 0) ([r1,1]:List Nat)] | 6=>[I15 (γ 6 0) r2] | 7=>[I64 e (γ 6 0)] | _=>[]) [3] tryz_mix Tb_ok ?_ ?_
 ·refine ⟨?_,?_,?_,?_,?_,?_,?_,trivial⟩
  ·intro γ F;refine w_ldB 0 0 rfl kr ti_22 rfl rfl ?_;exact wE (gl []) [(0,Z)] 0
  ·intro γ F;refine w_ldB 0 0 rfl kr ti_60 rfl rfl ?_;exact wE (gl []) [(0,Z)] 0
  ·intro γ F;refine w_ldB 0 0 rfl kr ti_22 rfl rfl ?_;exact wE (gl []) [(0,Z)] 0
  ·intro γ F;refine Fe [] (c_field_Neg er1) rfl fok_144 ?_;exact wE (gl []) [] 0
  ·intro γ F;refine w_lt (kd:=Ku) (t:=60) (len:=2) (ps0:=[(0,uN r1),(1,uN 1)]) (ps:=[(0,uN r1),(1,uN 1)]) ([r1,1]:List Nat) _ (rowC (x:=r1) (g:=()) (it0 rfl) (rowC (x:=1) (g:=()) (it0 rfl) row0)) (scI (scI sc0)) kr ts_60 ti_22 kr rfl rfl (fun v1=>?_);refine WI.ent (frzAt 0 rfl) ?_
   exact wE (gl [v1]) [(0,Y)] 1
  ·intro γ F;refine Fx [(1,Y),(0,Y)] (c_poly_Mul er2) rfl fok_143 (fun w2=>?_);exact wE (gl [w2]) [(0,Z)] 2
  intro γ F;refine w_stB (v:=(γ 6 0)) (off:=0) (cs:=[(γ 6 0)]) 0 rfl (cvS (own_hd 1 rfl)) kr ti_60 rfl rfl (oC (sl_one (own_hd 1 rfl)) oN) ?_;refine WI.hd (y:=I64 e (γ 6 0)) kr ?_;exact wE (gl []) [(0,Z),(0,Z)] 0
 intro γ1;refine Tn ?_;obtain ⟨r3,er3,h3⟩:=bnd h2;obtain ⟨r4,er4,h4⟩:=bnd h3
 refine h_fm [0,0,0,0,8,0,60,127,255] ⟨7,[0,0,0,0,0,0,0,0,1],[(8,[(0,2)])],[(0,[(0,1)]),(1,[(0,2)]),(2,[(0,1)]),(4,[(0,3)])],[]⟩ (fun γ=>[uN b,uN k,uN b,bx j,uN c.X,uN n,uN r3,uN r4,undef]) (fun i γ=>match i with | 8=>[I22 f r4] | _=>[]) [3,5] tryz_mix Tb_ok ?_ ?_
 ·refine ⟨?_,?_,?_,?_,?_,?_,?_,trivial⟩
  ·intro γ F;refine w_ldB 0 0 rfl kr ti_22 rfl rfl ?_;exact wE (gl []) [(0,Z)] 0
  ·intro γ F;refine w_ldB 0 0 rfl kr ti_22 rfl rfl ?_;exact wE (gl []) [(0,Z)] 0
  ·intro γ F;refine w_ldB 0 0 rfl kr ti_22 rfl rfl ?_;exact wE (gl []) [(0,Z)] 0
  ·intro γ F;refine w_ldB 0 0 rfl kr ti_22 rfl rfl ?_;exact wE (gl []) [(0,Z)] 0
  ·intro γ F;refine Fe [] (c_field_Sub er3) rfl fok_146 ?_;exact wE (gl []) [] 0
  ·intro γ F;refine Fe [] (c_field_Mul er4) rfl fok_145 ?_;exact wE (gl []) [] 0
  intro γ F;refine w_stB (v:=uN r4) (off:=0) (cs:=[uN r4]) 0 rfl (cv0 kr) kr ti_22 rfl rfl (oC (fun _ _=>rfl) oN) ?_;refine WI.hd (y:=I22 f r4) kr ?_;exact wE (gl []) [(0,Z)] 0
 intro γ2;have h4:=Sj h4;subst h4;exact q_end (l:=[]) [(1,Z),(4,Z),(3,Z),(3,Z),(1,Z)] 2 ⟨(γ1 6 0),rfl,rfl⟩ (.inr rfl) kr kr kr
theorem c_interpolate_others_interpolate_Polynomial_1 {n:List Nat} {o:Int} {f:Nat} {p:List Nat} {q:Nat} {a:T_api_Point} {m:Value} {b c:Nat} {i:Value} {d e:Nat} {r:(List Nat) × Nat} (h:interpolate_others_interpolate_Polynomial_1 n o f p q a=some r):Ct Tryz.prog 141 [m,iV o,.func (.func 142) #[] #[(bx b),(bx c),(bx d),(bx e)]] [rU m n,I22 b f,I64 c i,I15 i p,I22 d q,I47 e a.X a.Y] (fun v L=>∃ w0:Value,v=.tuple #[]∧L=[I22 b f,I64 c w0,I15 w0 r.1,I22 d r.2,I47 e a.X a.Y]):=by
 refine ct_intro Tryz.func141 rfl kr (fun F=>?_);unfold interpolate_others_interpolate_Polynomial_1 at h;refine Sg (Pp 1 (w_len (rd_hd 0 rfl) kr ts_60 (Pp 1 (En ?_))));refine h_lenle (rd_lenle 0 rfl) (fun hN1=>?_);obtain ⟨⟨l2,x3⟩,elp1,h1⟩:=bnd h
 refine h_join (X:=Value) (fun g=>[]) (fun g=>[I22 b f,I64 c g,I15 g l2,I22 d x3,I47 e a.X a.Y]++F) (fun _=>True) ?_ ?_
 ·refine Wb ?_
  refine h_rs (fun (k1:Nat) (st:(List Nat) × Nat) (g:Value)=>[(1,iV o),(2,.func (.func 142) #[] #[(bx b),(bx c),(bx d),(bx e)]),(8,m),(9,iN n.length),(10,iN k1)]) (fun (k1:Nat) (st:(List Nat) × Nat) (g:Value)=>[I22 b f,I64 c g,I15 g st.1,I22 d st.2,I47 e a.X a.Y,rU m n]++F) i elp1 (Nat.zero_le _) aK (tH [(1,Z),(1,Z),(1,Z),(1,Z),(1,Z),(0,Y)] 1) ?_ ?_
  ·rintro g3 j;refine Sg (Pp 1 (Es (Xf (rgF (N:=n.length)) (We (Te (q_rzX (Be ?_)))))));exact q_join g3 trivial aK (tH [(0,Z),(0,Z),(0,Z),(0,Z),(0,Z)] 1)
  rintro rem k1 ⟨l1,x1⟩ g1 o1 hk1 h2 hn1 j;have h2:interpolate_others_interpolate_Polynomial_1_L0 n o f a k1 l1 x1=some o1:=h2;unfold interpolate_others_interpolate_Polynomial_1_L0 at h2;refine Sg (Pp 1 (Es (Xt (rgT (k:=k1) (N:=n.length) hk1) (Ws (Tn (Sq (Wb (Sg (Pp 1 ?_)))))))));obtain ⟨x4,ex4,h3⟩:=bnd h2
  refine w_ix (k:=.i64) (rd_hd 5 rfl) (nbd ex4) rfl kr ts_60 ti_22 ?_;refine w_ldR 5 0 rfl ex4 kr ti_22 rfl rfl ?_;rintro _;refine Pp 2 (Eg (Pp 3 (En ?_)));rcases bcase h3 with ⟨t1,h4⟩ | ⟨t1,h4⟩
  ·refine Xt t1 (Rg (Pp 2 ?_));obtain ⟨r2,er2,h5⟩:=bnd h4;refine Fx [(0,Z),(0,Z),(0,Z),(0,Z),(0,Z)] (c_interpolate_Polynomial_1 er2) rfl fok_142 (fun w1=>?_);refine Ei (Bn (Tn (Rg (w_bi (zinc hk1 hN1) kr (Pp 1 (Ei ?_))))));have h5:=Sj h5;subst h5;exact q_rs w1 hn1 aK (tH [(0,Z),(0,Z),(0,Z),(0,Z),(0,Z),(0,Y)] 1)
  refine Xs t1 (Bn (Tn (Rg (w_bi (zinc hk1 hN1) kr (Pp 1 (Ei ?_))))));have h4:=Sj h4;subst h4;exact q_rs g1 hn1 aK (tH [(0,Z),(0,Z),(0,Z),(0,Z),(0,Z),(0,Y)] 1)
 rintro g2 - j;have h1:=Sj h1;subst h1;exact q_end (l:=[]) [(0,Z),(0,Z),(0,Z),(0,Z),(0,Z)] 0 ⟨g2,rfl,rfl⟩ (.inr rfl) kr kr kr
theorem c_field_Pow {a b c r:Nat} (h:field_Pow a b c=some r):Ct Tryz.prog 186 [uN a,uN b,uN c] [] (fun v L=>v=uN r∧L=[]):=by
 refine ct_intro Tryz.func186 rfl kr (fun F=>?_);unfold field_Pow at h;refine Sg (Pp 1 (Eg (Pp 1 (Es ?_))));obtain ⟨x5,elp1,h1⟩:=bnd h;refine h_join (X:=Unit) (fun g=>[(7,uN x5)]) (fun g=>[]++F) (fun _=>True) ?_ ?_
 ·refine Wb ?_;refine h_lp (fun (st:Nat × Nat × Nat) (g:Unit)=>[(0,uN a),(1,uN st.1),(2,uN st.2.1),(7,uN st.2.2)]) (fun (st:Nat × Nat × Nat) (g:Unit)=>[]++F) () elp1 aK (tH [] 0) ?_;rintro kk ⟨x1,x2,x3⟩ ⟨⟩ o1 h2 hn1 j;have h2:field_Pow_L0 a x1 x2 x3=some o1:=h2;unfold field_Pow_L0 at h2;refine Sq (Sg (Pp 2 (En ?_)))
  rcases bcase h2 with ⟨t1,h3⟩ | ⟨t1,h3⟩
  ·refine Xt t1 (Ws (Tn (Sq (Wb (Sq (Sg (Pp 1 ?_)))))));obtain ⟨x6,ex6,h4⟩:=bnd h3;refine w_bi (eandU ex6) kr (Pp 1 (En ?_));rcases bcase h4 with ⟨t2,h5⟩ | ⟨t2,h5⟩
   ·refine Xt t2 (Rg (Pp 3 ?_));obtain ⟨r2,er2,h6⟩:=bnd h5;refine Fe [] (c_field_Mul er2) rfl fok_145 ?_;refine Pp 1 (En (Rg (Pp 3 ?_)));obtain ⟨r3,er3,h7⟩:=bnd h6;refine Fe [] (c_field_Mul er3) rfl fok_145 ?_;refine Pp 1 (Ei (Bn (Tn (Rg (Pp 1 ?_)))));obtain ⟨x7,ex7,h8⟩:=bnd h7;refine w_sh (yk:=.u64) (.inr rfl) (zshr ex7) kr ?_;refine Pp 1 (Ei ?_);have h8:=Sj h8;subst h8
    exact q_go () hn1 aK (tH [] 0)
   refine Xs t2 (Tn (Rg (Pp 3 ?_)));obtain ⟨r4,er4,h9⟩:=bnd h5;refine Fe [] (c_field_Mul er4) rfl fok_145 ?_;refine Pp 1 (Ei (Bn (Tn (Rg (Pp 1 ?_)))));obtain ⟨x8,ex8,h10⟩:=bnd h9;refine w_sh (yk:=.u64) (.inr rfl) (zshr ex8) kr ?_;refine Pp 1 (Ei ?_);have h10:=Sj h10;subst h10;exact q_go () hn1 aK (tH [] 0)
  refine Xf t1 (We (Te ?_));refine q_lpX ?_;refine Be ?_;have h3:=Sj h3;subst h3;cases (show _=_ from hn1);exact q_join () trivial aK (tH [] 0)
 rintro ⟨⟩ - j;refine Tn (Sg (Pp 2 (Er ?_)));have h1:=Sj h1;subst h1;exact Ql [uN x5] [] 0
theorem c_field_Inverse {a b:Nat} {r:Nat × Int} (h:field_Inverse a b=some r):Ct Tryz.prog 175 [uN a,uN b] [] (fun v L=>v=.tuple #[uN r.1,iV r.2]∧L=[]):=by
 refine ct_intro Tryz.func175 rfl kr (fun F=>?_);unfold field_Inverse at h;refine Sg (Pp 2 (Es (Sg (Pp 2 (En ?_)))));rcases bcase h with ⟨t1,h1⟩ | ⟨t1,h1⟩
 ·refine Xt t1 (Sg (Pp 2 (Er (Tr ?_))));have h1:=Sj h1;subst h1;exact Ql [uN 0,iN 8] [] 0
 refine Xs t1 (Tn (Sg (Pp 3 ?_)));obtain ⟨x1,ex1,h2⟩:=bnd h1;refine w_bi (esubU ex1) kr ?_;obtain ⟨r1,er1,h3⟩:=bnd h2;refine Fe [] (c_field_Pow er1) rfl fok_186 ?_;refine Pp 2 (Er ?_);have h3:=Sj h3;subst h3;exact Ql [uN r1,iN 0] [] 0
theorem c_interpolate_over {a b c r:Nat} (h:interpolate_over a b c=some r):Ct Tryz.prog 149 [uN a,uN b,uN c] [] (fun v L=>v=uN r∧L=[]):=by
 refine ct_intro Tryz.func149 rfl kr (fun F=>?_);unfold interpolate_over at h;refine Sg (Pp 1 (Eg (Pp 2 ?_)));obtain ⟨r1,er1,h1⟩:=bnd h;refine Fe [] (c_field_Inverse er1) rfl fok_175 ?_;refine Pp 5 (Eg (Pp 3 ?_));obtain ⟨r2,er2,h2⟩:=bnd h1;refine Fe [] (c_field_Mul er2) rfl fok_145 ?_;refine Pp 1 (Er ?_);have h2:=Sj h2;subst h2;exact Ql [uN r2] [] 0
theorem c_poly_Scale {c d:Nat} {b:List Nat} {a:Value} {r:(List Nat)} (h:poly_Scale c d b=some r):Ct Tryz.prog 148 [uN c,uN d,a] [rU a b] (fun v L=>∃ w0:Value,v=w0∧L=[I15 w0 r]):=by
 refine ct_intro Tryz.func148 rfl kr (fun F=>?_);unfold poly_Scale at h;refine Sg (Pp 1 (Eg (Pp 1 (w_len (rd_hd 0 rfl) kr ts_60 ?_))));obtain ⟨l1,el1,h1⟩:=bnd h;refine w_mk (kd:=Ku) (kl:=.i64) (kc:=.i64) () el1 kr ts_60 ti_22 rfl kr (it0 rfl) (fun v1=>?_);refine Pp 1 (Es (Sg (Pp 1 (w_len (rd_hd 1 rfl) kr ts_60 (Pp 1 (En ?_))))));refine h_lenle (rd_lenle 1 rfl) (fun hN1=>?_)
 obtain ⟨l3,elp1,h2⟩:=bnd h1;refine h_join (X:=Unit) (fun g=>[(7,v1)]) (fun g=>[I15 v1 l3]++F) (fun _=>True) ?_ ?_
 ·refine Wb ?_;refine h_rs (fun (k1:Nat) (st:(List Nat)) (g:Unit)=>[(0,uN c),(1,uN d),(7,v1),(13,a),(14,iN b.length),(15,iN k1)]) (fun (k1:Nat) (st:(List Nat)) (g:Unit)=>[I15 v1 st,rU a b]++F) () elp1 (Nat.zero_le _) aK (tH [(0,Z),(0,Y)] 1) ?_ ?_
  ·rintro ⟨⟩ j;refine Sg (Pp 1 (Es (Xf (rgF (N:=b.length)) (We (Te (q_rzX (Be ?_)))))));exact q_join () trivial aK (tH [(0,Z)] 1)
  rintro rem k1 l2 ⟨⟩ o1 hk1 h3 hn1 j;have h3:poly_Scale_L0 c d b k1 l2=some o1:=h3;unfold poly_Scale_L0 at h3;refine Sg (Pp 1 (Es (Xt (rgT (k:=k1) (N:=b.length) hk1) (Ws (Tn (Sq (Wb (Sg (Pp 1 ?_)))))))));obtain ⟨x2,ex2,h4⟩:=bnd h3;refine w_ix (k:=.i64) (rd_hd 1 rfl) (nbd ex2) rfl kr ts_60 ti_22 ?_;refine w_ldR 1 0 rfl ex2 kr ti_22 rfl rfl ?_;rintro _
  refine Pp 2 (En (Rg (Pp 5 ?_)));obtain ⟨r2,er2,h5⟩:=bnd h4;refine Fe [] (c_field_Mul er2) rfl fok_145 ?_;obtain ⟨x3,ex3,h6⟩:=bnd h5;refine w_ix (k:=.i64) (own_hd 0 rfl) (nbd ex3) rfl kr ts_60 ti_22 ?_;obtain ⟨l4,el4,h7⟩:=bnd h6;refine w_stO (kd:=Ku) (w:=uN r2) (m:=k1) (x0:=r2) 0 () rfl (nbd ex3) (sinj el4) kr ti_22 (cv0 kr) (it0 rfl) ?_
  refine Ei (Bn (Tn (Rg (w_bi (zinc hk1 hN1) kr (Pp 1 (Ei ?_))))));have h7:=Sj h7;subst h7;exact q_rs () hn1 aK (tH [(0,Z),(0,Y)] 1)
 rintro ⟨⟩ - j;refine Tn (Sg (Pp 1 ?_));refine WI.ent (frzAt 0 rfl) ?_;obtain ⟨r3,er3,h8⟩:=bnd h2;refine Fx [(0,Y)] (c_poly_Trim er3) rfl fok_150 (fun w2=>?_);refine Pp 1 (Er ?_);have h8:=Sj h8;subst h8;exact q_end (l:=[w2]) [(0,Z)] 1 ⟨w2,rfl,rfl⟩ (.inl rfl) kr kr kr
theorem c_poly_Add {b:Nat} {f:List Nat} {c:List Nat} {d a:Value} {r:(List Nat)} (h:poly_Add b f c=some r):Ct Tryz.prog 147 [uN b,d,a] [rU d f,rU a c] (fun v L=>∃ w0:Value,v=w0∧L=[I15 w0 r]):=by
 refine ct_intro Tryz.func147 rfl kr (fun F=>?_);unfold poly_Add at h;refine Sg (Pp 1 (Eg (Pp 1 ?_)));refine w_bd (v:=.agg #[uN b,(.slice none 0 0)]) (t:=202) (ps0:=[(0,uN b)]) (ps:=[(0,uN b)]) (scI sc0) kr (fun w=>by kernel_rfl) ?_
 refine w_box (t:=202) (v:=.agg #[uN b,(.slice none 0 0)]) (cs:=[uN b,(.slice none 0 0)]) (cv0 kr) kr (fun q1=>?_);refine WI.hd (y:=blkP q1 202 [uN b,(.slice none 0 0)]) kr ?_;refine w_opP 0 rfl (fun b1 hb=>?_);subst hb;refine Pp 1 (Eg (Pp 3 (Es (Sg (Pp 1 (w_len (rd_hd 1 rfl) kr ts_60 (Pp 1 (En ?_))))))));refine WH.ent (ownNil (kd:=Ku) (e:=22)) ?_
 refine h_lenle (rd_lenle 2 rfl) (fun hN1=>?_);obtain ⟨l2,elp1,h1⟩:=bnd h;refine h_join (X:=Value) (fun g=>[(2,a),(7,(bx b1)),(8,.func (.func 173) #[(bx b1)] #[])]) (fun g=>[rU a c,I43 b1 b g,I15 g l2]++F) (fun _=>True) ?_ ?_
 ·refine Wb ?_
  refine h_rs (fun (k1:Nat) (st:(List Nat)) (g:Value)=>[(2,a),(7,(bx b1)),(8,.func (.func 173) #[(bx b1)] #[]),(18,d),(19,iN f.length),(20,iN k1)]) (fun (k1:Nat) (st:(List Nat)) (g:Value)=>[rU a c,I43 b1 b g,I15 g st,rU d f]++F) (.slice none 0 0) elp1 (Nat.zero_le _) aK (tH [(3,Y),(1,Z),(0,Z),(0,Y)] 2) ?_ ?_
  ·rintro g3 j;refine Sg (Pp 1 (Es (Xf (rgF (N:=f.length)) (We (Te (q_rzX (Be ?_)))))));exact q_join g3 trivial aK (tH [(0,Y),(1,Z),(1,Z)] 2)
  rintro rem k1 l1 g1 o1 hk1 h2 hn1 j;have h2:poly_Add_L0 b f k1 l1=some o1:=h2;unfold poly_Add_L0 at h2;refine Sg (Pp 1 (Es (Xt (rgT (k:=k1) (N:=f.length) hk1) (Ws (Tn (Sq (Wb (Sg (Pp 1 ?_)))))))));obtain ⟨x2,ex2,h3⟩:=bnd h2;refine w_ix (k:=.i64) (rd_hd 3 rfl) (nbd ex2) rfl kr ts_60 ti_22 ?_;refine w_ldR 3 0 rfl ex2 kr ti_22 rfl rfl ?_;rintro _
  refine Pp 2 (En (Rg (Pp 3 ?_)));obtain ⟨r2,er2,h4⟩:=bnd h3;refine Fx [(1,Z),(1,Z)] (c_poly_sum_put er2) rfl fok_173 (fun w1=>?_);refine Ei (Bn (Tn (Rg (w_bi (zinc hk1 hN1) kr (Pp 1 (Ei ?_))))));have h4:=Sj h4;subst h4;exact q_rs w1 hn1 aK (tH [(2,Y),(0,Z),(0,Z),(1,Y)] 2)
 rintro g2 - j;refine Tn (Sq (Sg (Pp 1 (w_len (rd_hd 0 rfl) kr ts_60 (Pp 1 (En ?_))))));refine h_lenle (rd_lenle 0 rfl) (fun hN2=>?_);obtain ⟨l4,elp2,h5⟩:=bnd h1;refine h_join (X:=Value) (fun g=>[(7,(bx b1))]) (fun g=>[I43 b1 b g,I15 g l4]++F) (fun _=>True) ?_ ?_
 ·refine Wb ?_
  refine h_rs (fun (k2:Nat) (st:(List Nat)) (g:Value)=>[(7,(bx b1)),(8,.func (.func 173) #[(bx b1)] #[]),(30,a),(31,iN c.length),(32,iN k2)]) (fun (k2:Nat) (st:(List Nat)) (g:Value)=>[I43 b1 b g,I15 g st,rU a c]++F) g2 elp2 (Nat.zero_le _) aK (tH [(1,Z),(1,Z),(0,Y)] 1) ?_ ?_
  ·rintro g6 j;refine Sg (Pp 1 (Es (Xf (rgF (N:=c.length)) (We (Te (q_rzX (Be ?_)))))));exact q_join g6 trivial aK (tH [(0,Z),(0,Z)] 1)
  rintro rem k2 l3 g4 o2 hk2 h6 hn2 j;have h6:poly_Add_L1 b c k2 l3=some o2:=h6;unfold poly_Add_L1 at h6;refine Sg (Pp 1 (Es (Xt (rgT (k:=k2) (N:=c.length) hk2) (Ws (Tn (Sq (Wb (Sg (Pp 1 ?_)))))))));obtain ⟨x4,ex4,h7⟩:=bnd h6;refine w_ix (k:=.i64) (rd_hd 2 rfl) (nbd ex4) rfl kr ts_60 ti_22 ?_;refine w_ldR 2 0 rfl ex4 kr ti_22 rfl rfl ?_;rintro _
  refine Pp 2 (En (Rg (Pp 3 ?_)));obtain ⟨r4,er4,h8⟩:=bnd h7;refine Fx [(0,Z),(0,Z)] (c_poly_sum_put er4) rfl fok_173 (fun w2=>?_);refine Ei (Bn (Tn (Rg (w_bi (zinc hk2 hN2) kr (Pp 1 (Ei ?_))))));have h8:=Sj h8;subst h8;exact q_rs w2 hn2 aK (tH [(0,Z),(0,Z),(0,Y)] 1)
 rintro g5 - j;refine Tn (Sg (Pp 3 (w_ldB 0 1 rfl kr ti_60 rfl rfl ?_)));refine WI.ent (frzAt 1 rfl) ?_;obtain ⟨r5,er5,h9⟩:=bnd h5;refine Fx [(0,Y)] (c_poly_Trim er5) rfl fok_150 (fun w3=>?_);refine Pp 1 (Er ?_);have h9:=Sj h9;subst h9;exact q_end (l:=[w3]) [(0,Z)] 2 ⟨w3,rfl,rfl⟩ (.inl rfl) kr kr kr
theorem c_interpolate_Polynomial {c:Nat} {b:List T_api_Point} {a:Value} {r:(List Nat) × Int} (h:interpolate_Polynomial c b=some r):Ct Tryz.prog 84 [uN c,a] [I72 a b] (fun v L=>∃ w0:Value,v=.tuple #[w0,iV r.2]∧L=[I15 w0 r.1]):=by
 refine ct_intro Tryz.func84 rfl kr (fun F=>?_);unfold interpolate_Polynomial at h;refine Sg ?_;refine w_box (t:=22) (v:=uN c) (cs:=[uN c]) (cv0 kr) kr (fun q1=>?_);refine WI.hd (y:=blkP q1 22 [uN c]) kr ?_;refine w_opP 0 rfl (fun b1 hb=>?_);subst hb;refine Pp 2 (Eg (Pp 1 (Es (Sg (Pp 1 (w_len (rd_hd 1 rfl) kr ts_73 (Pp 1 (En ?_))))))))
 refine WH.ent (ownNil (kd:=Ku) (e:=22)) ?_;refine h_lenle (rd_lenle 2 rfl) (fun hN1=>?_);obtain ⟨l2,elp1,h1⟩:=bnd h;refine h_join (X:=Value) (fun g=>[(1,a),(2,(bx b1)),(6,g)]) (fun g=>[I72 a b,I22 b1 c,I15 g l2]++F) (fun _=>True) ?_ ?_
 ·refine Wb ?_
  refine h_rs (fun (k1:Nat) (st:(List Nat)) (g:Value)=>[(1,a),(2,(bx b1)),(6,g),(14,a),(15,iN b.length),(16,iN k1)]) (fun (k1:Nat) (st:(List Nat)) (g:Value)=>[I72 a b,I22 b1 c,I15 g st]++F) (.slice none 0 0) elp1 (Nat.zero_le _) aK (tH [(2,Y),(1,Z),(0,Z)] 1) ?_ ?_
  ·rintro g3 j;refine Sg (Pp 1 (Es (Xf (rgF (N:=b.length)) (We (Te (q_rzX (Be ?_)))))));exact q_join g3 trivial aK (tH [(0,Y),(1,Z),(1,Z)] 1)
  rintro rem k1 l1 g1 o1 hk1 h2 hn1 j;have h2:interpolate_Polynomial_L0 b k1 l1=some o1:=h2;unfold interpolate_Polynomial_L0 at h2;refine Sg (Pp 1 (Es (Xt (rgT (k:=k1) (N:=b.length) hk1) (Ws (Tn (Sq (Wb (Sg ?_))))))));obtain ⟨x2,ex2,h3⟩:=bnd h2;refine w_ix (k:=.i64) (rd_hd 0 rfl) (nbd ex2) rfl kr ts_73 ti_75 ?_;refine w_ldR 0 0 rfl ex2 kr ti_75 rfl rfl ?_;rintro ⟨_,_⟩
  refine w_al kr ti_75 (fun q2=>?_);refine WI.hd (y:=blkP q2 75 [uN 0,uN 0]) kr ?_;refine w_opP 0 rfl (fun b2 hb=>?_);subst hb;refine w_stB (v:=.agg #[uN x2.X,uN x2.Y]) (off:=0) (cs:=[uN x2.X,uN x2.Y]) 0 rfl (cv0 kr) kr ti_75 rfl rfl (oC (fun _ _=>rfl) (oC (fun _ _=>rfl) oN)) ?_
  refine WI.hd (y:=I47 b2 x2.X x2.Y) kr ?_;refine En (Rg (Pp 2 (w_ldB 0 0 rfl kr ti_22 rfl rfl ?_)));refine w_lt (kd:=Ku) (t:=60) (len:=1) (ps0:=[(0,uN x2.X)]) (ps:=[(0,uN x2.X)]) ([x2.X]:List Nat) _ (rowC (x:=x2.X) (g:=()) (it0 rfl) row0) (scI sc0) kr ts_60 ti_22 kr rfl rfl (fun v1=>?_)
  obtain ⟨l3,el3,h4⟩:=bnd h3;refine w_app 4 rfl (own_src 0 rfl) el3 kr ts_60 ti_22 rfl (fun v2=>?_);refine Pp 1 (Ei (Bn (Tn (Rg (w_bi (zinc hk1 hN1) kr (Pp 1 (Ei ?_)))))));have h4:=Sj h4;subst h4;exact q_rs v2 hn1 aK (tH [(3,Y),(4,Z),(0,Z)] 3)
 rintro g2 - j;refine Tn (Sq (Sg (Pp 1 ?_)));refine WI.ent (frzAt 2 rfl) ?_;obtain ⟨r2,er2,h5⟩:=bnd h1;refine Fe [(0,Y)] (c_interpolate_unlike er2) rfl fok_140 ?_;refine Pp 1 (En ?_);rcases bcase h5 with ⟨t1,h6⟩ | ⟨t1,h6⟩
 ·refine Xt t1 (Sg (Pp 2 (Er (Tr ?_))));refine QH.ent (ownNil (kd:=Ku) (e:=22)) ?_;have h6:=Sj h6;subst h6;exact q_end (l:=[(.slice none 0 0),iN 1]) [(0,Z)] 3 ⟨(.slice none 0 0),rfl,rfl⟩ (.inl rfl) kr kr kr
 refine Xs t1 (Tn (Sg (Pp 1 (Es (Sg (Pp 1 (w_len (rd_hd 1 rfl) kr ts_73 (Pp 1 (En ?_)))))))));refine WH.ent (ownNil (kd:=Ku) (e:=22)) ?_;refine h_lenle (rd_lenle 2 rfl) (fun hN2=>?_);obtain ⟨l5,elp2,h7⟩:=bnd h6;refine h_join (X:=Value) (fun g=>[(9,g)]) (fun g=>[I15 g l5]++F) (fun _=>True) ?_ ?_
 ·refine Wb ?_
  refine h_rs (fun (k2:Nat) (st:(List Nat)) (g:Value)=>[(2,(bx b1)),(6,g2),(9,g),(29,a),(30,iN b.length),(31,iN k2)]) (fun (k2:Nat) (st:(List Nat)) (g:Value)=>[I22 b1 c,rU g2 l2,I15 g st,I72 a b]++F) (.slice none 0 0) elp2 (Nat.zero_le _) aK (tH [(3,Z),(1,Y),(0,Z),(1,Y)] 2) ?_ ?_
  ·rintro g6 j;refine Sg (Pp 1 (Es (Xf (rgF (N:=b.length)) (We (Te (q_rzX (Be ?_)))))));exact q_join g6 trivial aK (tH [(2,Z)] 3)
  rintro rem k2 l4 g4 o2 hk2 h8 hn2 j;have h8:interpolate_Polynomial_L1 c b l2 k2 l4=some o2:=h8;unfold interpolate_Polynomial_L1 at h8;refine Sg (Pp 1 (Es (Xt (rgT (k:=k2) (N:=b.length) hk2) (Ws (Tn (Sq (Wb (Sg (Pp 1 ?_)))))))));obtain ⟨x4,ex4,h9⟩:=bnd h8;refine w_ix (k:=.i64) (rd_hd 3 rfl) (nbd ex4) rfl kr ts_73 ti_75 ?_;refine w_ldR 3 0 rfl ex4 kr ti_75 rfl rfl ?_
  rintro ⟨_,_⟩;refine w_al kr ti_75 (fun q3=>?_);refine WI.hd (y:=blkP q3 75 [uN 0,uN 0]) kr ?_;refine w_opP 0 rfl (fun b3 hb=>?_);subst hb;refine Pp 1 ?_
  refine w_stB (v:=.agg #[uN x4.X,uN x4.Y]) (off:=0) (cs:=[uN x4.X,uN x4.Y]) 0 rfl (cv0 kr) kr ti_75 rfl rfl (oC (fun _ _=>rfl) (oC (fun _ _=>rfl) oN)) ?_;refine WI.hd (y:=I47 b3 x4.X x4.Y) kr ?_;refine Eg ?_
  refine w_lt (kd:=Ku) (t:=60) (len:=1) (ps0:=[(0,uN 1)]) (ps:=[(0,uN 1)]) ([1]:List Nat) _ (rowC (x:=1) (g:=()) (it0 rfl) row0) (scI sc0) kr ts_60 ti_22 kr rfl rfl (fun v3=>?_);refine w_al kr ti_60 (fun q4=>?_);refine WI.hd (y:=blkP q4 60 [(.slice none 0 0)]) kr ?_;refine w_opP 0 rfl (fun b4 hb=>?_);subst hb
  refine w_al kr ti_22 (fun q5=>?_);refine WI.hd (y:=blkP q5 22 [uN 0]) kr ?_;refine w_opP 0 rfl (fun b5 hb=>?_);subst hb;refine w_stB (v:=v3) (off:=0) (cs:=[v3]) 1 rfl (cvS (own_hd 2 rfl)) kr ti_60 rfl rfl (oC (sl_one (own_hd 2 rfl)) oN) ?_;refine WI.hd (y:=I64 b4 v3) kr ?_
  refine w_stB (v:=uN 1) (off:=0) (cs:=[uN 1]) 1 rfl (cv0 kr) kr ti_22 rfl rfl (oC (fun _ _=>rfl) oN) ?_;refine WI.hd (y:=blkP (bx b5) 22 [uN 1]) kr ?_;refine Eg (Pp 3 ?_);obtain ⟨r4,er4,h10⟩:=bnd h9
  refine Fx [(5,Y),(4,Z),(1,Z),(1,Z),(0,Z),(0,Z)] (c_interpolate_others_interpolate_Polynomial_1 er4) rfl fok_141 (fun w2=>?_);refine En ?_;refine WH.ent (frzAt 2 rfl) ?_;refine WH.ent (frzAt 6 rfl) ?_;obtain ⟨r5,er5,h11⟩:=bnd h10;obtain ⟨r6,er6,h12⟩:=bnd h11;obtain ⟨r7,er7,h13⟩:=bnd h12
  refine h_fm [0,0,0,0,0,16,0,120,0,508,1023,2047] ⟨8,[0,0,0,0,0,0,0,0,0,1,1,0],[],[(0,[(0,2)]),(2,[(0,2)]),(3,[(0,2)]),(5,[(0,5)]),(6,[(0,4)]),(8,[(0,3)])],[(9,[(0,1)]),(10,[(10,0),(0,0)])]⟩ (fun γ=>[uN c,g4,uN c,uN c,.pointer (some ⟨b3,1,none⟩),uN x4.Y,uN r4.2,uN r5,w2,(γ 9 0),(γ 10 0),(γ 10 0)]) (fun i γ=>match i with | 9=>[rU (γ 9 0) r6] | 10=>[I15 (γ 10 0) r7] | _=>[]) [1,4,11] tryz_mix Tb_ok ?_ ?_
  ·refine ⟨?_,?_,?_,?_,?_,?_,?_,?_,?_,trivial⟩
   ·intro γ F;refine w_ldB 0 0 rfl kr ti_22 rfl rfl ?_;exact wE (gl []) [(0,Z)] 0
   ·intro γ F;refine w_ldB 0 0 rfl kr ti_22 rfl rfl ?_;exact wE (gl []) [(0,Z)] 0
   ·intro γ F;refine w_ldB 0 0 rfl kr ti_22 rfl rfl ?_;exact wE (gl []) [(0,Z)] 0
   ·intro γ F;refine w_ldB 0 1 rfl kr ti_22 rfl rfl ?_;exact wE (gl []) [(0,Z)] 0
   ·intro γ F;refine w_ldB 0 0 rfl kr ti_22 rfl rfl ?_;exact wE (gl []) [(0,Z)] 0
   ·intro γ F;refine Fe [] (c_interpolate_over er5) rfl fok_149 ?_;exact wE (gl []) [] 0
   ·intro γ F;refine w_ldB 0 0 rfl kr ti_60 rfl rfl ?_;exact wE (gl []) [(0,Z)] 0
   ·intro γ F;refine Fx [(0,Y)] (c_poly_Scale er6) rfl fok_148 (fun w5=>?_);refine WI.ent (frzAt 0 rfl) ?_;exact wE (gl [w5]) [(0,Y)] 2
   intro γ F;refine Fx [(1,Y),(0,Y)] (c_poly_Add er7) rfl fok_147 (fun w6=>?_);exact wE (gl [w6]) [(0,Z)] 2
  intro γ1;refine Bn (Tn (Rg (w_bi (zinc hk2 hN2) kr (Pp 1 (Ei ?_)))));have h13:=Sj h13;subst h13;exact q_rs (γ1 10 0) hn2 aK (tH [(2,Z),(5,Y),(8,Z),(6,Y)] 8)
 rintro g5 - j;refine Tn (Sg (Pp 1 ?_));refine WI.ent (frzAt 0 rfl) ?_;obtain ⟨r8,er8,h14⟩:=bnd h7;refine Fx [(0,Y)] (c_poly_Trim er8) rfl fok_150 (fun w7=>?_);refine Pp 2 (Er ?_);have h14:=Sj h14;subst h14;exact q_end (l:=[w7,iN 0]) [(0,Z)] 1 ⟨w7,rfl,rfl⟩ (.inl rfl) kr kr kr
theorem c_poly_Coefficient {c:List Nat} {d:Int} {a:Value} {r:Nat} (h:poly_Coefficient c d=some r):Ct Tryz.prog 86 [a,iV d] [rU a c] (fun v L=>v=uN r∧L=[]):=by
 refine ct_intro Tryz.func86 rfl kr (fun F=>?_);unfold poly_Coefficient at h;refine Sg (Pp 1 (Es (Sg (Pp 3 ?_))));rcases bcase h with ⟨t1,h1⟩ | ⟨t1,h1⟩
 ·refine Kb 7 t1 (Pp 5 (En ?_));refine h_ct (b:=true) rfl kr ?_;refine Sg (Pp 1 (Er (Tr ?_)));have h1:=Sj h1;subst h1;exact Ql [uN 0] [] 1
 refine Kb 7 t1 (Pp 2 (w_len (rd_hd 0 rfl) kr ts_60 (Pp 2 (En ?_))));rcases bcase h1 with ⟨t2,h2⟩ | ⟨t2,h2⟩
 ·refine Xt t2 (Sg (Pp 1 (Er (Tr ?_))));have h2:=Sj h2;subst h2;exact Ql [uN 0] [] 1
 refine Xs t2 (Tn (Sg (Pp 2 ?_)));obtain ⟨x1,ex1,h3⟩:=bnd h2;refine w_ix (k:=.i64) (rd_hd 0 rfl) (ib ex1) (iz ex1) kr ts_60 ti_22 ?_;refine w_ldR 0 0 rfl (ig ex1) kr ti_22 rfl rfl ?_;rintro _;refine Pp 1 (Er ?_);have h3:=Sj h3;subst h3;exact Ql [uN x1] [] 1
theorem c_shamir_Reconstruct {c:Nat} {d:Int} {b:List T_api_Point} {a:Value} {r:Nat × Int} (h:shamir_Reconstruct c d b=some r):Ct Tryz.prog 34 [uN c,iV d,a] [I72 a b] (fun v L=>v=.tuple #[uN r.1,iV r.2]∧L=[]):=by
 refine ct_intro Tryz.func34 rfl kr (fun F=>?_);unfold shamir_Reconstruct at h;refine Sg (Pp 2 (Es (Sq ?_)));obtain ⟨x1,ej1,h1⟩:=bnd h;refine h_join (X:=Unit) (fun g=>[(0,uN c),(1,iV d),(2,a),(22,.bool x1)]) (fun g=>[I72 a b]++F) (fun _=>True) ?_ ?_
 ·refine Rg (Pp 3 ?_);rcases bcase ej1 with ⟨t1,h2⟩ | ⟨t1,h2⟩
  ·refine Kb 12 t1 (Pp 10 (Ei ?_));cases h2;exact q_join () trivial aK (tH [(0,Y)] 1)
  refine Kb 12 t1 (Pp 1 ?_);obtain ⟨r1,er1,h3⟩:=bnd h2;refine Fe [(0,Y)] (c_shamir_placed er1) rfl fok_83 ?_;refine Pp 3 ?_;rcases bcase h3 with ⟨t2,h4⟩ | ⟨t2,h4⟩
  ·refine Kb 17 t2 (Pp 5 (Ei ?_));cases h4;exact q_join () trivial aK (tH [(0,Y)] 1)
  refine Kb 17 t2 (Pp 1 (w_len (rd_hd 0 rfl) kr ts_73 (Pp 3 (Ei ?_))));cases h4;exact q_join () trivial aK (tH [(0,Y)] 1)
 rintro ⟨⟩ - j;refine Tn ?_;rcases bcase h1 with ⟨t3,h5⟩ | ⟨t3,h5⟩
 ·refine Xt t3 (Sg (Pp 2 (Er (Tr ?_))));have h5:=Sj h5;subst h5;exact Ql [uN 0,iN 1] [] 1
 refine Xs t3 (Tn (Sg (Pp 2 ?_)));obtain ⟨r2,er2,h6⟩:=bnd h5;refine Fx [(0,Y)] (c_interpolate_Polynomial er2) rfl fok_84 (fun w2=>?_);refine Pp 5 (Es (Sg (Pp 2 (En ?_))));rcases bcase h6 with ⟨t4,h7⟩ | ⟨t4,h7⟩
 ·refine Xt t4 (Sg (Pp 3 (Er (Tr ?_))));have h7:=Sj h7;subst h7;exact Ql [uN 0,iV r2.2] [] 2
 refine Xs t4 (Tn (Sq (Sg (Pp 1 ?_))));refine WI.ent (frzAt 0 rfl) ?_;obtain ⟨r3,er3,h8⟩:=bnd h7;refine Fe [(0,Y)] (c_poly_Degree er3) rfl fok_85 ?_;refine Pp 2 (En ?_);rcases bcase h8 with ⟨t5,h9⟩ | ⟨t5,h9⟩
 ·refine Xt t5 (Sg (Pp 2 (Er (Tr ?_))));have h9:=Sj h9;subst h9;exact Ql [uN 0,iN 9] [] 2
 refine Xs t5 (Tn (Sg (Pp 1 ?_)));obtain ⟨r4,er4,h10⟩:=bnd h9;refine Fe [(0,Y)] (c_poly_Coefficient er4) rfl fok_86 ?_;refine Pp 2 (Er ?_);have h10:=Sj h10;subst h10;exact Ql [uN r4,iN 0] [] 2
theorem c_privityref04_Eval {c:Nat} {b:List Nat} {d:Nat} {a:Value} {r:Nat} (h:privityref04_Eval c b d=some r):Ct Tryz.prog 70 [uN c,a,uN d] [rU a b] (fun v L=>v=uN r∧L=[]):=by
 refine ct_intro Tryz.func70 rfl kr (fun F=>?_);unfold privityref04_Eval at h;refine Sg (Pp 1 (Eg (Pp 2 (Es (Sg (Pp 1 (En ?_)))))));refine h_lenle (rd_lenle 0 rfl) (fun hN1=>?_);obtain ⟨⟨x4,x5⟩,elp1,h1⟩:=bnd h;refine h_join (X:=Unit) (fun g=>[(7,uN x4)]) (fun g=>[]++F) (fun _=>True) ?_ ?_
 ·refine Wb ?_;refine h_rs (fun (k1:Nat) (st:Nat × Nat) (g:Unit)=>[(0,uN c),(1,a),(2,uN d),(7,uN st.1),(8,uN st.2),(9,iN k1)]) (fun (k1:Nat) (st:Nat × Nat) (g:Unit)=>[rU a b]++F) () elp1 (Nat.zero_le _) aK (tH [(0,Y)] 1) ?_ ?_
  ·rintro ⟨⟩ j;refine Sq (Sg (Pp 2 (w_len (rd_hd 0 rfl) kr ts_60 (Pp 1 (En (Xf (rgF (N:=b.length)) (We (Te (q_rzX (Be ?_))))))))));exact q_join () trivial aK (tH [] 1)
  rintro rem k1 ⟨x1,x2⟩ ⟨⟩ o1 hk1 h2 hn1 j;have h2:privityref04_Eval_L0 c b d k1 x1 x2=some o1:=h2;unfold privityref04_Eval_L0 at h2;refine Sq (Sg (Pp 2 (w_len (rd_hd 0 rfl) kr ts_60 (Pp 1 (En (Xt (rgT (k:=k1) (N:=b.length) hk1) (Ws (Tn (Sq (Wb (Sg (Pp 5 ?_))))))))))));obtain ⟨x6,ex6,h3⟩:=bnd h2;refine w_ix (k:=.i64) (rd_hd 0 rfl) (nbd ex6) rfl kr ts_60 ti_22 ?_
  refine w_ldR 0 0 rfl ex6 kr ti_22 rfl rfl ?_;rintro _;refine Pp 1 ?_;obtain ⟨r2,er2,h4⟩:=bnd h3;refine Fe [] (c_privityref01_Mul er2) rfl fok_38 ?_;obtain ⟨r3,er3,h5⟩:=bnd h4;refine Fe [] (c_privityref01_Add er3) rfl fok_37 ?_;refine Pp 1 (En (Rg (Pp 3 ?_)));obtain ⟨r4,er4,h6⟩:=bnd h5;refine Fe [] (c_privityref01_Mul er4) rfl fok_38 ?_
  refine Pp 1 (Ei (Bn (Tn (Rg (Pp 1 (w_bi (zinc hk1 hN1) kr (Pp 1 (Ei ?_))))))));have h6:=Sj h6;subst h6;exact q_rs () hn1 aK (tH [(0,Y)] 1)
 rintro ⟨⟩ - j;refine Tn (Sg (Pp 2 (Er ?_)));have h1:=Sj h1;subst h1;exact Ql [uN x4] [] 0
theorem c_privityref19_Joined {b:T_api_Scenario} {f:List (List Nat)} {c d e a:Value} {r:Bool} (h:privityref19_Joined b f=some r):Ct Tryz.prog 33 [.agg #[uN b.S.P,iV b.S.N,iV b.S.T,c,d,e],a] [rI c b.Corrupt,rD d b.Deviations,rS e b.Tapes,rS a f] (fun v L=>v=.bool r∧L=[]):=by
 refine ct_intro Tryz.func33 rfl kr (fun F=>?_);unfold privityref19_Joined at h;refine Sg ?_;refine w_box (t:=29) (v:=.agg #[uN b.S.P,iV b.S.N,iV b.S.T,c,d,e]) (cs:=(pP b.S [c,d,e])) (cv0 kr) kr (fun q1=>?_)
 refine WI.hd (y:=I70 q1 b.S c d e) kr ?_;refine w_opP 0 rfl (fun b1 hb=>?_);subst hb;refine Pp 1 (Eg (Pp 1 (w_ldB 0 0 rfl kr ti_24 rfl rfl (Pp 1 (w_ldB 0 3 rfl kr ti_25 rfl rfl ?_)))));obtain ⟨r1,er1,h1⟩:=bnd h;refine Fx [(1,Y)] (c_privityref12_HonestParties er1) rfl fok_22 (fun w1=>?_)
 refine Pp 1 (Es (Sg (Pp 1 (En ?_))));refine h_lenle (own_lenle 0 rfl) (fun hN1=>?_);obtain ⟨r2,elp1,h2⟩:=bnd h1;refine h_join (X:=Unit × Unit) (fun g=>[]) (fun g=>[]++F) (fun g=>r2=.go g.2) ?_ ?_
 ·refine Wb ?_
  refine h_rg (fun (k1:Nat) (st:Unit) (g:Unit)=>[(1,a),(2,(bx b1)),(5,w1),(6,iN k1)]) (fun (k1:Nat) (st:Unit) (g:Unit)=>[rS a f,I12 b1 b.S c d e,rI c b.Corrupt,rD d b.Deviations,rS e b.Tapes,I54 w1 r1]++F) () elp1 (Nat.zero_le _) aK (tH [(5,Y),(1,Z),(1,Y),(2,Y),(3,Y),(0,Z)] 4) ?_ ?_
  ·rintro ⟨⟩ ⟨⟩ hr1 j;refine Sq (Sg (Pp 2 (w_len (own_hd 5 rfl) kr ts_25 (Pp 1 (En (Xf (rgF (N:=r1.length)) (We (Te (q_rzX (Be ?_))))))))));exact q_join ((),()) hr1 aK (tH [] 6)
  rintro rem k1 ⟨⟩ ⟨⟩ o1 hk1 h3 hn1 j;have h3:privityref19_Joined_L0 b f r1 k1=some o1:=h3;unfold privityref19_Joined_L0 at h3;refine Sq (Sg (Pp 2 (w_len (own_hd 5 rfl) kr ts_25 (Pp 1 (En (Xt (rgT (k:=k1) (N:=r1.length) hk1) (Ws (Tn (Sq (Wb (Sg (Pp 1 (En ?_)))))))))))));obtain ⟨u1,eu1,h4⟩:=bnd h3;have hN2:=ckN_some eu1;obtain ⟨r3,elp2,h5⟩:=bnd h4
  refine h_join (X:=Unit × Unit) (fun g=>[(1,a),(2,(bx b1)),(5,w1),(6,iN k1)]) (fun g=>[rS a f,I12 b1 b.S c d e,rI c b.Corrupt,rD d b.Deviations,rS e b.Tapes,I54 w1 r1]++F) (fun g=>r3=.go g.2) ?_ ?_
  ·refine Wb ?_
   refine h_rg (fun (k2:Nat) (st:Unit) (g:Unit)=>[(1,a),(2,(bx b1)),(5,w1),(6,iN k1),(7,iN k2)]) (fun (k2:Nat) (st:Unit) (g:Unit)=>[rS a f,I12 b1 b.S c d e,rI c b.Corrupt,rD d b.Deviations,rS e b.Tapes,I54 w1 r1]++F) () elp2 (Nat.zero_le _) aK (tH [(0,Y),(1,Z),(1,Y),(2,Y),(3,Y),(4,Z)] 4) ?_ ?_
   ·rintro ⟨⟩ ⟨⟩ hr2 j;refine Sq (Sg (Pp 3 (En (Xf (rgF (N:=k1)) (We (Te (q_rzX (Be ?_))))))));exact q_join ((),()) hr2 aK (tH [(0,Y),(1,Z),(1,Y),(2,Y),(3,Y),(4,Z)] 4)
   rintro rem k2 ⟨⟩ ⟨⟩ o2 hk2 h6 hn2 j;have h6:privityref19_Joined_L1 b f r1 k1 k2=some o2:=h6;unfold privityref19_Joined_L1 at h6;refine Sq (Sg (Pp 3 (En (Xt (rgT (k:=k2) (N:=k1) hk2) (Ws (Tn (Sq (Wb (Sq ?_)))))))));obtain ⟨x1,ex1,h7⟩:=bnd h6;obtain ⟨x2,ex2,h8⟩:=bnd h7;obtain ⟨x3,ex3,h9⟩:=bnd h8;obtain ⟨x4,ex4,h10⟩:=bnd h9;obtain ⟨x5,ex5,h11⟩:=bnd h10
   obtain ⟨r4,er4,h12⟩:=bnd h11;obtain ⟨x6,ex6,h13⟩:=bnd h12;obtain ⟨x7,ex7,h14⟩:=bnd h13;obtain ⟨x8,ex8,h15⟩:=bnd h14;obtain ⟨r5,er5,h16⟩:=bnd h15
   refine h_fm [0,1,3,0,0,0,48,112,240,504,1016,0,0,6144,14336,30720,65535,0,131072,393216,0,0,0,6291456,14680064,31457280,66060288,133169152,0,0,805306368,1879048192,4026531840,8589934591,17179869183] ⟨6,[0,0,0,0,0,0,0,0,0,0,1,0,0,0,0,0,0,0,0,0,0,0,0,0,0,0,0,1,0,0,0,0,0,0,0],[],[(2,[(0,1)]),(6,[(0,5)]),(7,[(0,5)]),(13,[(0,5)]),(14,[(0,5)]),(19,[(0,1)]),(23,[(0,5)]),(24,[(0,5)]),(30,[(0,5)]),(31,[(0,5)])],[(9,[(0,0)]),(10,[(0,0)]),(16,[(11,0)]),(26,[(0,0)]),(27,[(0,0)]),(33,[(28,0)])]⟩ (fun γ=>[bx b1,bx b1,uN b.S.P,a,w1,iN k1,.pointer (some (elV w1 (k1*Ki.size))),iV x1,iV x2,.pointer (some (elV a (x2.toNat*Ks.size))),(γ 10 0),w1,iN k2,.pointer (some (elV w1 (k2*Ki.size))),iV x4,uN x5,uN r4,bx b1,bx b1,uN b.S.P,a,w1,iN k2,.pointer (some (elV w1 (k2*Ki.size))),iV x4,iV x6,.pointer (some (elV a (x6.toNat*Ks.size))),(γ 27 0),w1,iN k1,.pointer (some (elV w1 (k1*Ki.size))),iV x1,uN x8,uN r5,.bool ((r4:Int) != (r5:Int))]) (fun i γ=>match i with | 10=>[rU (γ 10 0) x3] | 27=>[rU (γ 27 0) x7] | _=>[]) [0,1,3,4,5,11,12,17,18,20,21,22,28,29,34] tryz_mix Tb_ok ?_ ?_
   ·refine ⟨?_,?_,?_,?_,?_,?_,?_,?_,?_,?_,?_,?_,?_,?_,?_,?_,?_,?_,?_,?_,trivial⟩
    ·intro γ F;refine w_ldB 0 0 rfl kr ti_22 rfl rfl ?_;exact wE (gl []) [(0,Z)] 0
    ·intro γ F;refine w_ix (k:=.i64) (own_hd 0 rfl) (nbd ex1) rfl kr ts_25 ti_3 ?_;exact wE (gl []) [(0,Z)] 0
    ·intro γ F;refine w_ldO 0 0 rfl ex1 kr ti_3 rfl rfl ?_;rintro _;exact wE (gl []) [(0,Z)] 0
    ·intro γ F;refine w_bi (zsubI ex2) kr ?_;exact wE (gl []) [] 0
    ·intro γ F;refine w_ix (k:=.i64) (rd_hd 0 rfl) (ib ex3) (iz ex3) kr ts_70 ti_60 ?_;exact wE (gl []) [] 1
    ·intro γ F;refine w_ldR 0 0 rfl (ig ex3) kr ti_60 rfl rfl ?_;rintro v1;exact wE (gl [v1]) [(0,Y)] 2
    ·intro γ F;refine w_ix (k:=.i64) (own_hd 0 rfl) (nbd ex4) rfl kr ts_25 ti_3 ?_;exact wE (gl []) [(0,Z)] 0
    ·intro γ F;refine w_ldO 0 0 rfl ex4 kr ti_3 rfl rfl ?_;rintro _;exact wE (gl []) [(0,Z)] 0
    ·intro γ F;refine w_cv Tb_ok (ecU ex5) kr ?_;exact wE (gl []) [] 0
    ·intro γ F;refine Fe [(0,Y)] (c_privityref04_Eval er4) rfl fok_70 ?_;exact wE (gl []) [] 1
    ·intro γ F;refine w_ldB 0 0 rfl kr ti_22 rfl rfl ?_;exact wE (gl []) [(0,Z)] 0
    ·intro γ F;refine w_ix (k:=.i64) (own_hd 0 rfl) (nbd ex4) rfl kr ts_25 ti_3 ?_;exact wE (gl []) [(0,Z)] 0
    ·intro γ F;refine w_ldO 0 0 rfl ex4 kr ti_3 rfl rfl ?_;rintro _;exact wE (gl []) [(0,Z)] 0
    ·intro γ F;refine w_bi (zsubI ex6) kr ?_;exact wE (gl []) [] 0
    ·intro γ F;refine w_ix (k:=.i64) (rd_hd 0 rfl) (ib ex7) (iz ex7) kr ts_70 ti_60 ?_;exact wE (gl []) [] 1
    ·intro γ F;refine w_ldR 0 0 rfl (ig ex7) kr ti_60 rfl rfl ?_;rintro v2;exact wE (gl [v2]) [(0,Y)] 2
    ·intro γ F;refine w_ix (k:=.i64) (own_hd 0 rfl) (nbd ex1) rfl kr ts_25 ti_3 ?_;exact wE (gl []) [(0,Z)] 0
    ·intro γ F;refine w_ldO 0 0 rfl ex1 kr ti_3 rfl rfl ?_;rintro _;exact wE (gl []) [(0,Z)] 0
    ·intro γ F;refine w_cv Tb_ok (ecU ex8) kr ?_;exact wE (gl []) [] 0
    intro γ F;refine Fe [(0,Y)] (c_privityref04_Eval er5) rfl fok_70 ?_;exact wE (gl []) [] 1
   intro γ1;refine Tn ?_;rcases bcase h16 with ⟨t1,h17⟩ | ⟨t1,h17⟩
   ·refine Xt t1 (Sg (Pp 1 (Er (Br (Tr (q_rgR (Br (q_joinR (Br (Tr (q_rgR (Br (q_joinR ?_)))))))))))));refine Tr ?_;have h17:=Sj h17;subst h17;have hn:=(show _=_ from hn2);subst hn;have h5:=Sj (show some _=some _ from h5);subst h5;have hn:=(show _=_ from hn1);subst hn;have h2:=Sj (show some _=some _ from h2);subst h2;exact Ql [.bool false] [] 8
   refine Xs t1 (Bn (Tn (Rg (Pp 1 (w_bi (zinc hk2 hN2) kr (Pp 1 (Ei ?_)))))));have h17:=Sj h17;subst h17;exact q_rgo () hn2 aK (tH [(0,Y),(1,Z),(1,Y),(2,Y),(3,Y),(4,Z)] 6)
  rintro ⟨⟨⟩,⟨⟩⟩ hc j;subst hc;refine Bn (Tn (Rg (Pp 1 (w_bi (zinc hk1 hN1) kr (Pp 1 (Ei ?_))))));have h5:=Sj h5;subst h5;exact q_rgo () hn1 aK (tH [(0,Y),(1,Z),(1,Y),(2,Y),(3,Y),(4,Z)] 4)
 rintro ⟨⟨⟩,⟨⟩⟩ hc j;subst hc;refine Tn (Sg (Pp 1 (Er ?_)));have h2:=Sj h2;subst h2;exact Ql [.bool true] [] 0
theorem c_shamir_Constant {a:T_api_Params} {c:Nat} {r:(List (List Nat))} (h:shamir_Constant a c=some r):Ct Tryz.prog 39 [(aP a),uN c] [] (fun v L=>∃ w0:Value,v=w0∧L=[I16 w0 r]):=by
 refine ct_intro Tryz.func39 rfl kr (fun F=>?_);unfold shamir_Constant at h;refine Sg ?_;refine w_box (t:=24) (v:=(aP a)) (cs:=(pP a [])) (cv0 kr) kr (fun q1=>?_);refine WI.hd (y:=I71 q1 a) kr ?_;refine w_opP 0 rfl (fun b1 hb=>?_);subst hb
 refine Pp 1 (Eg (Pp 1 (Es (Sg (Pp 1 (w_ldB 0 1 rfl kr ti_3 rfl rfl (Pp 1 (En ?_))))))));refine WH.ent (ownNil (kd:=Ks) (e:=60)) ?_;obtain ⟨u1,eu1,h1⟩:=bnd h;have hN1:=ckN_some eu1;obtain ⟨l2,elp1,h2⟩:=bnd h1;refine h_join (X:=Value) (fun g=>[(5,g)]) (fun g=>[I16 g l2]++F) (fun _=>True) ?_ ?_
 ·refine Wb ?_
  refine h_rs (fun (k1:Nat) (st:(List (List Nat))) (g:Value)=>[(1,uN c),(2,(bx b1)),(5,g),(8,iV a.N),(9,iN k1)]) (fun (k1:Nat) (st:(List (List Nat))) (g:Value)=>[I21 b1 a,I16 g st]++F) (.slice none 0 0) elp1 (Nat.le_max_left ..) aK (tH [(1,Z),(0,Z)] 0) ?_ ?_
  ·rintro g3 j;refine Sg (Pp 1 (Es ?_));refine h_cf (b:=(decide ((((max 0 (a.N).toNat):Nat):Int) < a.N))) rgLF kr ?_;refine We (Te (q_rzX (Be ?_)));exact q_join g3 trivial aK (tH [(1,Z)] 1)
  rintro rem k1 l1 g1 o1 hk1 h3 hn1 j;have h3:shamir_Constant_L0 a c k1 l1=some o1:=h3;unfold shamir_Constant_L0 at h3;refine Sg (Pp 1 (Es ?_));refine h_ct (b:=(decide ((k1:Int) < a.N))) (rgLT hk1) kr ?_;refine Ws (Tn (Sq (Wb (Sg (Pp 1 (w_ldB 0 2 rfl kr ti_3 rfl rfl ?_))))));obtain ⟨x2,ex2,h4⟩:=bnd h3;refine w_bi (zaddI ex2) kr ?_;obtain ⟨l3,el3,h5⟩:=bnd h4
  refine w_mk (kd:=Ku) (kl:=.i64) (kc:=.i64) () el3 kr ts_60 ti_22 rfl kr (it0 rfl) (fun v1=>?_);refine Pp 1 (Eg (Pp 2 ?_));obtain ⟨x3,ex3,h6⟩:=bnd h5;refine w_ix (k:=.i64) (own_hd 0 rfl) (nbd ex3) rfl kr ts_60 ti_22 ?_;obtain ⟨l4,el4,h7⟩:=bnd h6;refine w_stO (kd:=Ku) (w:=uN c) (m:=0) (x0:=c) 0 () rfl (nbd ex3) (sinj el4) kr ti_22 (cv0 kr) (it0 rfl) ?_
  refine En (Rg (Pp 2 ?_));refine WI.ent (frzAt 0 rfl) ?_;refine w_lt (kd:=Ks) (t:=70) (len:=1) (ps0:=[(0,v1)]) (ps:=[(0,.agg #[v1])]) ([l4]:List (List Nat)) _ (rowC (x:=l4) (g:=v1) (itS 0 rfl) row0) (scS (rd_hd 0 rfl) sc0) kr ts_70 ti_60 kr rfl rfl (fun v2=>?_);obtain ⟨l5,el5,h8⟩:=bnd h7;refine w_app 3 rfl (own_src 0 rfl) el5 kr ts_70 ti_60 rfl (fun v3=>?_)
  refine Pp 1 (Ei (Bn (Tn (Rg (w_bi (zinc hk1 hN1) kr (Pp 1 (Ei ?_)))))));have h8:=Sj h8;subst h8;exact q_rs v3 hn1 aK (tH [(3,Z),(0,Z)] 2)
 rintro g2 - j;refine Tn (Sg (Pp 2 (Er ?_)));have h2:=Sj h2;subst h2;exact q_end (l:=[g2]) [(0,Z)] 0 ⟨g2,rfl,rfl⟩ (.inl rfl) kr kr kr
theorem c_shamir_words_1_1 {d e c a b r:Nat} (h:shamir_words_1_1 d e c=some r):Ct Tryz.prog 155 [uN d,uN e,(bx a),(bx b)] [I23 a,I22 b c] (fun v L=>v=uN r∧L=[I23 a,I22 b c]):=by
 refine ct_intro Tryz.func155 rfl kr (fun F=>?_);unfold shamir_words_1_1 at h;refine Sg (Pp 1 (Eg (w_ldB 0 0 rfl kr ti_82 rfl rfl (w_ldB 1 0 rfl kr ti_22 rfl rfl (Pp 2 ?_)))));obtain ⟨r1,er1,h1⟩:=bnd h;refine Fe [] (c_field_Add er1) rfl fok_92 ?_;refine Pp 1 (Er ?_);have h1:=Sj h1;subst h1;exact Ql [uN r1] [(0,Z),(0,Z)] 0
theorem c_shamir_pairs_uint64_uint64_shamir_words_1_1 {f:List Nat} {n:List Nat} {c:Nat} {d e:Value} {a b:Nat} {r:(List Nat)} (h:shamir_pairs_uint64_uint64_shamir_words_1_1 f n c=some r):Ct Tryz.prog 154 [d,e,.func (.func 155) #[] #[(bx a),(bx b)]] [rU d f,rU e n,I23 a,I22 b c] (fun v L=>∃ w0:Value,v=w0∧L=[I15 w0 r,I23 a,I22 b c]):=by
 refine ct_intro Tryz.func154 rfl kr (fun F=>?_);unfold shamir_pairs_uint64_uint64_shamir_words_1_1 at h;refine Sg (Pp 1 (Eg (Pp 1 (w_len (rd_hd 0 rfl) kr ts_60 ?_))));obtain ⟨l1,el1,h1⟩:=bnd h;refine w_mk (kd:=Ku) (kl:=.i64) (kc:=.i64) () el1 kr ts_60 ti_22 rfl kr (it0 rfl) (fun v1=>?_);refine Pp 1 (Es (Sg (Pp 1 (w_len (rd_hd 1 rfl) kr ts_60 (Pp 1 (En ?_))))))
 refine h_lenle (rd_lenle 1 rfl) (fun hN1=>?_);obtain ⟨l3,elp1,h2⟩:=bnd h1;refine h_join (X:=Unit) (fun g=>[(7,v1)]) (fun g=>[I23 a,I22 b c,I15 v1 l3]++F) (fun _=>True) ?_ ?_
 ·refine Wb ?_
  refine h_rs (fun (k1:Nat) (st:(List Nat)) (g:Unit)=>[(0,d),(1,e),(2,.func (.func 155) #[] #[(bx a),(bx b)]),(7,v1),(13,iN f.length),(14,iN k1)]) (fun (k1:Nat) (st:(List Nat)) (g:Unit)=>[rU d f,rU e n,I23 a,I22 b c,I15 v1 st]++F) () elp1 (Nat.zero_le _) aK (tH [(1,Y),(2,Y),(3,Z),(3,Z),(0,Z)] 2) ?_ ?_
  ·rintro ⟨⟩ j;refine Sg (Pp 1 (Es (Xf (rgF (N:=f.length)) (We (Te (q_rzX (Be ?_)))))));exact q_join () trivial aK (tH [(2,Z),(2,Z),(2,Z)] 2)
  rintro rem k1 l2 ⟨⟩ o1 hk1 h3 hn1 j;have h3:shamir_pairs_uint64_uint64_shamir_words_1_1_L0 f n c k1 l2=some o1:=h3;unfold shamir_pairs_uint64_uint64_shamir_words_1_1_L0 at h3;refine Sg (Pp 1 (Es (Xt (rgT (k:=k1) (N:=f.length) hk1) (Ws (Tn (Sq (Wb (Sg (Pp 2 (En ?_))))))))));obtain ⟨x2,ex2,h4⟩:=bnd h3;obtain ⟨x3,ex3,h5⟩:=bnd h4;obtain ⟨r2,er2,h6⟩:=bnd h5
  obtain ⟨x4,ex4,h7⟩:=bnd h6;obtain ⟨l4,el4,h8⟩:=bnd h7
  refine h_fm [0,0,0,0,0,24,56,0,0,384,896,2044,4095,8191] ⟨5,[0,0,0,0,0,0,0,0,0,0,0,0,0,1],[(13,[(0,4)])],[(11,[(0,2),(0,3)]),(12,[(0,4)])],[(5,[(0,0)]),(6,[(0,0)]),(9,[(0,1)]),(10,[(0,1)])]⟩ (fun γ=>[v1,iN k1,.func (.func 155) #[] #[(bx a),(bx b)],d,iN k1,.pointer (some (elV d (k1*Ku.size))),uN x2,e,iN k1,.pointer (some (elV e (k1*Ku.size))),uN x3,uN r2,.pointer (some (elV v1 (k1*Ku.size))),undef]) (fun i γ=>match i with | 13=>[I15 v1 l4] | _=>[]) [0,1,2,3,4,7,8] tryz_mix Tb_ok ?_ ?_
  ·refine ⟨?_,?_,?_,?_,?_,?_,?_,trivial⟩
   ·intro γ F;refine w_ix (k:=.i64) (rd_hd 0 rfl) (nbd ex2) rfl kr ts_60 ti_22 ?_;exact wE (gl []) [] 1
   ·intro γ F;refine w_ldR 0 0 rfl ex2 kr ti_22 rfl rfl ?_;rintro _;exact wE (gl []) [] 1
   ·intro γ F;refine w_ix (k:=.i64) (rd_hd 0 rfl) (nbd ex3) rfl kr ts_60 ti_22 ?_;exact wE (gl []) [] 1
   ·intro γ F;refine w_ldR 0 0 rfl ex3 kr ti_22 rfl rfl ?_;rintro _;exact wE (gl []) [] 1
   ·intro γ F;refine Fe [(0,Z),(0,Z)] (c_shamir_words_1_1 er2) rfl fok_155 ?_;exact wE (gl []) [(0,Z),(0,Z)] 0
   ·intro γ F;refine w_ix (k:=.i64) (own_hd 0 rfl) (nbd ex4) rfl kr ts_60 ti_22 ?_;exact wE (gl []) [(0,Z)] 0
   intro γ F;refine w_stO (kd:=Ku) (w:=uN r2) (m:=k1) (x0:=r2) 0 () rfl (nbd ex4) (sinj el4) kr ti_22 (cv0 kr) (it0 rfl) ?_;exact wE (gl []) [(0,Z)] 0
  intro γ1;refine Bn (Tn (Rg (w_bi (zinc hk1 hN1) kr (Pp 1 (Ei ?_)))));have h8:=Sj h8;subst h8;exact q_rs () hn1 aK (tH [(0,Y),(1,Y),(2,Z),(2,Z),(2,Z)] 2)
 rintro ⟨⟩ - j;refine Tn (Sg (Pp 2 (Er ?_)));have h2:=Sj h2;subst h2;exact q_end (l:=[v1]) [(2,Z),(0,Z),(0,Z)] 0 ⟨v1,rfl,rfl⟩ (.inl rfl) kr kr kr
theorem c_shamir_words_1 {f:List Nat} {g:List Nat} {e:Nat} {c d:Value} {a b:Nat} {r:(List Nat)} (h:shamir_words_1 f g e=some r):Ct Tryz.prog 153 [c,d,(bx a),(bx b)] [rU c f,rU d g,I23 a,I22 b e] (fun v L=>∃ w0:Value,v=w0∧L=[I15 w0 r,I23 a,I22 b e]):=by
 refine ct_intro Tryz.func153 rfl kr (fun F=>?_);unfold shamir_words_1 at h;refine Sg (Pp 1 (Eg (Pp 3 ?_)));obtain ⟨r1,er1,h1⟩:=bnd h;refine Fx [(0,Y),(1,Y),(2,Z),(2,Z)] (c_shamir_pairs_uint64_uint64_shamir_words_1_1 er1) rfl fok_154 (fun w1=>?_);refine Pp 1 (Er ?_);have h1:=Sj h1;subst h1
 exact q_end (l:=[w1]) [(0,Z),(0,Z),(0,Z)] 2 ⟨w1,rfl,rfl⟩ (.inl rfl) kr kr kr
theorem c_shamir_pairs_Luint64_Luint64_shamir_words_1 {f:List (List Nat)} {n:List (List Nat)} {c:Nat} {d e:Value} {a b:Nat} {r:(List (List Nat))} (h:shamir_pairs_Luint64_Luint64_shamir_words_1 f n c=some r):Ct Tryz.prog 152 [d,e,.func (.func 153) #[] #[(bx a),(bx b)]] [rS d f,rS e n,I23 a,I22 b c] (fun v L=>∃ w0:Value,v=w0∧L=[I16 w0 r,I23 a,I22 b c]):=by
 refine ct_intro Tryz.func152 rfl kr (fun F=>?_);unfold shamir_pairs_Luint64_Luint64_shamir_words_1 at h;refine Sg (Pp 1 (Eg (Pp 1 (w_len (rd_hd 0 rfl) kr ts_27 ?_))));refine WI.ent (rdNil (kd:=Ku)) ?_;obtain ⟨l1,el1,h1⟩:=bnd h;refine w_mk (kd:=Ks) (kl:=.i64) (kc:=.i64) (.slice none 0 0) el1 kr ts_27 ti_60 rfl kr (itS 0 rfl) (fun v1=>?_)
 refine Pp 1 (Es (Sg (Pp 1 (w_len (rd_hd 2 rfl) kr ts_27 (Pp 1 (En ?_))))));refine h_lenle (rd_lenle 2 rfl) (fun hN1=>?_);obtain ⟨l3,elp1,h2⟩:=bnd h1
 refine h_join (X:=Unit) (fun g=>[(7,v1)]) (fun g=>[I23 a,I22 b c,I16 v1 l3]++F) (fun _=>True) ?_ ?_
 ·refine Wb ?_
  refine h_rs (fun (k1:Nat) (st:(List (List Nat))) (g:Unit)=>[(0,d),(1,e),(2,.func (.func 153) #[] #[(bx a),(bx b)]),(7,v1),(13,iN f.length),(14,iN k1)]) (fun (k1:Nat) (st:(List (List Nat))) (g:Unit)=>[rS d f,rS e n,I23 a,I22 b c,I16 v1 st]++F) () elp1 (Nat.zero_le _) aK (tH [(2,Y),(3,Y),(4,Z),(4,Z),(0,Z)] 3) ?_ ?_
  ·rintro ⟨⟩ j;refine Sg (Pp 1 (Es (Xf (rgF (N:=f.length)) (We (Te (q_rzX (Be ?_)))))));exact q_join () trivial aK (tH [(2,Z),(2,Z),(2,Z)] 2)
  rintro rem k1 l2 ⟨⟩ o1 hk1 h3 hn1 j;have h3:shamir_pairs_Luint64_Luint64_shamir_words_1_L0 f n c k1 l2=some o1:=h3;unfold shamir_pairs_Luint64_Luint64_shamir_words_1_L0 at h3;refine Sg (Pp 1 (Es (Xt (rgT (k:=k1) (N:=f.length) hk1) (Ws (Tn (Sq (Wb (Sg (Pp 2 (En ?_))))))))));obtain ⟨x2,ex2,h4⟩:=bnd h3;obtain ⟨x3,ex3,h5⟩:=bnd h4;obtain ⟨r2,er2,h6⟩:=bnd h5
  obtain ⟨x4,ex4,h7⟩:=bnd h6;obtain ⟨l4,el4,h8⟩:=bnd h7
  refine h_fm [0,0,0,0,0,24,56,0,0,384,896,2044,4095,8191] ⟨5,[0,0,0,0,0,0,1,0,0,0,1,1,0,1],[(13,[(0,4)])],[(11,[(0,2),(0,3)]),(12,[(0,4)])],[(5,[(0,0)]),(6,[(0,0)]),(9,[(0,1)]),(10,[(0,1)]),(11,[(11,0),(7,0)]),(13,[(12,0)])]⟩ (fun γ=>[v1,iN k1,.func (.func 153) #[] #[(bx a),(bx b)],d,iN k1,.pointer (some (elV d (k1*Ks.size))),(γ 6 0),e,iN k1,.pointer (some (elV e (k1*Ks.size))),(γ 10 0),(γ 11 0),.pointer (some (elV v1 (k1*Ks.size))),undef]) (fun i γ=>match i with | 6=>[rU (γ 6 0) x2] | 10=>[rU (γ 10 0) x3] | 11=>[rU (γ 11 0) r2] | 13=>[I16 v1 l4] | _=>[]) [0,1,2,3,4,7,8] tryz_mix Tb_ok ?_ ?_
  ·refine ⟨?_,?_,?_,?_,?_,?_,?_,trivial⟩
   ·intro γ F;refine w_ix (k:=.i64) (rd_hd 0 rfl) (nbd ex2) rfl kr ts_27 ti_60 ?_;exact wE (gl []) [] 1
   ·intro γ F;refine w_ldR 0 0 rfl ex2 kr ti_60 rfl rfl ?_;rintro v2;exact wE (gl [v2]) [(0,Y)] 2
   ·intro γ F;refine w_ix (k:=.i64) (rd_hd 0 rfl) (nbd ex3) rfl kr ts_27 ti_60 ?_;exact wE (gl []) [] 1
   ·intro γ F;refine w_ldR 0 0 rfl ex3 kr ti_60 rfl rfl ?_;rintro v3;exact wE (gl [v3]) [(0,Y)] 2
   ·intro γ F;refine Fx [(3,Y),(2,Y),(0,Z),(0,Z)] (c_shamir_words_1 er2) rfl fok_153 (fun w1=>?_);refine WI.ent (frzAt 0 rfl) ?_
    exact wE (gl [w1]) [(0,Y),(1,Z),(1,Z)] 3
   ·intro γ F;refine w_ix (k:=.i64) (own_hd 0 rfl) (nbd ex4) rfl kr ts_27 ti_60 ?_;exact wE (gl []) [(0,Z)] 0
   intro γ F;refine w_stO (kd:=Ks) (w:=(γ 11 0)) (m:=k1) (x0:=r2) 0 (γ 11 0) rfl (nbd ex4) (sinj el4) kr ti_60 (cvS (rd_hd 1 rfl)) (itS 1 rfl) ?_;exact wE (gl []) [(0,Z)] 1
  intro γ1;refine Bn (Tn (Rg (w_bi (zinc hk1 hN1) kr (Pp 1 (Ei ?_)))));have h8:=Sj h8;subst h8;exact q_rs () hn1 aK (tH [(0,Y),(1,Y),(2,Z),(2,Z),(5,Z)] 5)
 rintro ⟨⟩ - j;refine Tn (Sg (Pp 2 (Er ?_)));have h2:=Sj h2;subst h2;exact q_end (l:=[v1]) [(2,Z),(0,Z),(0,Z)] 0 ⟨v1,rfl,rfl⟩ (.inl rfl) kr kr kr
theorem c_shamir_words_field_Add {a:Nat} {d:List (List Nat)} {e:List (List Nat)} {b c:Value} {r:(List (List Nat))} (h:shamir_words_field_Add a d e=some r):Ct Tryz.prog 91 [uN a,b,c,.func (.func 92) #[] #[]] [rS b d,rS c e] (fun v L=>∃ w0:Value,v=w0∧L=[I16 w0 r]):=by
 refine ct_intro Tryz.func91 rfl kr (fun F=>?_);unfold shamir_words_field_Add at h;refine Sg ?_;refine w_box (t:=22) (v:=uN a) (cs:=[uN a]) (cv0 kr) kr (fun q1=>?_);refine WI.hd (y:=blkP q1 22 [uN a]) kr ?_;refine w_opP 0 rfl (fun b1 hb=>?_);subst hb
 refine w_box (t:=82) (v:=.func (.func 92) #[] #[]) (cs:=[.func (.func 92) #[] #[]]) (cv0 kr) kr (fun q2=>?_);refine WI.hd (y:=blkP q2 82 [.func (.func 92) #[] #[]]) kr ?_;refine w_opP 0 rfl (fun b2 hb=>?_);subst hb;refine Pp 1 (Eg (Pp 3 ?_));obtain ⟨r1,er1,h1⟩:=bnd h
 refine Fx [(2,Y),(3,Y),(0,Z),(0,Z)] (c_shamir_pairs_Luint64_Luint64_shamir_words_1 er1) rfl fok_152 (fun w1=>?_);refine Pp 1 (Er ?_);have h1:=Sj h1;subst h1;exact q_end (l:=[w1]) [(0,Z)] 4 ⟨w1,rfl,rfl⟩ (.inl rfl) kr kr kr
theorem c_shamir_Add {c:Nat} {d:List (List Nat)} {e:List (List Nat)} {a b:Value} {r:(List (List Nat))} (h:shamir_Add c d e=some r):Ct Tryz.prog 40 [uN c,a,b] [rS a d,rS b e] (fun v L=>∃ w0:Value,v=w0∧L=[I16 w0 r]):=by
 refine ct_intro Tryz.func40 rfl kr (fun F=>?_);unfold shamir_Add at h;refine Sg (Pp 1 (Eg (Pp 3 ?_)));obtain ⟨r1,er1,h1⟩:=bnd h;refine Fx [(0,Y),(1,Y)] (c_shamir_words_field_Add er1) rfl fok_91 (fun w1=>?_);refine Pp 1 (Er ?_);have h1:=Sj h1;subst h1;exact q_end (l:=[w1]) [(0,Z)] 2 ⟨w1,rfl,rfl⟩ (.inl rfl) kr kr kr
theorem c_privityref09_Rows {e:Nat} {f:List (List Nat)} {d a:Int} {c:Value} {r:Bool} (h:privityref09_Rows e f d a=some r):Ct Tryz.prog 41 [uN e,c,iV d,iV a] [rS c f] (fun v L=>v=.bool r∧L=[]):=by
 refine ct_intro Tryz.func41 rfl kr (fun F=>?_);unfold privityref09_Rows at h;refine Sg (Pp 1 (Es (Sg (Pp 1 (w_len (rd_hd 0 rfl) kr ts_70 (Pp 2 (En ?_)))))));rcases bcase h with ⟨t1,h1⟩ | ⟨t1,h1⟩
 ·refine Xt t1 (Sg (Pp 1 (Er (Tr ?_))));have h1:=Sj h1;subst h1;exact Ql [.bool false] [] 1
 refine Xs t1 (Tn (Sq (Sg (Pp 1 (En ?_)))));obtain ⟨u1,eu1,h2⟩:=bnd h1;have hN1:=ckN_some eu1;obtain ⟨r1,elp1,h3⟩:=bnd h2;refine h_join (X:=Unit × Unit) (fun g=>[]) (fun g=>[]++F) (fun g=>r1=.go g.2) ?_ ?_
 ·refine Wb ?_;refine h_rg (fun (k1:Nat) (st:Unit) (g:Unit)=>[(0,uN e),(1,c),(2,iV d),(3,iV a),(9,iN k1)]) (fun (k1:Nat) (st:Unit) (g:Unit)=>[rS c f]++F) () elp1 (Nat.le_max_left ..) aK (tH [(0,Y)] 1) ?_ ?_
  ·rintro ⟨⟩ ⟨⟩ hr1 j;refine Sq (Sg (Pp 3 (En ?_)));refine h_cf (b:=(decide ((((max 0 (d).toNat):Nat):Int) < d))) rgLF kr ?_;refine We (Te (q_rzX (Be ?_)));exact q_join ((),()) hr1 aK (tH [] 1)
  rintro rem k1 ⟨⟩ ⟨⟩ o1 hk1 h4 hn1 j;have h4:privityref09_Rows_L0 e f a k1=some o1:=h4;unfold privityref09_Rows_L0 at h4;refine Sq (Sg (Pp 3 (En ?_)));refine h_ct (b:=(decide ((k1:Int) < d))) (rgLT hk1) kr ?_;refine Ws (Tn (Sq (Wb (Sg (Pp 2 ?_)))));obtain ⟨x1,ex1,h5⟩:=bnd h4;refine w_ix (k:=.i64) (rd_hd 0 rfl) (nbd ex1) rfl kr ts_70 ti_60 ?_
  refine w_ldR 0 0 rfl ex1 kr ti_60 rfl rfl ?_;rintro v1;refine w_len (rd_hd 0 rfl) kr ts_60 (Pp 3 ?_);rcases bcase h5 with ⟨t2,h6⟩ | ⟨t2,h6⟩
  ·refine Kb 26 t2 (Pp 8 (En ?_));refine h_ct (b:=true) rfl kr ?_;refine Sg (Pp 1 (Er (Br (Tr (q_rgR (Br (q_joinR (Tr ?_))))))));have h6:=Sj h6;subst h6;have hn:=(show _=_ from hn1);subst hn;have h3:=Sj (show some _=some _ from h3);subst h3;exact Ql [.bool false] [] 2
  refine Kb 26 t2 (Pp 3 ?_);refine w_ix (k:=.i64) (rd_hd 1 rfl) (nbd ex1) rfl kr ts_70 ti_60 ?_;refine w_ldR 1 0 rfl ex1 kr ti_60 rfl rfl ?_;rintro v2;obtain ⟨r2,er2,h7⟩:=bnd h6;refine Fe [(0,Y)] (c_privityref05_Below er2) rfl fok_93 ?_;refine Pp 2 (En ?_);rcases bcase h7 with ⟨t3,h8⟩ | ⟨t3,h8⟩
  ·refine Xt t3 (Sg (Pp 1 (Er (Br (Tr (q_rgR (Br (q_joinR (Tr ?_)))))))));have h8:=Sj h8;subst h8;have hn:=(show _=_ from hn1);subst hn;have h3:=Sj (show some _=some _ from h3);subst h3;exact Ql [.bool false] [] 3
  refine Xs t3 (Bn (Tn (Rg (Pp 1 (w_bi (zinc hk1 hN1) kr (Pp 1 (Ei ?_)))))));have h8:=Sj h8;subst h8;exact q_rgo () hn1 aK (tH [(2,Y)] 3)
 rintro ⟨⟨⟩,⟨⟩⟩ hc j;subst hc;refine Tn (Sg (Pp 1 (Er ?_)));have h3:=Sj h3;subst h3;exact Ql [.bool true] [] 0
theorem c_privitylaw19_VSSSumsAreSharings {a:T_privitylaw19_Play} {c d f l:Value} {r:Bool} (h:privitylaw19_VSSSumsAreSharings a=some r):Ct Tryz.prog 10 [.agg #[uN a.W.S.P,iV a.W.S.N,iV a.W.S.T,c,d,f,l]] [rI c a.W.Corrupt,rD d a.W.Deviations,rS f a.W.Tapes,I9 l a.Q,exF] (fun v L=>v=.bool r∧L=[]):=by
 refine ct_intro Tryz.func10 rfl kr (fun F=>?_);unfold privitylaw19_VSSSumsAreSharings at h;refine Sg ?_;refine w_box (t:=32) (v:=.agg #[uN a.W.S.P,iV a.W.S.N,iV a.W.S.T,c,d,f,l]) (cs:=(pP a.W.S [c,d,f,l])) (cv0 kr) kr (fun q1=>?_)
 refine WI.hd (y:=blkP q1 32 (pP a.W.S [c,d,f,l])) kr ?_;refine w_opP 0 rfl (fun b1 hb=>?_);subst hb;refine Pp 1 (Es (Sg ?_));obtain ⟨r1,er1,h1⟩:=bnd h;refine Fe [(5,Y)] (c_privitylaw19_awake er1) rfl fok_11 ?_;refine Pp 1 (En ?_);rcases bcase h1 with ⟨t1,h2⟩ | ⟨t1,h2⟩
 ·refine Xt t1 (Sg (Pp 1 (Er (Tr ?_))));have h2:=Sj h2;subst h2;exact Ql [.bool false] [] 6
 refine Xs t1 (Tn (Sq (Sg (Pp 1 (w_ldB 0 0 rfl kr ti_29 rfl rfl (Pp 1 (w_ldB 0 6 rfl kr ti_30 rfl rfl ?_)))))));obtain ⟨r2,er2,h3⟩:=bnd h2;refine Fe [(1,Y),(2,Y),(3,Y),(4,Y)] (c_privityref19_Fair er2) rfl fok_12 ?_;refine Pp 1 (En ?_);rcases bcase h3 with ⟨t2,h4⟩ | ⟨t2,h4⟩
 ·refine Xt t2 (Sg (Pp 1 (Er (Tr ?_))));have h4:=Sj h4;subst h4;exact Ql [.bool true] [] 6
 refine Xs t2 (Tn (Sg (w_ldB 0 0 rfl kr ti_32 rfl rfl ?_)));obtain ⟨r3,er3,h5⟩:=bnd h4;rcases r3 with r4 | r5
 ·have h6:=sumL h5;refine w_fn [(1,Y),(2,Y),(3,Y),(4,Y),(5,Y)] (c_privitylaw19_run er3) rfl fok_21 kr ?_;rintro _ _ ⟨w4_0,w4_1,hv,rfl⟩;have hv:=hv.symm;subst hv;refine Pp 4 ?_;refine w_al kr ti_45 (fun q2=>?_);refine WI.hd (y:=I36 q2) kr ?_;refine w_opP 0 rfl (fun b2 hb=>?_);subst hb;refine Pp 1 ?_
  refine w_stB (v:=.agg #[w4_0,w4_1]) (off:=0) (cs:=[w4_0,w4_1]) 0 rfl (cv0 kr) kr ti_45 rfl rfl (oC (sl_one (rd_hd 1 rfl)) (oC (sl_one (rd_hd 2 rfl)) oN)) ?_;refine WI.hd (y:=I27 b2 w4_0 w4_1) kr ?_;refine Pp 1 (Es (Sg (Pp 2 (En ?_))));refine h_ct (b:=true) rfl kr ?_;refine Sg (Pp 1 (Er (Tr ?_)));have h6:=Sj h6;subst h6
  exact Ql [.bool false] [] 9
 have h7:=sumR h5;refine w_fn [(1,Y),(2,Y),(3,Y),(4,Y),(5,Y)] (c_privitylaw19_run er3) rfl fok_21 kr ?_;rintro _ _ ⟨w6,w6__0_1,w6__0_2,w6__0_3,w6__2,w6__3,w7_0,w7_1,hv,rfl⟩;have hv:=hv.symm;subst hv;refine w_opP 0 rfl (fun b3 hb=>?_);subst hb;refine Pp 4 ?_;refine w_al kr ti_45 (fun q3=>?_)
 refine WI.hd (y:=I36 q3) kr ?_;refine w_opP 0 rfl (fun b4 hb=>?_);subst hb;refine Pp 1 ?_;refine w_stB (v:=.agg #[w7_0,w7_1]) (off:=0) (cs:=[w7_0,w7_1]) 0 rfl (cv0 kr) kr ti_45 rfl rfl (oC (sl_one (rd_hd 7 rfl)) (oC (sl_one (rd_hd 8 rfl)) oN)) ?_;refine WI.hd (y:=I27 b4 w7_0 w7_1) kr ?_
 refine Pp 1 (Es (Sg (Pp 2 (En ?_))));rcases bcase h7 with ⟨t3,h8⟩ | ⟨t3,h8⟩
 ·refine Xt t3 (Sg (Pp 1 (Er (Tr ?_))));have h8:=Sj h8;subst h8;exact Ql [.bool false] [] 15
 refine Xs t3 (Tn (Sg (Pp 3 (w_ldB 9 0 rfl kr ti_22 rfl rfl (Pp 1 (Eg (Pp 2 (w_ldB 9 0 rfl kr ti_24 rfl rfl (Pp 2 (w_ldB 9 3 rfl kr ti_25 rfl rfl ?_))))))))));obtain ⟨r6,er6,h9⟩:=bnd h8;refine Fx [(10,Y)] (c_privityref12_HonestParties er6) rfl fok_22 (fun w9=>?_);refine Pp 1 (Eg (Pp 2 (w_ldB 10 0 rfl kr ti_24 rfl rfl ?_)));obtain ⟨r7,er7,h10⟩:=bnd h9
 refine Rh ([I54 w9 r6,I27 b4 w7_0 w7_1,I1 b3 r5.1.zw.S w6__0_1 w6__0_2 w6__0_3 r5.1.zround w6__2 w6__3,rI w6__0_1 r5.1.zw.Corrupt,rD w6__0_2 r5.1.zw.Deviations,rS w6__0_3 r5.1.zw.Tapes,I2 w6__2 r5.1.zviews,I0 w6__3 r5.1.ztapes,I5 w7_0 r5.2.1.Rows,I44 w7_1 r5.2.1.Disqualified,I49 b1 a.W.S c d f l,rI c a.W.Corrupt,rD d a.W.Deviations,rS f a.W.Tapes,I9 l a.Q,exF]++F) ?_
 refine Fx [] (c_shamir_Constant er7) rfl fok_39 (fun w10=>?_);refine Pp 1 (Eg (Pp 1 (Es (Sg (Pp 1 (En ?_))))));obtain ⟨u1,eu1,h11⟩:=bnd h10;have hN1:=ckN_some eu1;obtain ⟨r8,elp1,h12⟩:=bnd h11
 refine h_join (X:=Value × ((List (List Nat)) × Nat)) (fun g=>[(1,(bx b1)),(6,uN a.W.S.P),(7,w9),(8,g.1),(9,uN g.2.2)]) (fun g=>[I49 b1 a.W.S c d f l,rI c a.W.Corrupt,rD d a.W.Deviations,rS f a.W.Tapes,I9 l a.Q,I54 w9 r6,I16 g.1 g.2.1,exF]++F) (fun g=>r8=.go g.2) ?_ ?_
 ·refine Wb ?_
  refine h_rg (fun (k1:Nat) (st:(List (List Nat)) × Nat) (g:Value)=>[(1,(bx b1)),(4,(bx b4)),(6,uN a.W.S.P),(7,w9),(8,g),(9,uN st.2),(10,iN k1)]) (fun (k1:Nat) (st:(List (List Nat)) × Nat) (g:Value)=>[I49 b1 a.W.S c d f l,rI c a.W.Corrupt,rD d a.W.Deviations,rS f a.W.Tapes,I9 l a.Q,I27 b4 w7_0 w7_1,I5 w7_0 r5.2.1.Rows,I44 w7_1 r5.2.1.Disqualified,I54 w9 r6,I16 g st.1,exF]++F) w10 elp1 (Nat.le_max_left ..) aK (tH [(11,Z),(11,Y),(12,Y),(13,Y),(14,Y),(2,Z),(8,Y),(9,Y),(1,Z),(0,Z),(12,Y)] 13) ?_ ?_
  ·rintro ⟨l3,x4⟩ g3 hr1 j;refine Sq (Sg (Pp 4 (w_ldB 0 1 rfl kr ti_3 rfl rfl (Pp 1 (En ?_)))));refine h_cf (b:=(decide ((((max 1 (a.W.S.N+1).toNat):Nat):Int)≤a.W.S.N))) rgEF kr ?_;refine We (Te (q_rzX (Be ?_)));exact q_join (g3,(l3,x4)) hr1 aK (tH [(0,Z),(0,Y),(1,Y),(2,Y),(3,Y),(7,Z),(7,Z),(7,Y)] 8)
  rintro rem k1 ⟨l1,x1⟩ g1 o1 hk1 h13 hn1 j;have h13:privitylaw19_VSSSumsAreSharings_L0 a r5 r6 k1 l1 x1=some o1:=h13;unfold privitylaw19_VSSSumsAreSharings_L0 at h13;refine Sq (Sg (Pp 4 (w_ldB 0 1 rfl kr ti_3 rfl rfl (Pp 1 (En ?_)))));refine h_ct (b:=(decide ((k1:Int)≤a.W.S.N))) (rgET hk1) kr ?_
  refine Ws (Tn (Sq (Wb (Sq (Sg (Pp 1 (w_ldB 0 6 rfl kr ti_30 rfl rfl (Pp 1 ?_))))))));obtain ⟨x5,ex5,h14⟩:=bnd h13;refine w_bi (zsubI ex5) kr ?_;obtain ⟨x6,ex6,h15⟩:=bnd h14;refine w_ix (k:=.i64) (rd_hd 4 rfl) (ib ex6) (iz ex6) kr ts_30 ti_27 ?_;refine w_ldR 4 0 rfl (ig ex6) kr ti_27 rfl rfl ?_;rintro v1;refine w_len (rd_hd 0 rfl) kr ts_27 (Pp 1 (En ?_))
  rcases bcase h15 with ⟨t4,h16⟩ | ⟨t4,h16⟩
  ·refine Xt t4 (We (Te (Be (Tn (Rg (Pp 1 (w_bi (zinc hk1 hN1) kr (Pp 1 (Ei ?_)))))))));have h16:=Sj h16;subst h16;exact q_rgo g1 hn1 aK (tH [(1,Z),(1,Y),(2,Y),(3,Y),(4,Y),(5,Z),(5,Y),(6,Y),(7,Z),(7,Z),(7,Y)] 8)
  refine Xs t4 (Tn (Sg (w_ldB 6 0 rfl kr ti_45 rfl rfl (Pp 1 ?_))));obtain ⟨r9,er9,h17⟩:=bnd h16;refine Fx [(7,Y),(8,Y)] (c_vss_SharingOf er9) rfl fok_32 (fun w11=>?_);refine Pp 1 (Eg (Pp 1 (Es (Sg (Pp 1 (En ?_))))));refine WH.ent (ownNil (kd:=K_api_Point) (e:=75)) ?_;refine h_lenle (own_lenle 11 rfl) (fun hN2=>?_);obtain ⟨l5,elp2,h18⟩:=bnd h17
  refine h_join (X:=Value) (fun g=>[(1,(bx b1)),(4,(bx b4)),(6,uN a.W.S.P),(7,w9),(8,g1),(9,uN x1),(10,iN k1),(11,w11),(12,g)]) (fun g=>[I49 b1 a.W.S c d f l,rI c a.W.Corrupt,rD d a.W.Deviations,rS f a.W.Tapes,I9 l a.Q,I27 b4 w7_0 w7_1,I5 w7_0 r5.2.1.Rows,I44 w7_1 r5.2.1.Disqualified,I54 w9 r6,I16 g1 l1,I16 w11 r9,I65 g l5,exF]++F) (fun _=>True) ?_ ?_
  ·refine Wb ?_
   refine h_rs (fun (k2:Nat) (st:(List T_api_Point)) (g:Value)=>[(1,(bx b1)),(4,(bx b4)),(6,uN a.W.S.P),(7,w9),(8,g1),(9,uN x1),(10,iN k1),(11,w11),(12,g),(13,iN k2)]) (fun (k2:Nat) (st:(List T_api_Point)) (g:Value)=>[I49 b1 a.W.S c d f l,rI c a.W.Corrupt,rD d a.W.Deviations,rS f a.W.Tapes,I9 l a.Q,I27 b4 w7_0 w7_1,I5 w7_0 r5.2.1.Rows,I44 w7_1 r5.2.1.Disqualified,I54 w9 r6,I16 g1 l1,I16 w11 r9,I65 g st,exF]++F) (.slice none 0 0) elp2 (Nat.zero_le _) aK (tH [(3,Z),(3,Y),(4,Y),(5,Y),(6,Y),(7,Z),(7,Y),(8,Y),(9,Z),(9,Z),(1,Z),(0,Z),(7,Y)] 8) ?_ ?_
   ·rintro g6 j;refine Sq (Sg (Pp 2 (w_len (own_hd 8 rfl) kr ts_25 (Pp 1 (En (Xf (rgF (N:=r6.length)) (We (Te (q_rzX (Be ?_))))))))));exact q_join g6 trivial aK (tH [(0,Z),(0,Y),(1,Y),(2,Y),(3,Y),(4,Z),(4,Y),(5,Y),(6,Z),(6,Z),(6,Z),(6,Z),(6,Y)] 7)
   rintro rem k2 l4 g4 o2 hk2 h19 hn2 j;have h19:privitylaw19_VSSSumsAreSharings_L1 r6 r9 k2 l4=some o2:=h19;unfold privitylaw19_VSSSumsAreSharings_L1 at h19;refine Sq (Sg (Pp 2 (w_len (own_hd 8 rfl) kr ts_25 (Pp 1 (En (Xt (rgT (k:=k2) (N:=r6.length) hk2) (Ws (Tn (Sq (Wb ?_))))))))));obtain ⟨x8,ex8,h20⟩:=bnd h19;obtain ⟨x9,ex9,h21⟩:=bnd h20;obtain ⟨x10,ex10,h22⟩:=bnd h21
   obtain ⟨x11,ex11,h23⟩:=bnd h22;obtain ⟨x12,ex12,h24⟩:=bnd h23;obtain ⟨l6,el6,h25⟩:=bnd h24
   refine h_fm [0,0,0,6,14,30,0,0,0,384,896,1920,4032,8128,16320,32704,65534,131070,262143,524287] ⟨13,[0,0,0,0,0,0,0,0,0,0,0,0,0,1,0,0,0,1,1,0],[(18,[(0,11)])],[(3,[(0,8)]),(4,[(0,8)]),(9,[(0,8)]),(10,[(0,8)]),(12,[(0,10)]),(13,[(0,10)]),(18,[(18,0)])],[(14,[(14,0)]),(15,[(14,0)])]⟩ (fun γ=>[g4,w9,iN k2,.pointer (some (elV w9 (k2*Ki.size))),iV x8,uN x9,w11,w9,iN k2,.pointer (some (elV w9 (k2*Ki.size))),iV x8,iV x10,.pointer (some (elV w11 (x10.toNat*Ks.size))),(γ 13 0),.pointer (some (elV (γ 13 0) (0*Ku.size))),uN x12,.agg #[uN x9,uN x12],(γ 17 0),(γ 18 0),(γ 18 0)]) (fun i γ=>match i with | 13=>[rU (γ 13 0) x11] | 17=>[I34 (γ 17 0) x9 x12] | 18=>[I65 (γ 18 0) l6] | _=>[]) [0,1,2,6,7,8,19] tryz_mix Tb_ok ?_ ?_
   ·refine ⟨?_,?_,?_,?_,?_,?_,?_,?_,?_,?_,?_,?_,?_,trivial⟩
    ·intro γ F;refine w_ix (k:=.i64) (own_hd 0 rfl) (nbd ex8) rfl kr ts_25 ti_3 ?_;exact wE (gl []) [(0,Z)] 0
    ·intro γ F;refine w_ldO 0 0 rfl ex8 kr ti_3 rfl rfl ?_;rintro _;exact wE (gl []) [(0,Z)] 0
    ·intro γ F;refine w_cv Tb_ok (ecU ex9) kr ?_;exact wE (gl []) [] 0
    ·intro γ F;refine w_ix (k:=.i64) (own_hd 0 rfl) (nbd ex8) rfl kr ts_25 ti_3 ?_;exact wE (gl []) [(0,Z)] 0
    ·intro γ F;refine w_ldO 0 0 rfl ex8 kr ti_3 rfl rfl ?_;rintro _;exact wE (gl []) [(0,Z)] 0
    ·intro γ F;refine w_bi (zsubI ex10) kr ?_;exact wE (gl []) [] 0
    ·intro γ F;refine w_ix (k:=.i64) (own_hd 0 rfl) (ib ex11) (iz ex11) kr ts_70 ti_60 ?_;exact wE (gl []) [(0,Z)] 0
    ·intro γ F;refine w_ldO 0 0 rfl (ig ex11) kr ti_60 rfl rfl ?_;rintro v2;exact wE (gl [v2]) [(0,Y),(1,Z)] 1
    ·intro γ F;refine w_ix (k:=.i64) (rd_hd 0 rfl) (nbd ex12) rfl kr ts_60 ti_22 ?_;exact wE (gl []) [] 1
    ·intro γ F;refine w_ldR 0 0 rfl ex12 kr ti_22 rfl rfl ?_;rintro _;exact wE (gl []) [] 1
    ·intro γ F;refine w_bd (v:=.agg #[uN x9,uN x12]) (t:=75) (ps0:=[(0,uN x9),(1,uN x12)]) (ps:=[(0,uN x9),(1,uN x12)]) (scI (scI sc0)) kr (fun w=>by kernel_rfl) ?_;exact wE (gl []) [] 0
    ·intro γ F;refine w_lt (kd:=K_api_Point) (t:=73) (len:=1) (ps0:=[(0,.agg #[uN x9,uN x12])]) (ps:=[(0,.agg #[uN x9,uN x12])]) ([(⟨x9,x12⟩:T_api_Point)]:List T_api_Point) _ (rowC (x:=(⟨x9,x12⟩:T_api_Point)) (g:=((),())) (itC (itA (it0 rfl) (it0 rfl))) row0) (scI sc0) kr ts_73 ti_75 kr rfl rfl (fun v3=>?_)
     exact wE (gl [v3]) [(0,Z)] 0
    intro γ F;refine w_app 0 rfl (own_src 1 rfl) el6 kr ts_73 ti_75 rfl (fun v4=>?_);exact wE (gl [v4]) [(0,Z),(0,Z)] 0
   intro γ1;refine Bn (Tn (Rg (Pp 1 (w_bi (zinc hk2 hN2) kr (Pp 1 (Ei ?_))))));have h25:=Sj h25;subst h25;exact q_rs (γ1 18 0) hn2 aK (tH [(0,Z),(0,Y),(1,Y),(2,Y),(3,Y),(4,Z),(4,Y),(5,Y),(6,Z),(6,Z),(6,Z),(9,Z),(6,Y)] 9)
  rintro g5 - j;refine Tn (Sg (Pp 4 (w_ldB 0 2 rfl kr ti_3 rfl rfl (Pp 1 ?_))));refine WI.ent (frzAt 11 rfl) ?_;obtain ⟨r11,er11,h26⟩:=bnd h18;refine Fe [(0,Y)] (c_shamir_Reconstruct er11) rfl fok_34 ?_;refine Pp 5 (Es (Sg (Pp 2 (En ?_))));rcases bcase h26 with ⟨t5,h27⟩ | ⟨t5,h27⟩
  ·refine Xt t5 (Sg (Pp 1 (Er (Tr (Br (Tr (q_rgR (Br (q_joinR (Tr ?_))))))))));have h27:=Sj h27;subst h27;have hn:=(show _=_ from hn1);subst hn;have h12:=Sj (show some _=some _ from h12);subst h12;exact Ql [.bool false] [] 13
  refine Xs t5 (Tn (Sg (Pp 3 ?_)));obtain ⟨r12,er12,h28⟩:=bnd h27;refine Fe [] (c_privityref01_Add er12) rfl fok_37 ?_;refine Pp 1 (En (Rg (Pp 3 ?_)));refine WI.ent (frzAt 10 rfl) ?_;refine WI.ent (frzAt 11 rfl) ?_;obtain ⟨r13,er13,h29⟩:=bnd h28;refine Fx [(1,Y),(0,Y)] (c_shamir_Add er13) rfl fok_40 (fun w15=>?_)
  refine Pp 1 (Ei (Bn (Tn (Rg (Pp 1 (w_bi (zinc hk1 hN1) kr (Pp 1 (Ei ?_))))))));have h29:=Sj h29;subst h29;exact q_rgo w15 hn1 aK (tH [(4,Z),(4,Y),(5,Y),(6,Y),(7,Y),(8,Z),(8,Y),(9,Y),(10,Z),(0,Z),(9,Y)] 10)
 rintro ⟨g2,⟨l2,x3⟩⟩ hc j;subst hc;refine Tn (Sq (Sq ?_));obtain ⟨x13,ej1,h30⟩:=bnd h12
 refine h_join (X:=Unit) (fun g=>[(1,(bx b1)),(6,uN a.W.S.P),(7,w9),(8,g2),(9,uN x3),(134,.bool x13)]) (fun g=>[I49 b1 a.W.S c d f l,rI c a.W.Corrupt,rD d a.W.Deviations,rS f a.W.Tapes,I9 l a.Q,I54 w9 r6,rS g2 l2,exF]++F) (fun _=>True) ?_ ?_
 ·refine Rg (Pp 5 (w_ldB 0 1 rfl kr ti_3 rfl rfl (Pp 3 (w_ldB 0 2 rfl kr ti_3 rfl rfl ?_))));obtain ⟨x14,ex14,h31⟩:=bnd ej1;refine w_bi (zaddI ex14) kr ?_;refine WI.ent (frzAt 6 rfl) ?_;obtain ⟨r14,er14,h32⟩:=bnd h31;refine Fe [(0,Y)] (c_privityref09_Rows er14) rfl fok_41 ?_;refine Pp 2 ?_;rcases bcase h32 with ⟨t6,h33⟩ | ⟨t6,h33⟩
  ·refine Kb 128 t6 (Pp 6 (Ei ?_));cases h33;exact q_join () trivial aK (tH [(1,Z),(1,Y),(2,Y),(3,Y),(4,Y),(5,Z),(0,Y),(5,Y)] 6)
  refine Kb 128 t6 (Pp 1 (w_ldB 1 0 rfl kr ti_29 rfl rfl (Pp 1 ?_)));obtain ⟨r15,er15,h34⟩:=bnd h33;refine Fe [(2,Y),(3,Y),(4,Y),(0,Y)] (c_privityref19_Joined er15) rfl fok_33 ?_;refine Pp 2 (Ei ?_);cases h34;exact q_join () trivial aK (tH [(1,Z),(1,Y),(2,Y),(3,Y),(4,Y),(5,Z),(0,Y),(5,Y)] 6)
 rintro ⟨⟩ - j;refine Tn ?_;rcases bcase h30 with ⟨t7,h35⟩ | ⟨t7,h35⟩
 ·refine Xt t7 (Sg (Pp 1 (Er (Tr ?_))));have h35:=Sj h35;subst h35;exact Ql [.bool false] [] 8
 refine Xs t7 (Tn (Sg (Pp 1 (Es (Sg (Pp 1 (En ?_)))))));refine WH.ent (ownNil (kd:=K_api_Point) (e:=75)) ?_;refine h_lenle (own_lenle 6 rfl) (fun hN3=>?_);obtain ⟨l8,elp3,h36⟩:=bnd h35
 refine h_join (X:=Value) (fun g=>[(1,(bx b1)),(6,uN a.W.S.P),(9,uN x3),(16,g)]) (fun g=>[I49 b1 a.W.S c d f l,rI c a.W.Corrupt,rD d a.W.Deviations,rS f a.W.Tapes,I9 l a.Q,I65 g l8,exF]++F) (fun _=>True) ?_ ?_
 ·refine Wb ?_
  refine h_rs (fun (k3:Nat) (st:(List T_api_Point)) (g:Value)=>[(1,(bx b1)),(6,uN a.W.S.P),(7,w9),(8,g2),(9,uN x3),(16,g),(17,iN k3)]) (fun (k3:Nat) (st:(List T_api_Point)) (g:Value)=>[I49 b1 a.W.S c d f l,rI c a.W.Corrupt,rD d a.W.Deviations,rS f a.W.Tapes,I9 l a.Q,I54 w9 r6,rS g2 l2,I65 g st,exF]++F) (.slice none 0 0) elp3 (Nat.zero_le _) aK (tH [(1,Z),(1,Y),(2,Y),(3,Y),(4,Y),(5,Z),(5,Y),(0,Z),(5,Y)] 6) ?_ ?_
  ·rintro g9 j;refine Sq (Sg (Pp 2 (w_len (own_hd 5 rfl) kr ts_25 (Pp 1 (En (Xf (rgF (N:=r6.length)) (We (Te (q_rzX (Be ?_))))))))));exact q_join g9 trivial aK (tH [(0,Z),(0,Y),(1,Y),(2,Y),(3,Y),(6,Z),(6,Y)] 7)
  rintro rem k3 l7 g7 o3 hk3 h37 hn3 j;have h37:privitylaw19_VSSSumsAreSharings_L2 r6 l2 k3 l7=some o3:=h37;unfold privitylaw19_VSSSumsAreSharings_L2 at h37;refine Sq (Sg (Pp 2 (w_len (own_hd 5 rfl) kr ts_25 (Pp 1 (En (Xt (rgT (k:=k3) (N:=r6.length) hk3) (Ws (Tn (Sq (Wb ?_))))))))));obtain ⟨x16,ex16,h38⟩:=bnd h37;obtain ⟨x17,ex17,h39⟩:=bnd h38;obtain ⟨x18,ex18,h40⟩:=bnd h39
  obtain ⟨x19,ex19,h41⟩:=bnd h40;obtain ⟨x20,ex20,h42⟩:=bnd h41;obtain ⟨l9,el9,h43⟩:=bnd h42
  refine h_fm [0,0,0,6,14,30,0,0,0,384,896,1920,4032,8128,16320,32704,65534,131070,262143,524287] ⟨9,[0,0,0,0,0,0,0,0,0,0,0,0,0,1,0,0,0,1,1,0],[(18,[(0,7)])],[(3,[(0,5)]),(4,[(0,5)]),(9,[(0,5)]),(10,[(0,5)]),(18,[(18,0)])],[(12,[(0,6)]),(13,[(0,6)]),(14,[(14,0)]),(15,[(14,0)])]⟩ (fun γ=>[g7,w9,iN k3,.pointer (some (elV w9 (k3*Ki.size))),iV x16,uN x17,g2,w9,iN k3,.pointer (some (elV w9 (k3*Ki.size))),iV x16,iV x18,.pointer (some (elV g2 (x18.toNat*Ks.size))),(γ 13 0),.pointer (some (elV (γ 13 0) (0*Ku.size))),uN x20,.agg #[uN x17,uN x20],(γ 17 0),(γ 18 0),(γ 18 0)]) (fun i γ=>match i with | 13=>[rU (γ 13 0) x19] | 17=>[I34 (γ 17 0) x17 x20] | 18=>[I65 (γ 18 0) l9] | _=>[]) [0,1,2,6,7,8,19] tryz_mix Tb_ok ?_ ?_
  ·refine ⟨?_,?_,?_,?_,?_,?_,?_,?_,?_,?_,?_,?_,?_,trivial⟩
   ·intro γ F;refine w_ix (k:=.i64) (own_hd 0 rfl) (nbd ex16) rfl kr ts_25 ti_3 ?_;exact wE (gl []) [(0,Z)] 0
   ·intro γ F;refine w_ldO 0 0 rfl ex16 kr ti_3 rfl rfl ?_;rintro _;exact wE (gl []) [(0,Z)] 0
   ·intro γ F;refine w_cv Tb_ok (ecU ex17) kr ?_;exact wE (gl []) [] 0
   ·intro γ F;refine w_ix (k:=.i64) (own_hd 0 rfl) (nbd ex16) rfl kr ts_25 ti_3 ?_;exact wE (gl []) [(0,Z)] 0
   ·intro γ F;refine w_ldO 0 0 rfl ex16 kr ti_3 rfl rfl ?_;rintro _;exact wE (gl []) [(0,Z)] 0
   ·intro γ F;refine w_bi (zsubI ex18) kr ?_;exact wE (gl []) [] 0
   ·intro γ F;refine w_ix (k:=.i64) (rd_hd 0 rfl) (ib ex19) (iz ex19) kr ts_70 ti_60 ?_;exact wE (gl []) [] 1
   ·intro γ F;refine w_ldR 0 0 rfl (ig ex19) kr ti_60 rfl rfl ?_;rintro v5;exact wE (gl [v5]) [(0,Y)] 2
   ·intro γ F;refine w_ix (k:=.i64) (rd_hd 0 rfl) (nbd ex20) rfl kr ts_60 ti_22 ?_;exact wE (gl []) [] 1
   ·intro γ F;refine w_ldR 0 0 rfl ex20 kr ti_22 rfl rfl ?_;rintro _;exact wE (gl []) [] 1
   ·intro γ F;refine w_bd (v:=.agg #[uN x17,uN x20]) (t:=75) (ps0:=[(0,uN x17),(1,uN x20)]) (ps:=[(0,uN x17),(1,uN x20)]) (scI (scI sc0)) kr (fun w=>by kernel_rfl) ?_;exact wE (gl []) [] 0
   ·intro γ F;refine w_lt (kd:=K_api_Point) (t:=73) (len:=1) (ps0:=[(0,.agg #[uN x17,uN x20])]) (ps:=[(0,.agg #[uN x17,uN x20])]) ([(⟨x17,x20⟩:T_api_Point)]:List T_api_Point) _ (rowC (x:=(⟨x17,x20⟩:T_api_Point)) (g:=((),())) (itC (itA (it0 rfl) (it0 rfl))) row0) (scI sc0) kr ts_73 ti_75 kr rfl rfl (fun v6=>?_)
    exact wE (gl [v6]) [(0,Z)] 0
   intro γ F;refine w_app 0 rfl (own_src 1 rfl) el9 kr ts_73 ti_75 rfl (fun v7=>?_);exact wE (gl [v7]) [(0,Z),(0,Z)] 0
  intro γ2;refine Bn (Tn (Rg (Pp 1 (w_bi (zinc hk3 hN3) kr (Pp 1 (Ei ?_))))));have h43:=Sj h43;subst h43;exact q_rs (γ2 18 0) hn3 aK (tH [(0,Z),(0,Y),(1,Y),(2,Y),(3,Y),(4,Z),(4,Y),(8,Z),(5,Y)] 8)
 rintro g8 - j;refine Tn (Sg (Pp 4 (w_ldB 0 2 rfl kr ti_3 rfl rfl (Pp 1 ?_))));refine WI.ent (frzAt 5 rfl) ?_;obtain ⟨r17,er17,h44⟩:=bnd h36;refine Fe [(0,Y)] (c_shamir_Reconstruct er17) rfl fok_34 ?_;refine Pp 5 (Eg (Pp 3 ?_));rcases bcase h44 with ⟨t8,h45⟩ | ⟨t8,h45⟩
 ·refine Kb 172 t8 (Pp 5 (Er ?_));have h45:=Sj h45;subst h45;exact Ql [.bool ((r17.1:Int) == (x3:Int))] [] 7
 refine Kb 172 t8 (Pp 5 (Er ?_));have h45:=Sj h45;subst h45;exact Ql [.bool false] [] 7
end Go.Proofs.YtahofpgjianhdaaGreatDoor
