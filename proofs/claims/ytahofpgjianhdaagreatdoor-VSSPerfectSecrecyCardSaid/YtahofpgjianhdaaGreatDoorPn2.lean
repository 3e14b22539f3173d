/- Plain laws of chapter 19: what the corrupt parties see does not tell two matrices of an honest dealer apart. -/
import Derived.Test.YtahofpgjianhdaaGreatDoorPn1
set_option linter.unusedVariables false
namespace Pu
open Gw Gl Sp
theorem vls_sq {p n t:Nat} [NeZero p] (hp:Sup p) {m:Nat→Nat} {R:List (List (List (List Nat)))} (r:Rr p n t m R) (ht:t≤2) (hn:n≤13) (hnp:n < p):Sq p n 26 ((List.range n).map fun i=>(List.range n).map fun j=>vls p n m (R.getD i []) (j+1)):=⟨by simp,fun i hi=>by rw [map_getD hi];simp,fun i hi j hj=>by
  rw [map_getD hi,map_getD hj]
  have:=vls_len (n:=n) (p:=p) (Ri:=R.getD i []) (x:=j+1) r.m2
  exact ⟨vls_lt hp r ht hi (by omega),by omega⟩⟩
theorem cnt_congr {f g:Nat→Bool}:∀ {a:Nat},(∀ i,i < a→f i=g i)→cnt f a=cnt g a
  | 0,_=>rfl
  | a+1,h=>by rw [cnt_succ,cnt_succ,cnt_congr (fun i hi=>h i (by omega)),h a (by omega)]
theorem tld_congr {l:List Nat} {f g:Nat→Bool} {t m a:Nat} (h:∀ i,i≤a→f i=g i):tld l f t m a=tld l g t m a:=by
  unfold tld
  rw [h a (Nat.le_refl a),cnt_congr (fun i hi=>h i (by omega))]
theorem views_alike {w:T_api_Scenario} [NeZero w.S.P] {n t:Nat} (s:Sc w n t) (hn:n≤7) (ht:t≤2) {q1 q2:List (List (List Nat))} {T2:List (List Nat)} {v1 v2:List (List T_api_Event)} {u:Nat} (hu:u < n) (huh:¬ Cr w u) (hm:∀ d,(q2.getD d []).length=(q1.getD d []).length)
    (hS:∀ d,d < n→d≠u→Sm q1 w.Tapes t d=Sm q2 T2 t d) (hR:∀ k,k < (q1.getD u []).length→∀ c,c < n→Cr w c→Rw w.S.P ((Sm q1 w.Tapes t u).getD k []) (c+1)=Rw w.S.P ((Sm q2 T2 t u).getD k []) (c+1))
    (sy1:∀ k,k < (q1.getD u []).length→∀ x y,x < w.S.P→y < w.S.P→pev w.S.P (Rw w.S.P ((Sm q1 w.Tapes t u).getD k []) x) y=pev w.S.P (Rw w.S.P ((Sm q1 w.Tapes t u).getD k []) y) x)
    (sy2:∀ k,k < (q1.getD u []).length→∀ x y,x < w.S.P→y < w.S.P→pev w.S.P (Rw w.S.P ((Sm q2 T2 t u).getD k []) x) y=pev w.S.P (Rw w.S.P ((Sm q2 T2 t u).getD k []) y) x)
    (t1:Trace w n t q1 v1) (t2:Trace ⟨w.S,w.Corrupt,w.Deviations,T2⟩ n t q2 v2):∀ j,j < n→Cr w j→v1.getD j []=v2.getD j []:=by
  have hp:=s.sup
  have hlt:=hp.lt
  have h13:=s.n13
  obtain ⟨S1,R1,F1,w1,A0,A1,o0,h2,fl,ans,told,acc,obj,h3,h4,h5,h6,b1,b2,hSm,hSs,hRr,hRw,hac,X,Y⟩:=t1
  obtain ⟨S1',R1',F1',w1',A0',A1',o0',h2',fl',ans',told',acc',obj',h3',h4',h5',h6',b1',b2',hSm',hSs',hRr',hRw',hac',X',Y'⟩:=t2
  have hmf:(fun d=>(q2.getD d []).length)=(fun d=>(q1.getD d []).length):=funext hm
  rw [hmf] at X' hRr'
  simp only at hSm' hRw'
  have hHu:Hn w u:=.inl huh
  have hsl:∀ d,d < n→(S1.getD d []).length=(q1.getD d []).length∧(S1'.getD d []).length=(q1.getD d []).length:=fun d hd=>⟨by rw [hSm d hd,Sm_len],by rw [hSm' d hd,Sm_len,hm d]⟩
  have hSd:∀ d,d < n→d≠u→S1.getD d []=S1'.getD d []:=fun d hd hdu=>by rw [hSm d hd,hSm' d hd,hS d hd hdu]
  have hsent:∀ j,j < n→Cr w j→sent w.S.P (S1.getD u []) (j+1)=sent w.S.P (S1'.getD u []) (j+1):=fun j hj hc=>by
    unfold sent
    rw [(hsl u hu).1,(hsl u hu).2]
    congr 1
    refine List.map_congr_left fun k hk=>?_
    rw [hSm u hu,hSm' u hu]
    exact hR k (by simpa using hk) j hj hc
  -- the first round
  have ho:∀ i,i < n→∀ j,j < n→Cr w i ∨ Cr w j→(o0.getD i []).getD j []=(o0'.getD i []).getD j []:=fun i hi j hj hc=>by
    rw [X.eo0 i hi j hj,X'.eo0 i hi j hj]
    by_cases g:i=u
    · subst g
      exact hsent j hj (hc.resolve_left huh)
    · rw [hSd i hi g]
  obtain ⟨hA0,hA0h⟩:=applyM_rel s X.q0 X'.q0 (by omega) ho X.a0 X'.a0
  have hRR:∀ i,i < n→∀ d,d < n→(Cr w i ∨ d≠u)→(R1.getD i []).getD d []=(R1'.getD i []).getD d []:=fun i hi d hd hc=>by
    rw [X.r i hi,X'.r i hi,map_getD hd,map_getD hd]
    have:(A0.getD d []).getD i []=(A0'.getD d []).getD i []:=by
      by_cases g:Cr w d ∨ Cr w i
      · exact hA0 d hd i hi g
      · have gd:¬ Cr w d:=fun h=>g (.inl h)
        have gi:¬ Cr w i:=fun h=>g (.inr h)
        obtain ⟨e1,e2⟩:=hA0h d hd gd
        rw [e1,e2,X.eo0 d hd i hi,X'.eo0 d hd i hi,hSd d hd (hc.resolve_left gi)]
    rw [this]
  have hval:∀ i,i < n→∀ j,j < n→∀ d,d < n→∀ k,k < (q1.getD d []).length→(Cr w i ∨ Cr w j ∨ d≠u)→pev w.S.P (((R1.getD i []).getD d []).getD k []) (j+1)=pev w.S.P (((R1'.getD i []).getD d []).getD k []) (j+1):=fun i hi j hj d hd k hk hc=>by
    by_cases g:Cr w i ∨ d≠u
    · rw [hRR i hi d hd g]
    · have gd:d=u:=Classical.byContradiction fun h=>g (.inr h)
      have gi:¬ Cr w i:=fun h=>g (.inl h)
      subst gd
      have cj:Cr w j:=(hc.resolve_left gi).resolve_right (fun h=>h rfl)
      rw [hRw d hd hHu i hi k hk,hRw' d hd hHu i hi k (by rw [hm];exact hk),sy1 k hk _ _ (by omega) (by omega),hR k hk j hj cj,sy2 k hk _ _ (by omega) (by omega)]
  have hown:∀ i,i < n→∀ j,j < n→∀ k,k < (q1.getD u []).length→pev w.S.P (((R1.getD i []).getD u []).getD k []) (j+1)=pev w.S.P (((R1.getD j []).getD u []).getD k []) (i+1):=fun i hi j hj k hk=>by
    rw [hRw u hu hHu i hi k hk,hRw u hu hHu j hj k hk];exact sy1 k hk _ _ (by omega) (by omega)
  have hown':∀ i,i < n→∀ j,j < n→∀ k,k < (q1.getD u []).length→pev w.S.P (((R1'.getD i []).getD u []).getD k []) (j+1)=pev w.S.P (((R1'.getD j []).getD u []).getD k []) (i+1):=fun i hi j hj k hk=>by
    rw [hRw' u hu hHu i hi k (by rw [hm];exact hk),hRw' u hu hHu j hj k (by rw [hm];exact hk)];exact sy2 k hk _ _ (by omega) (by omega)
  -- the second round
  obtain ⟨hA1,hA1h⟩:=applyM_rel s (vls_sq hp hRr ht h13 (by omega)) (vls_sq hp hRr' ht h13 (by omega)) (by omega) (fun i hi j hj hc=>by
    rw [map_getD hi,map_getD hj,map_getD hi,map_getD hj]
    unfold vls
    congr 1
    refine List.map_congr_left fun d hd=>List.map_congr_left fun k hk=>?_
    refine hval i hi j hj d (by simpa using hd) k (by simpa using hk) ?_
    rcases hc with h | h
    · exact .inl h
    · exact .inr (.inl h)) X.a1 X'.a1
  -- the flags
  have hviol:∀ i,i < n→∀ j,j < n→¬ Cr w i→¬ Cr w j→∀ d,d < n→∀ q,q < (q1.getD d []).length →
      ((A1.getD j []).getD i []).getD ((vls w.S.P d (fun d=>(q1.getD d []).length) (R1.getD i []) (j+1)).length+q) 0=pev w.S.P (((R1.getD j []).getD d []).getD q []) (i+1)∧((A1'.getD j []).getD i []).getD ((vls w.S.P d (fun d=>(q1.getD d []).length) (R1'.getD i []) (j+1)).length+q) 0=pev w.S.P (((R1'.getD j []).getD d []).getD q []) (i+1):=fun i hi j hj ci cj d hd q hq=>by
    obtain ⟨e1,e2⟩:=hA1h j hj cj
    rw [e1,e2,map_getD hj,map_getD hi,map_getD hj,map_getD hi,vls_off (A:=R1.getD i []) (B:=R1.getD j []) (x:=j+1) (y:=i+1),vls_off (A:=R1'.getD i []) (B:=R1'.getD j []) (x:=j+1) (y:=i+1)]
    exact ⟨vls_get hd hq,vls_get hd hq⟩
  have hfl:∀ i,i < n→fl i=fl' i:=fun i hi=>by
    obtain ⟨a1,a2,a3⟩:=X.efl i hi
    obtain ⟨c1,c2,c3⟩:=X'.efl i hi
    refine List.ext_getElem? fun a=>?_
    by_cases g:a < n*n
    · have hj:a % n < n:=Nat.mod_lt _ (by omega)
      have hd:a / n < n:=Nat.div_lt_of_lt_mul g
      have ea:a / n*n+a % n=a:=Nat.div_add_mod' a n
      have h1:=a3 (a % n) hj (a / n) hd
      have h2:=c3 (a % n) hj (a / n) hd
      rw [ea] at h1 h2
      have l1:=a2 a (by omega)
      have l2:=c2 a (by omega)
      have hiff:(fl i).getD a 0≠0 ↔ (fl' i).getD a 0≠0:=by
        rw [h1,h2]
        refine and_congr_right fun _=>exists_congr fun q=>and_congr_right fun hq=>not_congr ?_
        by_cases c:Cr w i ∨ Cr w (a % n)
        · rw [hA1 (a % n) hj i hi c.symm,hval i hi (a % n) hj (a / n) hd q hq (by rcases c with h | h;exact .inl h;exact .inr (.inl h)),vls_off (A:=R1.getD i []) (B:=R1'.getD i []) (x:=a % n+1) (y:=a % n+1)]
        · have ci:¬ Cr w i:=fun h=>c (.inl h)
          have cj:¬ Cr w (a % n):=fun h=>c (.inr h)
          obtain ⟨e1,e2⟩:=hviol i hi (a % n) hj ci cj (a / n) hd q hq
          rw [e1,e2]
          by_cases gd:a / n=u
          · rw [gd] at hq ⊢
            exact ⟨fun _=>hown' (a % n) hj i hi q hq,fun _=>hown (a % n) hj i hi q hq⟩
          · rw [hRR i hi _ hd (.inr gd),hRR (a % n) hj _ hd (.inr gd)]
      rw [ix 0 (by omega),ix 0 (by omega)]
      congr 1
      by_cases z:(fl i).getD a 0=0
      · have:¬ (fl' i).getD a 0≠0:=fun h=>(hiff.2 h) z
        omega
      · have:=hiff.1 z
        omega
    · rw [List.getElem?_eq_none (by omega),List.getElem?_eq_none (by omega)]
  have hh2:h2=h2':=by
    have e1:=X.a2
    have e2:adversary_ApplyToBroadcasts w 2 ((List.range n).map fl')=some h2':=X'.a2
    rw [List.map_congr_left (g:=fl') (fun i hi=>hfl i (by simpa using hi)),e2] at e1
    exact (Option.some.inj e1).symm
  subst hh2
  have hF:F1'=F1:=by rw [X.f,X'.f]
  subst hF
  have hpair:∀ e0,e0 < n→∀ e1,e1 < n→((F1'.getD e0 []).getD u []).getD e1 0≠0→Cr w e0 ∨ Cr w e1:=fun e0 h0 e1 h1 hne=>by
    apply Classical.byContradiction
    intro hc
    have c0:¬ Cr w e0:=fun h=>hc (.inl h)
    have c1:¬ Cr w e1:=fun h=>hc (.inr h)
    rw [X.f,map_getD h0,got_in hu h1,X.eh2 e0 h0 (.inl c0)] at hne
    obtain ⟨_,q,hq,hv⟩:=((X.efl e0 h0).2.2 e1 h1 u hu).1 hne
    rw [(hviol e0 h0 e1 h1 c0 c1 u hu q hq).1] at hv
    exact hv (hown e1 h1 e0 h0 q hq)
  have hdis:∀ d q,q < (dis F1' n d n).length→∃ e0 e1,e0 < n∧e1 < n∧((F1'.getD e0 []).getD d []).getD e1 0≠0∧(dis F1' n d n).getD q ⟨0,0⟩=⟨((e0:Nat):Int),((e1:Nat):Int)⟩:=fun d q hq=>dis_mem (getD_in (d:=(⟨0,0⟩:T_arr2_3)) hq)
  -- the answers
  have hsay1:∀ d,d < n→say1 w.S.P (S1.getD d []) (dis F1' n d n)=say1 w.S.P (S1'.getD d []) (dis F1' n d n):=fun d hd=>by
    by_cases g:d=u
    · subst g
      unfold say1
      rw [(hsl d hd).1,(hsl d hd).2]
      congr 1
      refine List.map_congr_left fun q hq=>List.map_congr_left fun k hk=>?_
      have hq:q < (dis F1' n d n).length:=by simpa using hq
      have hk:k < (q1.getD d []).length:=by simpa using hk
      obtain ⟨e0,e1,h0,h1,hne,hx⟩:=hdis d q hq
      rw [hx,hSm d hd,hSm' d hd]
      unfold evM
      simp only [Int.toNat_natCast]
      rcases hpair e0 h0 e1 h1 hne with c | c
      · rw [hR k hk e0 h0 c]
      · rw [sy1 k hk _ _ (by omega) (by omega),hR k hk e1 h1 c,sy2 k hk _ _ (by omega) (by omega)]
    · rw [hSd d hd g]
  have hh3:h3=h3':=by
    have e1:=Y.a3
    have e2:adversary_ApplyToBroadcasts w 3 ((List.range n).map fun d=>say1 w.S.P (S1'.getD d []) (dis F1' n d n))=some h3':=Y'.a3
    simp only at e1
    rw [List.map_congr_left (g:=fun d=>say1 w.S.P (S1'.getD d []) (dis F1' n d n)) (fun d hd=>hsay1 d (by simpa using hd)),e2] at e1
    exact (Option.some.inj e1).symm
  subst hh3
  have hans:∀ d,d < n→ans.getD d []=ans'.getD d []:=fun d hd=>by
    rw [Y.eans d hd,Y'.eans d hd]
    simp only
    rw [(hsl d hd).1,(hsl d hd).2]
  -- the accusations
  have hb1:∀ i,i < n→∀ d,d < n→b1 i d=b1' i d:=fun i hi d hd=>by
    rw [Bool.eq_iff_iff,Y.eb1 i hi d hd,Y'.eb1 i hi d hd]
    unfold Wr
    simp only
    rw [(hsl d hd).1,(hsl d hd).2,hans d hd]
    refine exists_congr fun q=>and_congr_right fun hq=>exists_congr fun r=>and_congr_right fun hr=>exists_congr fun k=>and_congr_right fun hk=>?_
    obtain ⟨e0,e1,h0,h1,hne,hx⟩:=hdis d q hq
    rw [hx] at hr ⊢
    have hy:∃ y,y < n∧(oth ⟨((e0:Nat):Int),((e1:Nat):Int)⟩ i).getD r 0=((y:Nat):Int)∧(Cr w i ∨ Cr w y ∨ d≠u):=by
      rcases oth_in hr with ⟨g1,g2⟩ | ⟨g1,g2⟩
      · refine ⟨e1,h1,g1,?_⟩
        by_cases g:d=u
        · subst g
          have:e0=i:=by simp only at g2;omega
          rw [← this]
          rcases hpair e0 h0 e1 h1 hne with c | c
          · exact .inl c
          · exact .inr (.inl c)
        · exact .inr (.inr g)
      · refine ⟨e0,h0,g1,?_⟩
        by_cases g:d=u
        · subst g
          have:e1=i:=by simp only at g2;omega
          rw [← this]
          rcases hpair e0 h0 e1 h1 hne with c | c
          · exact .inr (.inl c)
          · exact .inl c
        · exact .inr (.inr g)
    obtain ⟨y,hyn,ey,hyc⟩:=hy
    rw [ey,Int.toNat_natCast,hval i hi y hyn d hd k hk hyc]
  have hvote:∀ {c c':Nat→Nat→Bool} {h h':List (List Nat)} {r:Int},(∀ i,i < n→∀ d,d < n→c i d=c' i d)→adversary_ApplyToBroadcasts w r ((List.range n).map fun i=>(List.range n).map fun d=>if c i d then 1 else 0)=some h→adversary_ApplyToBroadcasts w r ((List.range n).map fun i=>(List.range n).map fun d=>if c' i d then 1 else 0)=some h'→h=h':=fun {c c' h h' r} hc e1 e2=>by
    rw [List.map_congr_left (g:=fun i=>(List.range n).map fun d=>if c' i d then 1 else 0) (fun i hi=>List.map_congr_left fun d hd=>by rw [hc i (by simpa using hi) d (by simpa using hd)]),e2] at e1
    exact (Option.some.inj e1).symm
  have hh4:h4=h4':=hvote hb1 Y.a4 Y'.a4
  subst hh4
  have hacc:∀ d,d < n→∀ i,i < n→ac acc d i=ac acc' d i:=fun d hd i hi=>by rw [Y.eacc d hd i hi,Y'.eacc d hd i hi]
  -- the public rows
  have hcor:∀ a,a < n→ac acc u a=true→Cr w a:=fun a ha h=>Classical.byContradiction fun hc=>by
    rw [hac u hu hHu a ha (.inl hc)] at h;cases h
  have hsay2:∀ d,d < n→say2 w.S.P n (S1.getD d []) (ac acc d)=say2 w.S.P n (S1'.getD d []) (ac acc' d):=fun d hd=>by
    unfold say2
    congr 1
    refine List.map_congr_left fun i hi=>?_
    have hi:i < n:=by simpa using hi
    rw [← hacc d hd i hi]
    cases hb:ac acc d i
    · rfl
    · rw [if_pos rfl,if_pos rfl]
      by_cases g:d=u
      · subst g
        exact hsent i hi (hcor i hi hb)
      · rw [hSd d hd g]
  have hh5:h5=h5':=by
    have e1:=Y.a5
    have e2:adversary_ApplyToBroadcasts w (3+1+1) ((List.range n).map fun d=>say2 w.S.P n (S1'.getD d []) (ac acc' d))=some h5':=Y'.a5
    simp only at e1
    rw [List.map_congr_left (g:=fun d=>say2 w.S.P n (S1'.getD d []) (ac acc' d)) (fun d hd=>hsay2 d (by simpa using hd)),e2] at e1
    exact (Option.some.inj e1).symm
  subst hh5
  have htold:∀ d,d < n→∀ a,a < n→(told.getD d []).getD a []=(told'.getD d []).getD a []:=fun d hd a ha=>by
    rw [Y.etold d hd a ha,Y'.etold d hd a ha]
    simp only
    rw [(hsl d hd).1,(hsl d hd).2]
    exact tld_congr fun i hi=>hacc d hd i (by omega)
  -- the objections
  have hb2:∀ i,i < n→∀ d,d < n→b2 i d=b2' i d:=fun i hi d hd=>by
    rw [Bool.eq_iff_iff,Y.eb2 i hi d hd,Y'.eb2 i hi d hd]
    unfold Ob
    simp only
    rw [hacc d hd i hi]
    refine and_congr_right fun _=>exists_congr fun a=>and_congr_right fun ha=>?_
    rw [htold d hd a ha]
    refine exists_congr fun k=>and_congr_right fun hk=>?_
    have hka:ac acc d a=true∧k < (q1.getD d []).length:=by
      rw [← htold d hd a ha,Y.etold d hd a ha] at hk
      simp only at hk
      unfold tld at hk
      cases hb:ac acc d a
      · rw [hb] at hk;simp at hk
      · rw [hb,if_pos rfl,got_len,(hsl d hd).1] at hk;exact ⟨rfl,hk⟩
    rw [hval i hi a ha d hd k hka.2 (by
      by_cases g:d=u
      · subst g;exact .inr (.inl (hcor a ha hka.1))
      · exact .inr (.inr g))]
  have hh6:h6=h6':=hvote hb2 Y.a6 Y'.a6
  subst hh6
  intro j hj hc
  rw [Y.v j hj,Y'.v j hj,X.v j hj,X'.v j hj,evs_rel (A1:=A0) (A2:=A0') (fun i hi=>hA0 i hi j hj (.inr hc)),evs_rel (A1:=A1) (A2:=A1') (fun i hi=>hA1 i hi j hj (.inr hc))]
end Pu
