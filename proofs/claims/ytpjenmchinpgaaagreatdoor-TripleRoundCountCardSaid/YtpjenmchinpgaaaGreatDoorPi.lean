/- Plain laws of chapter 19: the network with tapes, broadcasts. -/
import Derived.Test.YtpjenmchinpgaaaGreatDoorPb
import Derived.KernelRfl
set_option linter.unusedVariables false
namespace Pu
open Gw Gl Sp
/-- a loop that appends -/
theorem fA{α:Type}{body:Nat→List α→Option (List α)}(v:Nat→α):∀{n:Nat},(∀j l,j<n→l.length=j→body j l=some (l++[v j]))→cZ body n 0 []=some ((List.range n).map v):=λ{n} h=>by
 obtain⟨r,e,h2⟩:=bm (body:=body) (λk l=>l=(List.range k).map v) (rem:=n) (k:=0) (s:=[]) rfl (λj l _ hj hl=>by
  subst hl
  exact⟨_,h j _ (by omega) (by simp),by rw[List.range_succ,List.map_append];rfl⟩)
 rw[e,h2,Nat.zero_add]
/-- the program's network stands -/
theorem GM{w:ae}{n t:Nat}(v:Va w n t):k9 w=some (.inr ⟨w,0,List.replicate n [],w.ay.map λl=>⟨l,0⟩⟩):=by
 have h13:=v.n13
 unfold k9 lg
 have e1:br w.aa w=some false:=by
  unfold br bW
  rw[Nat.sub_zero]
  obtain⟨o,e,ho⟩:=im (body:=λk1 (st:Unit)=>bQ w.aa w k1) (λ_ _=>True) (λ_=>False) (rem:=w.aa.length) (k:=0) (s:=()) trivial (λk _ _ hk _=>by
   unfold bQ kf
   have hkd:k<w.aa.length:=by omega
   have hx:w.aa.getD k default∈w.aa:=by rw[List.getD_eq_getElem?_getD,List.getElem?_eq_getElem hkd];exact List.getElem_mem hkd
   have d:=v.dv _ hx
   have f:=v.full _ hx
   have hN:=v.N
   rw[ix default hkd,bS,MB (s:=w.S) (x:=w.aa.getD k default) ⟨f.1,d.2.2.1,d.2.2.2.1,d.1,by rw[hN];exact d.2.1,f.2.1,by rw[hN];exact f.2.2.1,f.2.2.2.1,f.2.2.2.2,d.2.2.2.2.1,by rw[hN];exact d.2.2.2.2.2.1,d.2.2.2.2.2.2.1⟩,bS,bS,nT,cF]
   exact⟨_,rfl,trivial⟩)
  rw[e,bS]
  cases o with
  | fin r=>exact ho.elim
  | go _=>rw[oG,bS,dF (by omega)]
 have e2:bK w.ay w=some false:=by
  unfold bK cH
  rw[Nat.sub_zero]
  obtain⟨o,e,ho⟩:=im (body:=λk1 (st:Unit)=>cx w.ay w k1) (λ_ _=>True) (λ_=>False) (rem:=w.ay.length) (k:=0) (s:=()) trivial (λk _ _ hk _=>by
   unfold cx kg
   have hkd:k<w.ay.length:=by omega
   rw[ix [] hkd,bS]
   have hb:=v.tb k (by have:=v.tl;omega)
   generalize w.ay.getD k []=l at hb
   have e3:bL l w=some false:=by
    unfold bL cI
    rw[Nat.sub_zero]
    obtain⟨o,e,ho⟩:=im (body:=λk1 (st:Unit)=>cy l w k1) (λ_ _=>True) (λ_=>False) (rem:=l.length) (k:=0) (s:=()) trivial (λj _ _ hj _=>by
     unfold cy jp
     have:=hb j (by omega)
     rw[ix 0 (by omega),bS,bS,dF (by omega),cF]
     exact⟨_,rfl,trivial⟩)
    rw[e,bS]
    cases o with
    | fin r=>exact ho.elim
    | go _=>rw[oG,bS,dF (by omega)]
   rw[e3,bS,bS,cF]
   exact⟨_,rfl,trivial⟩)
  rw[e,bS]
  cases o with
  | fin r=>exact ho.elim
  | go _=>rw[oG,bS,dF (by omega)]
 rw[J6 v.par v.cl v.cr v.ord,bS,nT,cF,qF (by rw[v.tl,v.N]),cF,e1,bS,cF,e2,bS,bS,nF,nT,cF,v.N,ci (by omega) (by omega) (by omega) (by omega),bS,Int.toNat_natCast,v.tl,Nat.sub_zero]
 rw[fA (λj=>(⟨w.ay.getD j [],0⟩:aL)) (λj l hj hl=>by
  unfold tt yK
  rw[ix [] (by have:=v.tl;omega),bS,bS,aM (by simp only[List.length_cons,List.length_nil];omega) (by simp only[List.length_cons,List.length_nil];omega),bS];rfl),bS]
 have:(List.range n).map (λj=>(⟨w.ay.getD j [],0⟩:aL))=w.ay.map λl=>⟨l,0⟩:=by
  refine List.ext_getElem (by simp[v.tl]) λi h1 h2=>?_
  have hi:i<w.ay.length:=by simpa using h2
  simp[List.getD_eq_getElem?_getD,hi]
 rw[this];rfl
/-- a broadcast list for each party -/
structure Bl(p n L:Nat)(m:List (List Nat)):Prop where
 len:m.length=n
 w:∀i,i<n→Lt p (m.getD i [])∧(m.getD i []).length≤L
theorem Eh{w:ae}{n t L:Nat}(s:Sc w n t){out:List (List Nat)}{round:Int}(ho:Bl w.S.P n L out)(hL:L≤1000) :
    ∃ all,bk w round out=some all∧Bl w.S.P n L all∧(∀ i,i < n→(((i:Nat):Int)+1) ∉ w.af→all.getD i []=out.getD i [])∧(w.aa=[]→all=out):=by
  have h13:=s.n13
  unfold bk
  rw [rb (by rw [ho.len];omega),bS,Nat.sub_zero]
  obtain ⟨all,e,k1,k2⟩:=bm (body:=fun k1 (st:(List (List Nat)))=>fT w round out k1 st) (rem:=w.aa.length) (k:=0) (s:=out)
    (fun _ all=>Bl w.S.P n L all∧∀ i,i < n→(((i:Nat):Int)+1) ∉ w.af→all.getD i []=out.getD i []) ⟨ho,fun _ _ _=>rfl⟩ (fun k all _ hk ⟨k1,k2⟩=>by
      have hkd:k < w.aa.length:=by omega
      unfold fT
      rw [ix default hkd,bS]
      have hx:w.aa.getD k default ∈ w.aa:=by
        rw [List.getD_eq_getElem?_getD,List.getElem?_eq_getElem hkd];exact List.getElem_mem hkd
      generalize w.aa.getD k default=x at hx
      obtain ⟨d1,d2,d3,d4,d5,d6,d7,d8⟩:=s.dv x hx
      unfold kT
      by_cases g:x.Round=round∧x.From ∈ w.af
      · rw [eT g.1,cT,oq,bS,bS,dT g.2,nT,cF]
        have hf:x.From.toNat - 1 < n:=by omega
        have hfe:(x.From - 1).toNat=x.From.toNat - 1:=by omega
        obtain ⟨said,es,hs1,hs2⟩:∃ said,(bif x.Kind == (3:Int) then
            jB x.Of (1:Int) >>= fun x3=>gY out x3 >>= fun x4=>some x4
          else some ([]:List Nat))=some said∧Lt w.S.P said∧said.length≤1000:=by
          by_cases k3:x.Kind=3
          · have h7:=d7 k3
            have hoe:(x.Of - 1).toNat < n:=by omega
            rw [eT k3,cT,cb (by omega) (by omega),bS,aS [] (by omega) (by rw [ho.len];omega),bS]
            have:=ho.w _ hoe
            exact ⟨_,rfl,this.1,by omega⟩
          · rw [eF k3,cF];exact ⟨_,rfl,fun i hi=>by simp at hi,by simp⟩
        obtain ⟨hw1,hw2⟩:=k1.w _ hf
        obtain ⟨r,er,r1,r2⟩:=D6 s hx hw1 (by omega) hs1 hs2
        rw [es,bS,cb (by omega) (by omega),bS,aS [] (by omega) (by rw [k1.len];omega),bS,hfe,er,bS,bS]
        refine ⟨_,rfl,⟨by rw [List.length_set];exact k1.len,fun i hi=>?_⟩,fun i hi hc=>?_⟩
        · rw [aN (by rw [k1.len];exact hf)]
          split
          · exact ⟨r1,by omega⟩
          · exact k1.w i hi
        · rw [aN (by rw [k1.len]; exact hf), if_neg (fun e => hc (by rw [← e]; have : ((x.From.toNat - 1 : Nat) : Int) + 1 = x.From := by omega
                                                                     rw [this];exact g.2))]
          exact k2 i hi hc
      · have:(bif x.Round == round then dh w.af x.From >>= fun r1=>some r1 else some false)=some false:=by
          by_cases g1:x.Round=round
          · rw [eT g1,cT,oq,bS,dF (fun h=>g ⟨g1,h⟩)]
          · rw [eF g1,cF]
        rw [this,bS,nF,cT]
        exact ⟨_,rfl,k1,k2⟩)
  rw [e,bS]
  refine ⟨all,rfl,k1,k2,fun hd=>?_⟩
  rw [hd] at e
  exact (Option.some.inj e).symm
/-- what party j notes of a broadcast -/
def y6(round:Int)(all:List (List Nat))(j k:Nat):List am :=
 ((List.range k).filter λi=>decide (i≠j∧0<(all.getD i []).length)).map λi=>⟨round,((i:Nat):Int)+1,all.getD i []⟩
theorem z9{round:Int}{all:List (List Nat)}{j k:Nat}:(y6 round all j k).length≤k:=by
 unfold y6;rw[List.length_map];exact Nat.le_trans (List.length_filter_le ..) (by simp)
theorem FV{round:Int}{all:List (List Nat)}{j k:Nat}:y6 round all j (k+1)=y6 round all j k++if k≠j∧0<(all.getD k []).length then[⟨round,((k:Nat):Int)+1,all.getD k []⟩] else[]:=by
 unfold y6
 rw[List.range_succ,List.filter_append,List.map_append]
 congr 1
 by_cases g:k≠j∧0<(all.getD k []).length
 ·rw[if_pos g];simp only[List.filter_cons,decide_eq_true g,List.filter_nil];simp
 ·rw[if_neg g];simp only[List.filter_cons,decide_eq_false g,List.filter_nil];simp
/-- a broadcast -/
theorem Ba{net:ai}{n t L:Nat}(s:Sc net.zw n t){out:List (List Nat)}(ho:Bl net.zw.S.P n L out)(hL:L≤1000)(hv:net.av.length=n)(hb:∀j,j<n→(net.av.getD j []).length≤500)(hr:0≤net.ah∧net.ah≤1000) :
  ∃all views,cu net out=some (all,net.ah+1,views)∧bk net.zw net.ah out=some all∧Bl net.zw.S.P n L all∧(∀i,i<n→(((i:Nat):Int)+1)∉net.zw.af→all.getD i []=out.getD i [])∧(net.zw.aa=[]→all=out) ∧
   views.length=n∧∀j,j<n→views.getD j []=net.av.getD j []++y6 net.ah all j n:=by
 have h13:=s.n13
 obtain⟨all,ea,q1,q2,q3⟩:=Eh (round:=net.ah) s ho hL
 unfold cu
 rw[ea,bS,s.N,ci (by omega) (by omega) (by omega) (by omega),bS,Int.toNat_natCast,List.length_replicate,Nat.sub_zero]
 obtain⟨⟨views,inn⟩,e,h1,h2,h3,h4,_⟩:=bm (body:=λk1 (st:(List (List am))×(List (List Nat)))=>fb net all k1 st.1 st.2) (rem:=n) (k:=0) (s:=(net.av,List.replicate n []))
  (λk st=>st.1.length=n∧st.2.length=n∧(∀j,j<n→st.1.getD j []=net.av.getD j []++y6 net.ah all j k)∧(∀j,j<k→st.2.getD j []=all.getD j [])∧True)
  ⟨hv,by simp,λj hj=>by simp[y6],λj hj=>by omega,trivial⟩ (λk st _ hk ⟨h1,h2,h3,h4,_⟩=>by
   have hkn:k<n:=by omega
   obtain⟨w1,w2⟩:=q1.w k hkn
   obtain⟨v0,i0⟩:=st
   simp only at h1 h2 h3 h4
   unfold fb
   rw[ix [] (by rw[q1.len];exact hkn),bS,aM (by simp only[List.length_nil];omega) (by simp only[List.length_nil];omega),bS,List.nil_append,ix [] (by omega),bS,bS,List.length_set,h2,Nat.sub_zero]
   obtain⟨v',e',g1,g2,g3⟩:=bm (body:=λk2 (st:(List (List am)))=>jn net k (i0.set k (all.getD k [])) k2 st) (rem:=n) (k:=0) (s:=v0)
    (λj q=>q.length=n∧(∀i,i<n→i<j→q.getD i []=net.av.getD i []++y6 net.ah all i (k+1))∧∀i,i<n→j≤i→q.getD i []=v0.getD i []) ⟨h1,λi _ hi=>by omega,λ_ _ _=>rfl⟩ (λj q _ hj ⟨g1,g2,g3⟩=>by
     have hjn:j<n:=by omega
     have hel:=z9 (round:=net.ah) (all:=all) (j:=j) (k:=k)
     have hbj:=hb j hjn
     have hq1:(q.getD j []).length≤600:=by rw[g3 j hjn (Nat.le_refl j),h3 j hjn,List.length_append];omega
     unfold jn
     rw[ix [] (by rw[List.length_set];omega),bS,aN (by omega),if_pos rfl,DO (net:=⟨net.zw,net.ah,q,net.ak⟩) (by show j<q.length;omega) (by omega) (by show(q.getD j []).length≤1000;omega) (by omega),bS]
     refine⟨_,rfl,?_,λi hi hij=>?_,λi hi hij=>?_⟩
     ·show(if _ then q.set j _ else q).length=n
      split
      ·rw[List.length_set];exact g1
      ·exact g1
     ·show(if _ then q.set j _ else q).getD i []=_
      by_cases c:i=j
      ·subst c
       rw[FV]
       split
       ·rw[aN (by omega),if_pos rfl,g3 i hi (Nat.le_refl i),h3 i hi,List.append_assoc]
       ·rw[List.append_nil,g3 i hi (Nat.le_refl i),h3 i hi]
      ·split
       ·rw[aN (by omega),if_neg (λe=>c e.symm)];exact g2 i hi (by omega)
       ·exact g2 i hi (by omega)
     ·show(if _ then q.set j _ else q).getD i []=_
      split
      ·rw[aN (by omega),if_neg (by omega)];exact g3 i hi (by omega)
      ·exact g3 i hi (by omega))
   rw[Nat.zero_add] at g2
   rw[e',bS]
   refine⟨_,rfl,g1,by show(i0.set k _).length=n;rw[List.length_set];exact h2,λj hj=>g2 j hj hj,λj hj=>?_,trivial⟩
   show(i0.set k _).getD j []=_
   rw[aN (by omega)]
   by_cases c:k=j
   ·rw[if_pos c,c]
   ·rw[if_neg c];exact h4 j (by omega))
 rw[Nat.zero_add] at h3 h4
 simp only at h1 h2 h3 h4
 rw[e,bS]
 simp only
 rw[bi (by omega) (by omega),bS]
 have hin:inn=all:=by
  apply List.ext_getElem?
  intro i
  by_cases g:i<n
  ·rw[ix [] (by omega),ix [] (by rw[q1.len];omega),h4 i g]
  ·rw[List.getElem?_eq_none (by omega),List.getElem?_eq_none (by rw[q1.len];omega)]
 exact⟨all,views,by rw[hin],rfl,q1,q2,q3,h1,h3⟩
end Pu

/- Plain laws of chapter 19: matrices and their rows. -/
set_option linter.unusedVariables false
namespace Pu
open Gw Gl Sp
theorem P7(a b c:Nat):lY [a,b] [c]=some ([[a,b],[b,c]],0):=by kernel_rfl
theorem P8(a b c d e f:Nat):lY [a,b,c] [d,e,f]=some ([[a,b,c],[b,d,e],[c,e,f]],0):=by kernel_rfl
theorem Hu(a b c:Nat):jN [a,b] [c]=some ([[a,b],[b,c]],0):=by kernel_rfl
theorem Hv(a b c d e f:Nat):jN [a,b,c] [d,e,f]=some ([[a,b,c],[b,d,e],[c,e,f]],0):=by kernel_rfl
section
variable {p:Nat}[NeZero p]
theorem Iq(hp:fQ p){m:Nat}{M:List (List Nat)}{x:Nat}(hM:qR p m m M)(hm:m≤10)(hx:x<p) :
  ∃r,gp p M x=some r∧r.length=m∧Lt p r∧∀j,j<m→o p (r.getD j 0)=sm m (λk=>o p ((M.getD k []).getD j 0)*o p x ^ k):=by
 have hlt:=hp.lt
 unfold gp
 rw[hM.len,ci (by omega) (by omega) (by omega) (by omega),bS,Int.toNat_natCast,Nat.sub_zero]
 obtain⟨⟨r,y⟩,e,h1,h2,h3,h4,h5⟩:=bm (body:=λk1 (st:(List Nat)×Nat)=>jI p M x k1 st.1 st.2) (rem:=m) (k:=0) (s:=(List.replicate m 0,1))
  (λk st=>st.1.length=m∧st.2<p∧o p st.2=o p x ^ k∧(∀j,j<m→st.1.getD j 0<p)∧∀j,j<m→o p (st.1.getD j 0)=sm k (λk=>o p ((M.getD k []).getD j 0)*o p x ^ k))
  ⟨by simp,by show 1<p;omega,by show o p 1=_;rw[uR];grind,λj hj=>by simp[List.getD_eq_getElem?_getD,hj];exact hp.pos,λj hj=>by simp only[sm];rw[List.getD_eq_getElem?_getD,List.getElem?_replicate,if_pos hj];exact lf⟩ (λk st _ hk ⟨h1,h2,h3,h4,h5⟩=>by
   have hkm:k<m:=by omega
   obtain⟨l,y⟩:=st
   simp only at h1 h2 h3 h4 h5
   unfold jI
   rw[hM.some hkm,bS,hM.row k hkm,Nat.sub_zero]
   obtain⟨q,eq,q1,q2,q3⟩:=bm (body:=λk2 (st:(List Nat))=>nK p y (M.getD k []) k2 st) (rem:=m) (k:=0) (s:=l)
    (λj q=>q.length=m∧(∀i,i<m→q.getD i 0<p)∧∀i,i<m→o p (q.getD i 0)=if i<j then o p (l.getD i 0)+o p ((M.getD k []).getD i 0)*o p y else o p (l.getD i 0)) ⟨h1,h4,λi hi=>by rw[if_neg (by omega)]⟩ (λj q _ hj ⟨q1,q2,q3⟩=>by
     have hjm:j<m:=by omega
     have hM2:=hM.lt k hkm j hjm
     have hm1:=Nat.mod_lt ((M.getD k []).getD j 0*y) hp.pos
     have hqj:=q2 j hjm
     unfold nK
     rw[rd hM hkm hjm,bS,ix 0 (by omega),bS,jm hp hM2 h2,bS,wm hp (by omega),bS,bS]
     refine⟨_,rfl,by rw[List.length_set];exact q1,λi hi=>?_,λi hi=>?_⟩
     ·rw[aN (by omega)]
      split
      ·exact Nat.mod_lt _ hp.pos
      ·exact q2 i hi
     ·rw[aN (by omega)]
      by_cases c:j=i
      ·subst c
       rw[if_pos rfl,if_pos (by omega),lc,ze,lc,nC,q3 j hjm,if_neg (by omega)]
      ·rw[if_neg c,q3 i hi]
       by_cases c2:i<j
       ·rw[if_pos c2,if_pos (by omega)]
       ·rw[if_neg c2,if_neg (by omega)])
   rw[Nat.zero_add] at q3
   rw[eq,bS,jm hp h2 hx,bS]
   refine⟨_,rfl,q1,Nat.mod_lt _ hp.pos,by show o p (y*x % p)=_;rw[lc,nC,h3];grind,q2,λj hj=>?_⟩
   show o p (q.getD j 0)=_
   rw[q3 j hj,if_pos hj,h5 j hj,h3];rfl)
 rw[Nat.zero_add] at h5
 rw[e,bS]
 exact⟨r,rfl,h1,λi hi=>h4 i (by simp only at h1;omega),h5⟩
theorem BW(hp:fQ p){f:List Nat}{x:Nat}(hf:Lt p f)(hl:f.length≤10)(hx:x<p):∃y,mA p f x=some y∧y<p∧o p y=sm f.length (λk=>o p (f.getD k 0)*o p x ^ k):=by
 have hlt:=hp.lt
 unfold mA
 rw[cb (by omega) (by omega),bS]
 obtain⟨y,e,h1,h2⟩:=kK (step:=λ(st:Nat×Int)=>iO p f x st.1 st.2) (λst=>∃k:Nat,st.2=(k:Int)-1∧k≤f.length∧st.1<p∧o p st.1*o p x ^ k+sm k (λk=>o p (f.getD k 0)*o p x ^ k)=sm f.length (λk=>o p (f.getD k 0)*o p x ^ k))
  (λy=>y<p∧o p y=sm f.length (λk=>o p (f.getD k 0)*o p x ^ k)) (λst=>(st.2+1).toNat) (λst ⟨k,h1,h2,h3,h4⟩=>by
   obtain⟨a,z⟩:=st
   replace h1:z=(k:Int)-1:=h1
   replace h3:a<p:=h3
   replace h4:o p a*o p x ^ k+sm k (λk=>o p (f.getD k 0)*o p x ^ k)=sm f.length (λk=>o p (f.getD k 0)*o p x ^ k):=h4
   show ∃q,iO p f x a z=some q∧_
   unfold iO
   cases k with
   | zero =>
    rw[dF (by omega),cF]
    refine⟨_,rfl,h3,?_⟩
    simp only[sm] at h4
    rw[←h4];grind
   | succ k =>
    have hz:z=(k:Int):=by omega
    subst hz
    have hk:=hf k (by omega)
    have hm:=Nat.mod_lt (a*x) hp.pos
    rw[dT (by omega),cT,zx hp h3 (by omega),bS,aS 0 (by omega) (by omega),bS,Int.toNat_natCast,EW hp (by omega),bS,cb (by omega) (by omega),bS]
    refine⟨_,rfl,⟨k,rfl,by omega,Nat.mod_lt _ hp.pos,?_⟩,by show((k:Int)-1+1).toNat<((k:Int)+1).toNat;omega⟩
    show o p ((a*x % p+f.getD k 0) % p)*o p x ^ k+_=_
    rw[lc,ze,lc,nC,←h4]
    simp only[sm]
    grind)
  (s:=(0,((f.length:Nat):Int)-1)) ⟨f.length,rfl,Nat.le_refl _,hp.pos,by show o p 0*_+_=_;rw[lf];grind⟩ (by show(((f.length:Nat):Int)-1+1).toNat<_;omega)
 rw[e,bS]
 exact⟨y,rfl,h1,h2⟩
theorem EX(hp:fQ p){m:Nat}{M:List (List Nat)}{x:Nat}(hM:qR p m m M)(hm:m≤10)(hx:x<p) :
  ∃r,lH p M x=some r∧r.length=m∧Lt p r∧∀j,j<m→o p (r.getD j 0)=sm m (λk=>o p ((M.getD k []).getD j 0)*o p x ^ k):=by
 have key:∀j,j<m→∃y,(∀l,l.length=j→jD p M x j l=some (l++[y]))∧y<p∧o p y=sm m (λk=>o p ((M.getD k []).getD j 0)*o p x ^ k):=λj hj=>by
  have e1:cZ (λk2 (st:(List Nat))=>lN M j k2 st) m 0 ([]:List Nat)=some ((List.range m).map λk=>(M.getD k []).getD j 0):=fA (λk=>(M.getD k []).getD j 0) (λk l hk hl=>by
   unfold lN
   rw[hM.some hk,bS,rd hM hk hj,bS,aM (by simp only[List.length_cons,List.length_nil];omega) (by simp only[List.length_cons,List.length_nil];omega),bS])
  have hg:∀k,k<m→((List.range m).map λk=>(M.getD k []).getD j 0).getD k 0=(M.getD k []).getD j 0:=λk hk=>by simp[List.getD_eq_getElem?_getD,hk]
  obtain⟨y,ey,y1,y2⟩:=BW hp (f:=(List.range m).map λk=>(M.getD k []).getD j 0) (x:=x) (λk hk=>by
   have hk:k<m:=by simpa using hk
   rw[hg k hk];exact hM.lt k hk j hj) (by simp;omega) hx
  refine⟨y,λl hl=>?_,y1,?_⟩
  ·unfold jD
   rw[hM.len,Nat.sub_zero,e1,bS,ey,bS,aM (by simp only[List.length_cons,List.length_nil];omega) (by simp only[List.length_cons,List.length_nil];omega),bS]
  ·rw[y2,List.length_map,List.length_range]
   exact bY λk hk=>by rw[hg k hk]
 unfold lH
 rw[hM.len,Nat.sub_zero]
 obtain⟨r,e,h1,h2,h3⟩:=bm (body:=λk1 (st:(List Nat))=>jD p M x k1 st) (rem:=m) (k:=0) (s:=([]:List Nat))
  (λk r=>r.length=k∧(∀j,j<k→r.getD j 0<p)∧∀j,j<k→o p (r.getD j 0)=sm m (λk=>o p ((M.getD k []).getD j 0)*o p x ^ k)) ⟨rfl,λj hj=>by omega,λj hj=>by omega⟩ (λk r _ hk ⟨h1,h2,h3⟩=>by
   obtain⟨y,ey,y1,y2⟩:=key k (by omega)
   refine⟨_,ey r h1,by simp[h1],λj hj=>?_,λj hj=>?_⟩
   ·by_cases g:j<k
    ·rw[cA (by omega)];exact h2 j g
    ·have:j=k:=by omega
     subst this
     rw[df h1.symm];exact y1
   ·by_cases g:j<k
    ·rw[cA (by omega)];exact h3 j g
    ·have:j=k:=by omega
     subst this
     rw[df h1.symm];exact y2)
 rw[Nat.zero_add] at h1 h2 h3
 rw[e,bS]
 exact⟨r,rfl,h1,λi hi=>h2 i (by omega),h3⟩
/-- the program's rows are the reference's -/
theorem KA(hp:fQ p){m:Nat}{M:List (List Nat)}{x:Nat}(hM:qR p m m M)(hm:m≤10)(hx:x<p):∃r,gp p M x=some r∧lH p M x=some r∧r.length=m∧Lt p r∧∀j,j<m→o p (r.getD j 0)=sm m (λk=>o p ((M.getD k []).getD j 0)*o p x ^ k):=by
 obtain⟨r,e,h1,h2,h3⟩:=Iq hp hM hm hx
 obtain⟨r',e',g1,g2,g3⟩:=EX hp hM hm hx
 have:r'=r:=by
  apply List.ext_getElem?
  intro i
  by_cases g:i<m
  ·rw[ix 0 (by omega),ix 0 (by omega),pZ (g2 i (by omega)) (h2 i (by omega)) (by rw[g3 i g,h3 i g])]
  ·rw[List.getElem?_eq_none (by omega),List.getElem?_eq_none (by omega)]
 exact⟨r,e,by rw[e',this],h1,h2,h3⟩
end
end Pu

/- Plain laws of chapter 19: the dealers choose their matrices. -/
set_option linter.unusedVariables false
namespace Pu
open Gw Gl Sp
/-- the matrix of a first row and further words -/
def mx(f r:List Nat):List (List Nat):=((jN f r).getD ([],0)).1
theorem Li{p t:Nat}{f r:List Nat}(ht:t=1∨t=2)(hf:f.length=t+1)(hr:r.length=t*(t+1) / 2)(hp:Lt p f)(hq:Lt p r) :
  lY f r=some (mx f r,0)∧jN f r=some (mx f r,0)∧qR p (t+1) (t+1) (mx f r)∧∀i,i<t+1→∀j,j<t+1→((mx f r).getD i []).getD j 0=((mx f r).getD j []).getD i 0:=by
 rcases ht with rfl | rfl
 ·match f,hf with
  | [a,b],_=>match r,hr with
   | [c],_ =>
    have e:mx [a,b] [c]=[[a,b],[b,c]]:=by unfold mx;rw[Hu];rfl
    have ha:=hp 0 (by simp);have hb:=hp 1 (by simp);have hc:=hq 0 (by simp)
    replace ha:a<p:=ha;replace hb:b<p:=hb;replace hc:c<p:=hc
    rw[e]
    refine⟨P7 a b c,Hu a b c,⟨rfl,λi hi=>?_,λi hi j hj=>?_⟩,λi hi j hj=>?_⟩
    ·have:i=0∨i=1:=by omega
     rcases this with rfl | rfl <;> rfl
    ·have h1:i=0∨i=1:=by omega
     have h2:j=0∨j=1:=by omega
     rcases h1 with rfl | rfl <;> rcases h2 with rfl | rfl <;> assumption
    ·have h1:i=0∨i=1:=by omega
     have h2:j=0∨j=1:=by omega
     rcases h1 with rfl | rfl <;> rcases h2 with rfl | rfl <;> rfl
 ·match f,hf with
  | [a,b,c],_=>match r,hr with
   | [d,e,g],_ =>
    have e1:mx [a,b,c] [d,e,g]=[[a,b,c],[b,d,e],[c,e,g]]:=by unfold mx;rw[Hv];rfl
    have ha:=hp 0 (by simp);have hb:=hp 1 (by simp);have hc:=hp 2 (by simp);have hd:=hq 0 (by simp);have he:=hq 1 (by simp);have hg:=hq 2 (by simp)
    replace ha:a<p:=ha;replace hb:b<p:=hb;replace hc:c<p:=hc;replace hd:d<p:=hd;replace he:e<p:=he;replace hg:g<p:=hg
    rw[e1]
    refine⟨P8 a b c d e g,Hv a b c d e g,⟨rfl,λi hi=>?_,λi hi j hj=>?_⟩,λi hi j hj=>?_⟩
    ·have:i=0∨i=1∨i=2:=by omega
     rcases this with rfl | rfl | rfl <;> rfl
    ·have h1:i=0∨i=1∨i=2:=by omega
     have h2:j=0∨j=1∨j=2:=by omega
     rcases h1 with rfl | rfl | rfl <;> rcases h2 with rfl | rfl | rfl <;> assumption
    ·have h1:i=0∨i=1∨i=2:=by omega
     have h2:j=0∨j=1∨j=2:=by omega
     rcases h1 with rfl | rfl | rfl <;> rcases h2 with rfl | rfl | rfl <;> rfl
/-- the words for polynomial k -/
def A4(l:List Nat)(t k:Nat):List Nat:=(l.drop (k*(t*(t+1) / 2))).take (t*(t+1) / 2)
theorem AG{l:List Nat}{t k m:Nat}(h:m*(t*(t+1) / 2)≤l.length)(hk:k<m):(A4 l t k).length=t*(t+1) / 2:=by
 unfold A4
 have:(k+1)*(t*(t+1) / 2)≤m*(t*(t+1) / 2):=Nat.mul_le_mul_right _ hk
 rw[Nat.add_mul,Nat.one_mul] at this
 rw[List.length_take,List.length_drop];omega
theorem Hy{p:Nat}{l:List Nat}{t k:Nat}(h:Lt p l):Lt p (A4 l t k):=λi hi=>by
 unfold A4 at *
 rw[List.length_take,List.length_drop] at hi
 rw[List.getD_eq_getElem?_getD,List.getElem?_take,if_pos (by omega),List.getElem?_drop,←List.getD_eq_getElem?_getD]
 exact h _ (by omega)
/-- what the dealers are given -/
structure Qs(p n t:Nat)(q:List (List (List Nat)))(tapes:List (List Nat)):Prop where
 len:q.length=n
 tl:tapes.length=n
 many:∀d,d<n→(q.getD d []).length≤10∧(q.getD d []).length*(t*(t+1) / 2)≤(tapes.getD d []).length
 ts:∀d,d<n→(tapes.getD d []).length≤1000∧Lt p (tapes.getD d [])
 w:∀d,d<n→∀k,k<(q.getD d []).length→((q.getD d []).getD k []).length=t+1∧Lt p ((q.getD d []).getD k [])
/-- the matrices of dealer d -/
def Sm(q:List (List (List Nat)))(tapes:List (List Nat))(t d:Nat):List (List (List Nat)):=(List.range (q.getD d []).length).map λk=>mx ((q.getD d []).getD k []) (A4 (tapes.getD d []) t k)
theorem zS{q:List (List (List Nat))}{tapes:List (List Nat)}{t d k:Nat}(hk:k<(q.getD d []).length):(Sm q tapes t d).getD k []=mx ((q.getD d []).getD k []) (A4 (tapes.getD d []) t k):=by
 unfold Sm
 rw[List.getD_eq_getElem?_getD,List.getElem?_map,List.getElem?_range hk];rfl
theorem D1{l:List Nat}{a m:Nat}(h:a+m≤l.length)(hl:l.length≤1000):lj ⟨l,((a:Nat):Int)⟩ ((m:Nat):Int)=some ((l.drop a).take m,0,((a+m:Nat):Int)):=by
 unfold lj jG
 simp only
 have e:((a:Nat):Int)+((m:Nat):Int)=((a+m:Nat):Int):=by omega
 rw[dF (by omega),cF,cb (by omega) (by omega),bS,bS,dF (by omega),bS,cF,bi (by omega) (by omega),bS,e,eG (by omega) (by omega) (by omega),bS]
 congr 2
 simp only[Int.toNat_natCast]
 rw[Nat.add_sub_cancel_left]
theorem J3{t:Nat}(ht:t=1∨t=2):jX ((t:Nat):Int) (((t:Nat):Int)+1)=some ((t*(t+1):Nat):Int)∧xz ((t*(t+1):Nat):Int) (2:Int)=some ((t*(t+1) / 2:Nat):Int):=by
 rcases ht with rfl | rfl <;> exact⟨rfl,rfl⟩
/-- where the tapes stand -/
structure Ci(n:Nat)(T:List aL)(tp:Nat→List Nat)(ps:Nat→Nat):Prop where
 len:T.length=n
 at_:∀i,i<n→T.getD i ⟨[],0⟩=⟨tp i,((ps i:Nat):Int)⟩
 le:∀i,i<n→ps i≤(tp i).length∧(tp i).length≤1000
/-- what is left of the tapes -/
def rem(n:Nat)(tp:Nat→List Nat)(ps:Nat→Nat):List (List Nat):=(List.range n).map λi=>(tp i).drop (ps i)
theorem vU{n i:Nat}{tp:Nat→List Nat}{ps:Nat→Nat}(h:i<n):(rem n tp ps).getD i []=(tp i).drop (ps i):=by
 unfold rem
 rw[List.getD_eq_getElem?_getD,List.getElem?_map,List.getElem?_range h];rfl
/-- one dealer's matrices -/
theorem Cp{p:Nat}{ph:ao}{n t i:Nat}(ht:t=1∨t=2)(hn:n≤13)(hT:ph.zs.T=(t:Int)){tp:Nat→List Nat}{ps:Nat→Nat}(Q:Qs p n t ph.zq (rem n tp ps))(hi:i<n)(h1:ph.zn.ak.length=n)(h2:ph.zn.ak.getD i ⟨[],0⟩=⟨tp i,((ps i:Nat):Int)⟩)(hle:ps i≤(tp i).length∧(tp i).length≤1000)(h3:ph.zd.S.length=n)(h4:ph.zd.S.getD i []=[]) :
  ∃T S,io ((i:Nat):Int) ph=some (T,⟨S,ph.zd.Rows,ph.zd.aO⟩)∧T.length=n∧(∀j,j≠i→T.getD j ⟨[],0⟩=ph.zn.ak.getD j ⟨[],0⟩)∧T.getD i ⟨[],0⟩=⟨tp i,((ps i+(ph.zq.getD i []).length*(t*(t+1) / 2):Nat):Int)⟩∧S.length=n∧S.getD i []=Sm ph.zq (rem n tp ps) t i∧∀j,j≠i→S.getD j []=ph.zd.S.getD j []:=by
 obtain⟨m1,m2⟩:=Q.many i hi
 obtain⟨t1,t2⟩:=Q.ts i hi
 have hrg:=vU (tp:=tp) (ps:=ps) hi
 unfold io
 rw[aS [] (by omega) (by rw[Q.len];omega),bS,Int.toNat_natCast,Nat.sub_zero]
 obtain⟨⟨T,S⟩,e,a1,a2,a3,a4,a5,a6⟩:=bm (body:=λk1 (st:(List aL)×(List (List (List (List Nat)))))=>eK ((i:Nat):Int) ph (ph.zq.getD i []) k1 st.1 st.2) (rem:=(ph.zq.getD i []).length) (k:=0) (s:=(ph.zn.ak,ph.zd.S))
  (λk st=>st.1.length=n∧st.1.getD i ⟨[],0⟩=⟨tp i,((ps i+k*(t*(t+1) / 2):Nat):Int)⟩∧(∀j,j≠i→st.1.getD j ⟨[],0⟩=ph.zn.ak.getD j ⟨[],0⟩)∧st.2.length=n∧st.2.getD i []=(Sm ph.zq (rem n tp ps) t i).take k∧∀j,j≠i→st.2.getD j []=ph.zd.S.getD j [])
  ⟨h1,by rw[h2,Nat.zero_mul];rfl,λ_ _=>rfl,h3,by rw[h4];rfl,λ_ _=>rfl⟩ (λk st _ hk ⟨a1,a2,a3,a4,a5,a6⟩=>by
   obtain⟨T,S⟩:=st
   simp only at a1 a2 a3 a4 a5 a6
   have hkm:k<(ph.zq.getD i []).length:=by omega
   obtain⟨w1,w2⟩:=Q.w i hi k hkm
   have hr:=AG (t:=t) m2 hkm
   have hle2:(k+1)*(t*(t+1) / 2)≤(ph.zq.getD i []).length*(t*(t+1) / 2):=Nat.mul_le_mul_right _ hkm
   rw[Nat.add_mul,Nat.one_mul] at hle2
   obtain⟨e1,_,_,_⟩:=Li (p:=p) ht w1 hr w2 (Hy t2)
   obtain⟨e2,e3⟩:=J3 ht
   have ei:((i:Nat):Int)+1-1=(i:Int):=by omega
   have eT:fW ⟨ph.zn.zw,ph.zn.ah,ph.zn.av,T⟩ (((i:Nat):Int)+1)=some i:=by
    unfold fW
    rw[cb (by omega) (by omega),bS,ei]
    simp only
    rw[aS (⟨[],0⟩:aL) (by omega) (by omega),bS,Int.toNat_natCast]
   have hSm:(Sm ph.zq (rem n tp ps) t i).length=(ph.zq.getD i []).length:=by unfold Sm;simp
   have hSl:(S.getD i []).length=k:=by rw[a5,List.length_take];omega
   have hSk:(Sm ph.zq (rem n tp ps) t i).getD k []=mx ((ph.zq.getD i []).getD k []) (A4 ((rem n tp ps).getD i []) t k):=zS hkm
   have ht2:t≤2:=by omega
   rw[hrg,List.length_drop] at m2
   have et:=D1 (l:=tp i) (a:=ps i+k*(t*(t+1) / 2)) (m:=t*(t+1) / 2) (by omega) (by omega)
   unfold eK
   rw[ix [] hkm,bS,bi (by omega) (by omega),bS,eT,bS,hT,bi (by omega) (by omega),bS,e2,bS,e3,bS,ix (⟨[],0⟩:aL) (by omega),bS,a2,et,bS,bS]
   simp only
   have er:((tp i).drop (ps i+k*(t*(t+1) / 2))).take (t*(t+1) / 2)=A4 ((rem n tp ps).getD i []) t k:=by
    unfold A4;rw[hrg,List.drop_drop]
   rw[er,e1,bS,aS [] (by omega) (by omega),bS,Int.toNat_natCast]
   simp only
   rw[aM (by rw[hSl];simp only[List.length_cons,List.length_nil];omega) (by rw[hSl];simp only[List.length_cons,List.length_nil];omega),bS,bS]
   refine⟨_,rfl,by show(T.set i _).length=n;rw[List.length_set];exact a1,?_,λj hj=>?_,by show(S.set i _).length=n;rw[List.length_set];exact a4,?_,λj hj=>?_⟩
   ·show(T.set i _).getD i _=_
    rw[aN (by omega),if_pos rfl,Nat.add_mul,Nat.one_mul,Nat.add_assoc]
   ·show(T.set i _).getD j _=_
    rw[aN (by omega),if_neg (λe=>hj e.symm)];exact a3 j hj
   ·show(S.set i _).getD i _=_
    rw[aN (by omega),if_pos rfl,a5,List.take_add_one,ix [] (by omega),hSk];rfl
   ·show(S.set i _).getD j _=_
    rw[aN (by omega),if_neg (λe=>hj e.symm)];exact a6 j hj)
 rw[Nat.zero_add] at a5 a2
 simp only at a1 a2 a3 a4 a5 a6
 rw[e,bS]
 exact⟨T,S,rfl,a1,a3,a2,a4,by rw[a5,List.take_of_length_le (by unfold Sm;simp)],a6⟩
/-- all dealers' matrices -/
theorem Ek{p:Nat}{ph:ao}{n t:Nat}(ht:t=1∨t=2)(hn:n≤13)(hN:ph.zs.N=(n:Int))(hT:ph.zs.T=(t:Int)){tp:Nat→List Nat}{ps:Nat→Nat}(Q:Qs p n t ph.zq (rem n tp ps))(hts:Ci n ph.zn.ak tp ps)(h3:ph.zd.S=List.replicate n []) :
  ∃T S,ji ph=some (T,⟨S,ph.zd.Rows,ph.zd.aO⟩)∧Ci n T tp (λi=>ps i+(ph.zq.getD i []).length*(t*(t+1) / 2))∧S.length=n∧∀i,i<n→S.getD i []=Sm ph.zq (rem n tp ps) t i:=by
 have hmx:max 0 ph.zs.N.toNat=n:=by rw[hN];simp
 unfold ji dC
 rw[hmx,bJ (by omega),bS,Nat.sub_zero]
 obtain⟨⟨T,S,R,F⟩,e,a1,a2,a8,a3,a4,a5,a6,a7⟩:=bm (body:=λk1 (st:(List aL)×(List (List (List (List Nat))))×(List (List (List (List Nat))))×(List (List (List Nat))))=>bT ph k1 st.1 st.2.1 st.2.2.1 st.2.2.2) (rem:=n) (k:=0) (s:=(ph.zn.ak,ph.zd.S,ph.zd.Rows,ph.zd.aO))
  (λk st=>st.1.length=n∧(∀j,k≤j→j<n→st.1.getD j ⟨[],0⟩=⟨tp j,((ps j:Nat):Int)⟩)∧(∀j,j<k→st.1.getD j ⟨[],0⟩=⟨tp j,((ps j+(ph.zq.getD j []).length*(t*(t+1) / 2):Nat):Int)⟩)∧st.2.1.length=n∧(∀j,j<k→st.2.1.getD j []=Sm ph.zq (rem n tp ps) t j)∧(∀j,k≤j→j<n→st.2.1.getD j []=[])∧st.2.2.1=ph.zd.Rows∧st.2.2.2=ph.zd.aO)
  ⟨hts.len,λj _ hj=>hts.at_ j hj,λj hj=>by omega,by show ph.zd.S.length=n;rw[h3];simp,λj hj=>by omega,λj _ hj=>by show ph.zd.S.getD j []=[];rw[h3,List.getD_eq_getElem?_getD,List.getElem?_replicate,if_pos hj];rfl,rfl,rfl⟩ (λk st _ hk ⟨a1,a2,a8,a3,a4,a5,a6,a7⟩=>by
   obtain⟨T,S,R,F⟩:=st
   simp only at a1 a2 a3 a4 a5 a6 a7 a8
   subst a6;subst a7
   have hkn:k<n:=by omega
   obtain⟨T',S',e',b1,b2,b6,b3,b4,b5⟩:=Cp (ph:=⟨⟨ph.zn.zw,ph.zn.ah,ph.zn.av,T⟩,ph.zs,ph.zq,⟨S,ph.zd.Rows,ph.zd.aO⟩⟩) ht hn hT Q hkn a1 (a2 k (Nat.le_refl k) hkn) (hts.le k hkn) a3 (a5 k (Nat.le_refl k) hkn)
   unfold bT
   simp only
   rw[e',bS]
   refine⟨_,rfl,b1,λj hj hjn=>?_,λj hj=>?_,b3,λj hj=>?_,λj hj hjn=>?_,rfl,rfl⟩
   ·show T'.getD j _=_
    rw[b2 j (by omega)];exact a2 j (by omega) hjn
   ·show T'.getD j _=_
    by_cases g:j=k
    ·subst g;exact b6
    ·rw[b2 j g];exact a8 j (by omega)
   ·show S'.getD j _=_
    by_cases g:j=k
    ·subst g;exact b4
    ·rw[b5 j g];exact a4 j (by omega)
   ·show S'.getD j _=_
    rw[b5 j (by omega)];exact a5 j (by omega) hjn)
 rw[Nat.zero_add] at a4 a8
 simp only at a1 a2 a3 a4 a5 a6 a7 a8
 subst a6;subst a7
 rw[e,bS]
 refine⟨T,S,rfl,⟨a1,a8,λi hi=>⟨?_,(hts.le i hi).2⟩⟩,a3,a4⟩
 obtain⟨_,m2⟩:=Q.many i hi
 rw[vU hi,List.length_drop] at m2
 have:=(hts.le i hi).1
 omega
end Pu

/- Plain laws of chapter 19: rows in one list. -/
set_option linter.unusedVariables false
namespace Pu
open Gw Gl Sp
/-- a loop that appends lists -/
theorem tE{α:Type}{body:Nat→List α→Option (List α)}(v:Nat→List α):∀{n:Nat},(∀j l,j<n→l=((List.range j).map v).flatten→body j l=some (l++v j))→cZ body n 0 []=some ((List.range n).map v).flatten:=λ{n} h=>by
 obtain⟨r,e,h2⟩:=bm (body:=body) (λk l=>l=((List.range k).map v).flatten) (rem:=n) (k:=0) (s:=[]) rfl (λj l _ hj hl=>by
  refine⟨_,h j l (by omega) hl,?_⟩
  subst hl
  rw[List.range_succ,List.map_append,List.flatten_append];simp)
 rw[e,h2,Nat.zero_add]
theorem vJ{α:Type}{v:Nat→List α}{w:Nat}:∀{n:Nat},(∀j,j<n→(v j).length=w)→((List.range n).map v).flatten.length=n*w
 | 0,_=>by simp
 | n+1,h=>by
  rw[List.range_succ,List.map_append,List.flatten_append,List.length_append,vJ (λj hj=>h j (by omega)),Nat.add_mul]
  simp[h n (by omega)]
theorem flat_get{α:Type}{v:Nat→List α}{w:Nat}{d:α}:∀{n k c:Nat},(∀j,j<n→(v j).length=w)→k<n→c<w→((List.range n).map v).flatten.getD (k*w+c) d=(v k).getD c d
 | 0,_,_,_,hk,_=>by omega
 | n+1,k,c,h,hk,hc=>by
  have hl:=vJ (v:=v) (n:=n) (w:=w) (λj hj=>h j (by omega))
  rw[List.range_succ,List.map_append,List.flatten_append]
  by_cases g:k<n
  ·have hle:(k+1)*w≤n*w:=Nat.mul_le_mul_right _ g
   rw[Nat.add_mul,Nat.one_mul] at hle
   rw[cA (by rw[hl];omega)]
   exact flat_get (λj hj=>h j (by omega)) g hc
  ·have:k=n:=by omega
   subst this
   rw[List.getD_eq_getElem?_getD,List.getElem?_append_right (by rw[hl];omega),hl,Nat.add_sub_cancel_left,List.getD_eq_getElem?_getD]
   simp
theorem vK{p:Nat}{v:Nat→List Nat}:∀{n:Nat},(∀j,j<n→Lt p (v j))→Lt p ((List.range n).map v).flatten
 | 0,_=>λi hi=>by simp at hi
 | n+1,h=>λi hi=>by
  rw[List.range_succ,List.map_append,List.flatten_append] at hi ⊢
  by_cases g:i<((List.range n).map v).flatten.length
  ·rw[cA g];exact vK (λj hj=>h j (by omega)) i g
  ·rw[List.length_append] at hi
   have e:(List.map v [n]).flatten=v n:=by simp
   rw[e] at hi ⊢
   rw[List.getD_eq_getElem?_getD,List.getElem?_append_right (by omega),←List.getD_eq_getElem?_getD]
   exact h n (by omega) _ (by omega)
/-- a row -/
def Rw(p:Nat)(M:List (List Nat))(x:Nat):List Nat:=(gp p M x).getD []
theorem pE{p:Nat}[NeZero p](hp:fQ p){m:Nat}{M:List (List Nat)}{x:Nat}(hM:qR p m m M)(hm:m≤10)(hx:x<p) :
  gp p M x=some (Rw p M x)∧lH p M x=some (Rw p M x)∧(Rw p M x).length=m∧Lt p (Rw p M x)∧∀j,j<m→o p ((Rw p M x).getD j 0)=sm m (λk=>o p ((M.getD k []).getD j 0)*o p x ^ k):=by
 obtain⟨r,e,e',h1,h2,h3⟩:=KA hp hM hm hx
 have:Rw p M x=r:=by unfold Rw;rw[e];rfl
 rw[this]
 exact⟨e,e',h1,h2,h3⟩
/-- what dealer d sends to the party at x -/
def rr(p:Nat)(S:List (List (List Nat)))(x:Nat):List Nat:=((List.range S.length).map λk=>Rw p (S.getD k []) x).flatten
/-- the dealers' matrices stand -/
structure Ss(p n t:Nat)(S:List (List (List (List Nat)))):Prop where
 len:S.length=n
 many:∀d,d<n→(S.getD d []).length≤10
 mat:∀d,d<n→∀k,k<(S.getD d []).length→qR p (t+1) (t+1) ((S.getD d []).getD k [])
theorem rt{p n t d x:Nat}[NeZero p](hp:fQ p){S:List (List (List (List Nat)))}(s:Ss p n t S)(ht:t≤2)(hd:d<n)(hx:x<p):(rr p (S.getD d []) x).length=(S.getD d []).length*(t+1)∧Lt p (rr p (S.getD d []) x):=by
 unfold rr
 exact⟨vJ (λk hk=>(pE hp (s.mat d hd k hk) (by omega) hx).2.2.1),vK (λk hk=>(pE hp (s.mat d hd k hk) (by omega) hx).2.2.2.1)⟩
theorem FO{p n t i:Nat}[NeZero p](hp:fQ p){ph:ao}(hn:n≤13)(ht:t≤2)(hN:ph.zs.N=(n:Int))(hP:ph.zs.P=p)(s:Ss p n t ph.zd.S)(hi:i<n){l:List (List (List Nat))}(h1:l.length=n)(h2:l.getD i []=[]) :
  ∃l',fF ((i:Nat):Int) ph l=some l'∧l'.length=n∧(l'.getD i []).length=n∧(∀j,j<n→(l'.getD i []).getD j []=rr p (ph.zd.S.getD i []) (j+1))∧∀j,j≠i→l'.getD j []=l.getD j []:=by
 have hlt:=hp.lt
 have hmx:max 1 (ph.zs.N+1).toNat=n+1:=by rw[hN];omega
 unfold fF
 rw[hmx,bJ (by omega),bS,Nat.add_sub_cancel]
 obtain⟨l',e,j,hj,b1,b2,b3,b4⟩:=bm (body:=λk1 (st:(List (List (List Nat))))=>gL ((i:Nat):Int) ph k1 st) (rem:=n) (k:=1) (s:=l)
  (λk l'=>∃j,k=j+1∧l'.length=n∧(l'.getD i []).length=j∧(∀q,q<j→(l'.getD i []).getD q []=rr p (ph.zd.S.getD i []) (q+1))∧∀q,q≠i→l'.getD q []=l.getD q []) ⟨0,rfl,h1,by rw[h2];rfl,λq hq=>by omega,λ_ _=>rfl⟩ (λk l' hk1 hk ⟨j,hj,b1,b2,b3,b4⟩=>by
   subst hj
   have hjn:j<n:=by omega
   have hxp:j+1<p:=by omega
   have hu:sE ((j+1:Nat):Int)=j+1:=by unfold sE;omega
   have hm:=s.many i hi
   unfold gL
   rw[aS [] (by omega) (by rw[s.len];omega),bS,Int.toNat_natCast,bJ (by omega),bS,Nat.sub_zero]
   have e1:cZ (λk2 (st:(List Nat))=>gM ph (j+1) (ph.zd.S.getD i []) k2 st) (ph.zd.S.getD i []).length 0 ([]:List Nat)=some (rr p (ph.zd.S.getD i []) (j+1)):=tE (λk=>Rw p ((ph.zd.S.getD i []).getD k []) (j+1)) (λk q hk hq=>by
    obtain⟨r1,_,r2,_,_⟩:=pE hp (s.mat i hi k hk) (by omega) hxp
    have hql:q.length=k*(t+1):=by
     rw[hq];exact vJ (λk' hk'=>(pE hp (s.mat i hi k' (by omega)) (by omega) hxp).2.2.1)
    have:k*(t+1)≤10*3:=Nat.mul_le_mul (by omega) (by omega)
    unfold gM
    rw[ix [] hk,bS,bS,hu,hP,r1,bS,aM (by omega) (by omega),bS])
   rw[e1,bS,aS [] (by omega) (by omega),bS,Int.toNat_natCast,aM (by rw[b2];simp only[List.length_cons,List.length_nil];omega) (by rw[b2];simp only[List.length_cons,List.length_nil];omega),bS,bS]
   refine⟨_,rfl,j+1,rfl,by rw[List.length_set];exact b1,by rw[aN (by omega),if_pos rfl,List.length_append,b2];rfl,λq hq=>?_,λq hq=>by rw[aN (by omega),if_neg (λe=>hq e.symm)];exact b4 q hq⟩
   rw[aN (by omega),if_pos rfl]
   by_cases g:q<j
   ·rw[cA (by omega)];exact b3 q g
   ·have:q=j:=by omega
    subst this
    exact df b2.symm)
 have:j=n:=by omega
 subst this
 rw[e,bS]
 exact⟨l',rfl,b1,b2,b3,b4⟩
theorem FQ{p n t:Nat}[NeZero p](hp:fQ p){ph:ao}(hn:n≤13)(ht:t≤2)(hN:ph.zs.N=(n:Int))(hP:ph.zs.P=p)(s:Ss p n t ph.zd.S) :
  ∃out,cm ph (List.replicate n [])=some out∧Sq p n 30 out∧∀i,i<n→∀j,j<n→(out.getD i []).getD j []=rr p (ph.zd.S.getD i []) (j+1):=by
 have hlt:=hp.lt
 have hmx:max 0 ph.zs.N.toNat=n:=by rw[hN];simp
 unfold cm
 rw[hmx,bJ (by omega),bS,Nat.sub_zero]
 obtain⟨out,e,a1,a2,a3⟩:=bm (body:=λk1 (st:(List (List (List Nat))))=>cS ph k1 st) (rem:=n) (k:=0) (s:=List.replicate n [])
  (λk l=>l.length=n∧(∀i,i<k→(l.getD i []).length=n∧∀j,j<n→(l.getD i []).getD j []=rr p (ph.zd.S.getD i []) (j+1))∧∀i,k≤i→i<n→l.getD i []=[]) ⟨by simp,λi hi=>by omega,λi _ hi=>by rw[List.getD_eq_getElem?_getD,List.getElem?_replicate,if_pos hi];rfl⟩ (λk l _ hk ⟨a1,a2,a3⟩=>by
   have hkn:k<n:=by omega
   obtain⟨l',e',b1,b2,b3,b4⟩:=FO hp hn ht hN hP s hkn a1 (a3 k (Nat.le_refl k) hkn)
   unfold cS
   rw[e',bS]
   refine⟨_,rfl,b1,λi hi=>?_,λi hi hin=>by rw[b4 i (by omega)];exact a3 i (by omega) hin⟩
   by_cases g:i=k
   ·subst g;exact⟨b2,b3⟩
   ·rw[b4 i g];exact a2 i (by omega))
 rw[Nat.zero_add] at a2
 rw[e,bS]
 refine⟨out,rfl,⟨a1,λi hi=>(a2 i hi).1,λi hi j hj=>?_⟩,λi hi=>(a2 i hi).2⟩
 rw[(a2 i hi).2 j hj]
 obtain⟨c1,c2⟩:=rt hp s ht hi (x:=j+1) (by omega)
 have:=s.many i hi
 have:(ph.zd.S.getD i []).length*(t+1)≤10*3:=Nat.mul_le_mul this (by omega)
 exact⟨c2,by omega⟩
end Pu

/- Plain laws of chapter 19: the rows that arrive. -/
set_option linter.unusedVariables false
namespace Pu
open Gw Gl Sp
/-- a list in pieces of w words -/
def got(l:List Nat)(w m:Nat):List (List Nat):=(List.range m).map λk=>(List.range w).map λc=>l.getD (k*w+c) 0
theorem rR{l:List Nat}{w m k:Nat}(hk:k<m):(got l w m).getD k []=(List.range w).map λc=>l.getD (k*w+c) 0:=by
 unfold got
 rw[List.getD_eq_getElem?_getD,List.getElem?_map,List.getElem?_range hk];rfl
theorem pj{l:List Nat}{w m:Nat}:(got l w m).length=m:=by unfold got;simp
theorem BC{p n t d x:Nat}[NeZero p](hp:fQ p){S:List (List (List (List Nat)))}(s:Ss p n t S)(ht:t≤2)(hd:d<n)(hx:x<p){k:Nat}(hk:k<(S.getD d []).length):(got (rr p (S.getD d []) x) (t+1) (S.getD d []).length).getD k []=Rw p ((S.getD d []).getD k []) x:=by
 rw[rR hk]
 have hl:=(pE hp (s.mat d hd k hk) (by omega) hx).2.2.1
 refine List.ext_getElem (by rw[hl,List.length_map,List.length_range]) λc h1 h2=>?_
 have hc:c<t+1:=by omega
 have:=flat_get (v:=λk=>Rw p ((S.getD d []).getD k []) x) (w:=t+1) (d:=0) (n:=(S.getD d []).length) (k:=k) (c:=c) (λj hj=>(pE hp (s.mat d hd j hj) (by omega) hx).2.2.1) hk hc
 simp only[List.getElem_map,List.getElem_range]
 unfold rr
 rw[this,List.getD_eq_getElem?_getD,List.getElem?_eq_getElem h2];rfl
theorem FK{l:List Nat}{r:List Nat}{w m k:Nat}(h1:r.length=m*w)(h2:∀c,c<m*w→r.getD c 0=l.getD c 0)(hk:k<m)(hm:m*w≤1000)(hw:w≤1000)(hk2:k≤1000):jX ((k:Nat):Int) ((w:Nat):Int)=some ((k*w:Nat):Int)∧jX (((k:Nat):Int)+1) ((w:Nat):Int)=some (((k+1)*w:Nat):Int)∧oU r ((k*w:Nat):Int) (((k+1)*w:Nat):Int)=some ((List.range w).map λc=>l.getD (k*w+c) 0):=by
 have hle:(k+1)*w≤m*w:=Nat.mul_le_mul_right _ hk
 have e1:(k+1)*w=k*w+w:=by rw[Nat.add_mul,Nat.one_mul]
 have i1:((k:Nat):Int)*((w:Nat):Int)=((k*w:Nat):Int):=by rw[Int.natCast_mul]
 have i2:(((k:Nat):Int)+1)*((w:Nat):Int)=(((k+1)*w:Nat):Int):=by rw[Int.natCast_mul];rfl
 refine⟨by rw[iy (by rw[i1];omega) (by rw[i1];omega),i1],by rw[iy (by rw[i2];omega) (by rw[i2];omega),i2],?_⟩
 rw[eG (by omega) (by omega) (by omega)]
 congr 1
 simp only[Int.toNat_natCast]
 refine List.ext_getElem (by simp;omega) λc c1 c2=>?_
 have hc:c<w:=by simpa using c2
 have h3:=h2 (k*w+c) (by omega)
 rw[List.getD_eq_getElem?_getD,List.getElem?_eq_getElem (by omega)] at h3
 simp only[List.getElem_take,List.getElem_drop,List.getElem_map,List.getElem_range]
 exact h3
/-- party i's rows -/
theorem FP{n t i:Nat}{ph:ao}(hn:n≤13)(ht:t≤2)(hq:ph.zq.length=n)(hm:∀d,d<n→(ph.zq.getD d []).length≤10)(hi:i<n){heard:List (List (List Nat))}(h1:heard.length=n)(h2:(heard.getD i []).length=n)(h3:ph.zd.Rows.length=n)(h4:ph.zd.Rows.getD i []=[]) :
  ∃R,fG ((i:Nat):Int) ph heard ((t+1:Nat):Int)=some ⟨ph.zd.S,R,ph.zd.aO⟩∧R.length=n∧R.getD i []=(List.range n).map (λd=>got ((heard.getD i []).getD d []) (t+1) (ph.zq.getD d []).length)∧∀j,j≠i→R.getD j []=ph.zd.Rows.getD j []:=by
 unfold fG
 rw[hq,Nat.sub_zero]
 obtain⟨R,e,a1,a2,a3⟩:=bm (body:=λk1 (st:(List (List (List (List Nat)))))=>gN ((i:Nat):Int) ph heard ((t+1:Nat):Int) k1 st) (rem:=n) (k:=0) (s:=ph.zd.Rows)
  (λd R=>R.length=n∧R.getD i []=(List.range d).map (λd=>got ((heard.getD i []).getD d []) (t+1) (ph.zq.getD d []).length)∧∀j,j≠i→R.getD j []=ph.zd.Rows.getD j []) ⟨h3,h4,λ_ _=>rfl⟩ (λd R _ hd ⟨a1,a2,a3⟩=>by
   have hdn:d<n:=by omega
   have hmd:=hm d hdn
   have hw:(ph.zq.getD d []).length*(t+1)≤10*3:=Nat.mul_le_mul hmd (by omega)
   have i1:(((ph.zq.getD d []).length:Nat):Int)*((t+1:Nat):Int)=(((ph.zq.getD d []).length*(t+1):Nat):Int):=by rw[Int.natCast_mul]
   obtain⟨r,er,r1,r2⟩:=nS (l:=(heard.getD i []).getD d []) (m:=(ph.zq.getD d []).length*(t+1)) (by omega)
   have e1:cZ (λk2 (st:(List (List Nat)))=>gO ((t+1:Nat):Int) r k2 st) (ph.zq.getD d []).length 0 ([]:List (List Nat))=some (got ((heard.getD i []).getD d []) (t+1) (ph.zq.getD d []).length):=fA (λk=>(List.range (t+1)).map λc=>((heard.getD i []).getD d []).getD (k*(t+1)+c) 0) (λk l hk hl=>by
    obtain⟨c1,c2,c3⟩:=FK (k:=k) r1 r2 hk (by omega) (by omega) (by omega)
    unfold gO
    rw[c1,bS,bi (by omega) (by omega),bS,c2,bS,c3,bS,aM (by simp only[List.length_cons,List.length_nil];omega) (by simp only[List.length_cons,List.length_nil];omega),bS])
   have hRl:(R.getD i []).length=d:=by rw[a2];simp
   unfold gN
   rw[ix [] (by omega),bS,aS [] (by omega) (by omega),bS,Int.toNat_natCast,ix [] (by omega),bS,iy (by rw[i1];omega) (by rw[i1];omega),i1,bS,er,bS,Nat.sub_zero,e1,bS,aS [] (by omega) (by omega),bS,Int.toNat_natCast,aM (by rw[hRl];simp only[List.length_cons,List.length_nil];omega) (by rw[hRl];simp only[List.length_cons,List.length_nil];omega),bS,bS]
   refine⟨_,rfl,by rw[List.length_set];exact a1,?_,λj hj=>by rw[aN (by omega),if_neg (λe=>hj e.symm)];exact a3 j hj⟩
   rw[aN (by omega),if_pos rfl,a2,List.range_succ,List.map_append];rfl)
 rw[Nat.zero_add] at a2
 rw[e,bS]
 exact⟨R,rfl,a1,a2,a3⟩
theorem FR{n t:Nat}{ph:ao}(hn:n≤13)(ht:t≤2)(hN:ph.zs.N=(n:Int))(hq:ph.zq.length=n)(hm:∀d,d<n→(ph.zq.getD d []).length≤10){heard:List (List (List Nat))}(h1:heard.length=n)(h2:∀i,i<n→(heard.getD i []).length=n)(h3:ph.zd.Rows=List.replicate n []) :
  ∃R,cq ph heard ((t+1:Nat):Int)=some ⟨ph.zd.S,R,ph.zd.aO⟩∧R.length=n∧∀i,i<n→R.getD i []=(List.range n).map (λd=>got ((heard.getD i []).getD d []) (t+1) (ph.zq.getD d []).length):=by
 have hmx:max 0 ph.zs.N.toNat=n:=by rw[hN];simp
 unfold cq
 rw[hmx,bJ (by omega),bS,Nat.sub_zero]
 obtain⟨⟨S,R,F⟩,e,a1,a2,a3,a4,a5⟩:=bm (body:=λk1 (st:(List (List (List (List Nat))))×(List (List (List (List Nat))))×(List (List (List Nat))))=>bI ph heard ((t+1:Nat):Int) k1 st.1 st.2.1 st.2.2) (rem:=n) (k:=0) (s:=(ph.zd.S,ph.zd.Rows,ph.zd.aO))
  (λk st=>st.1=ph.zd.S∧st.2.2=ph.zd.aO∧st.2.1.length=n∧(∀i,i<k→st.2.1.getD i []=(List.range n).map (λd=>got ((heard.getD i []).getD d []) (t+1) (ph.zq.getD d []).length))∧∀i,k≤i→i<n→st.2.1.getD i []=[])
  ⟨rfl,rfl,by show ph.zd.Rows.length=n;rw[h3];simp,λi hi=>by omega,λi _ hi=>by show ph.zd.Rows.getD i []=[];rw[h3,List.getD_eq_getElem?_getD,List.getElem?_replicate,if_pos hi];rfl⟩ (λk st _ hk ⟨a1,a2,a3,a4,a5⟩=>by
   obtain⟨S,R,F⟩:=st
   simp only at a1 a2 a3 a4 a5
   subst a1;subst a2
   have hkn:k<n:=by omega
   obtain⟨R',e',b1,b2,b3⟩:=FP (ph:=⟨ph.zn,ph.zs,ph.zq,⟨ph.zd.S,R,ph.zd.aO⟩⟩) hn ht hq hm hkn h1 (h2 k hkn) a3 (a5 k (Nat.le_refl k) hkn)
   unfold bI
   simp only
   rw[e',bS]
   refine⟨_,rfl,rfl,rfl,b1,λi hi=>?_,λi hi hin=>?_⟩
   ·show R'.getD i []=_
    by_cases g:i=k
    ·subst g;exact b2
    ·rw[b3 i g];exact a4 i (by omega)
   ·show R'.getD i []=_
    rw[b3 i (by omega)];exact a5 i (by omega) hin)
 rw[Nat.zero_add] at a4
 simp only at a1 a2 a3 a4 a5
 subst a1;subst a2
 rw[e,bS]
 exact⟨R,rfl,a3,a4⟩
end Pu

/- Plain laws of chapter 19: the first round. -/
set_option linter.unusedVariables false
namespace Pu
open Gw Gl Sp
/-- without deviations messages arrive as they are -/
theorem xd{w:ae}{n t L:Nat}(s:Sc w n t){out all:List (List (List Nat))}{round:Int}(ho:Sq w.S.P n L out)(hd:w.aa=[])(e:bP w round out=some all):all=out:=by
 have h13:=s.n13
 unfold bP at e
 rw[ho.len,ci (by omega) (by omega) (by omega) (by omega),bS,Nat.sub_zero,Int.toNat_natCast] at e
 obtain⟨l3,e3,h1,h2⟩:=bm (body:=λk1 (st:(List (List (List Nat))))=>dI out k1 st) (rem:=n) (k:=0) (s:=List.replicate n [])
  (λk l=>l.length=n∧∀i,i<k→l.getD i []=out.getD i []) ⟨by simp,λi hi=>by omega⟩ (λk l _ hk ⟨h1,h2⟩=>by
   have hk':k<n:=by omega
   unfold dI
   rw[ho.s1 hk',bS,rb (by rw[ho.row k hk'];omega),bS,ix [] (by omega),bS,bS]
   refine⟨_,rfl,by rw[List.length_set];exact h1,λi hi=>?_⟩
   rw[aN (by omega)]
   by_cases g:k=i
   ·rw[if_pos g,g]
   ·rw[if_neg g];exact h2 i (by omega))
 have hl3:l3=out:=by
  apply List.ext_getElem?
  intro i
  by_cases g:i<n
  ·rw[ix [] (by omega),ix [] (by rw[ho.len];omega),h2 i (by omega)]
  ·rw[List.getElem?_eq_none (by omega),List.getElem?_eq_none (by rw[ho.len];omega)]
 rw[e3,bS,hd] at e
 rw[←hl3]
 exact(Option.some.inj e).symm
/-- the first round: rows are sent and cut -/
theorem yV{n t:Nat}{ph:ao}[NeZero ph.zn.zw.S.P](s:Sc ph.zn.zw n t)(ht:t≤2)(hz:ph.zs=ph.zn.zw.S)(S:Ss ph.zn.zw.S.P n t ph.zd.S)(hq:ph.zq.length=n)(hm:∀d,d<n→(ph.zq.getD d []).length=(ph.zd.S.getD d []).length)(h3:ph.zd.Rows=List.replicate n [])(hv:ph.zn.av.length=n)(hb:∀j,j<n→(ph.zn.av.getD j []).length≤500)(hr:0≤ph.zn.ah∧ph.zn.ah≤1000) :
  ∃all views R,gw ph=some (ph.zn.ah+1,views,⟨ph.zd.S,R,ph.zd.aO⟩)∧Sq ph.zn.zw.S.P n 30 all∧(∀d,d<n→((((d:Nat):Int)+1)∉ph.zn.zw.af∨ph.zn.zw.aa=[])→∀i,i<n→(all.getD d []).getD i []=rr ph.zn.zw.S.P (ph.zd.S.getD d []) (i+1)) ∧
   views.length=n∧(∀j,j<n→views.getD j []=ph.zn.av.getD j []++Bu ph.zn.ah all j n)∧R.length=n∧(∀i,i<n→(R.getD i []=(List.range n).map (λd=>got ((all.getD d []).getD i []) (t+1) (ph.zd.S.getD d []).length))) ∧
   ∃out,Sq ph.zn.zw.S.P n 30 out∧(∀i,i<n→∀j,j<n→(out.getD i []).getD j []=rr ph.zn.zw.S.P (ph.zd.S.getD i []) (j+1))∧bP ph.zn.zw ph.zn.ah out=some all:=by
 have hp:=s.sup
 have h13:=s.n13
 have hN:ph.zs.N=(n:Int):=by rw[hz];exact s.N
 have hT:ph.zs.T=(t:Int):=by rw[hz];exact s.T
 have et:((t:Nat):Int)+1=((t+1:Nat):Int):=by omega
 obtain⟨out,eo,o1,o2⟩:=FQ hp h13 ht hN (by rw[hz]) S
 obtain⟨all,inn,views,ea,es,⟨q1,_⟩,q2,i1,i2,v1,v2⟩:=AJ s o1 (by omega) hv hb hr
 obtain⟨R,eR,r1,r2⟩:=FR (ph:=⟨⟨ph.zn.zw,ph.zn.ah+1,views,ph.zn.ak⟩,ph.zs,ph.zq,ph.zd⟩) h13 ht hN hq (λd hd=>by rw[hm d hd];exact S.many d hd) i1 (λi hi=>(i2 i hi).1) h3
 refine⟨all,views,R,?_,q1,λd hd hc i hi=>?_,v1,v2,r1,λi hi=>?_,out,o1,o2,ea⟩
 ·unfold gw
  rw[hT,bi (by omega) (by omega),bS,et,hN,ci (by omega) (by omega) (by omega) (by omega),bS,Int.toNat_natCast,eo,bS,es,bS]
  simp only
  rw[eR,bS]
 ·rw[←o2 d hd i hi]
  rcases hc with hc | hc
  ·rw[q2 d hd hc]
  ·rw[xd s o1 hc ea]
 ·rw[r2 i hi]
  refine List.map_congr_left λd hd=>?_
  have hd:d<n:=by simpa using hd
  simp only
  rw[(i2 i hi).2 d hd,hm d hd]
end Pu

/- Plain laws of chapter 19: values of rows. -/
set_option linter.unusedVariables false
namespace Pu
open Gw Gl Sp
theorem B3{α:Type}{body:Nat→List α→Option (List α)}(v:Nat→α){l:List α}:∀{n:Nat},(∀j l',j<n→l'=l++(List.range j).map v→body j l'=some (l'++[v j]))→cZ body n 0 l=some (l++(List.range n).map v):=λ{n} h=>by
 obtain⟨r,e,h2⟩:=bm (body:=body) (λk r=>r=l++(List.range k).map v) (rem:=n) (k:=0) (s:=l) (by simp) (λj r _ hj hr=>by
  refine⟨_,h j r (by omega) hr,?_⟩
  rw[hr,List.range_succ,List.map_append,List.append_assoc];rfl)
 rw[e,h2,Nat.zero_add]
/-- the value of a row -/
def pB(p:Nat)(f:List Nat)(x:Nat):Nat:=(i7 p f x).getD 0
theorem jq{p:Nat}[NeZero p](hp:fQ p){f:List Nat}{x:Nat}(hf:Lt p f)(hx:x<p)(hl:f.length≤1000):i7 p f x=some (pB p f x)∧pB p f x<p∧o p (pB p f x)=bZ (P p f) (o p x):=by
 obtain⟨y,e,h1,h2⟩:=Aa hp hf hx hl
 have:pB p f x=y:=by unfold pB;rw[e];rfl
 rw[this];exact⟨e,h1,h2⟩
/-- the rows of all parties -/
structure Rr(p n t:Nat)(m:Nat→Nat)(R:List (List (List (List Nat)))):Prop where
 len:R.length=n
 row:∀i,i<n→(R.getD i []).length=n
 many:∀i,i<n→∀d,d<n→((R.getD i []).getD d []).length=m d
 m2:∀d,d<n→m d≤10
 w:∀i,i<n→∀d,d<n→∀k,k<m d→(((R.getD i []).getD d []).getD k []).length=t+1∧Lt p (((R.getD i []).getD d []).getD k [])
/-- a party's values at a point -/
def nZ(p n:Nat)(m:Nat→Nat)(Ri:List (List (List Nat)))(x:Nat):List Nat:=((List.range n).map λd=>(List.range (m d)).map λk=>pB p ((Ri.getD d []).getD k []) x).flatten
theorem xV{p:Nat}{m:Nat→Nat}{Ri:List (List (List Nat))}{x:Nat}:∀{n:Nat},(∀d,d<n→m d≤10)→(nZ p n m Ri x).length≤10*n
 | 0,_=>by simp[nZ]
 | n+1,h=>by
  have:=xV (n:=n) (p:=p) (m:=m) (Ri:=Ri) (x:=x) (λd hd=>h d (show d<n+1 by omega))
  unfold nZ at this ⊢
  have h2:=h n (by omega)
  rw[List.range_succ,List.map_append,List.flatten_append,List.length_append]
  exact Nat.le_trans (Nat.add_le_add this (show _≤10 by simp;exact h2)) (by omega)
theorem xn{p n t i x:Nat}[NeZero p](hp:fQ p){ph:ao}{m:Nat→Nat}(hn:n≤13)(ht:t≤2)(hP:ph.zs.P=p)(r:Rr p n t m ph.zd.Rows)(hi:i<n)(hx:x<p)(hx2:x≤1000):gP ph ((i:Nat):Int) ((x:Nat):Int)=some (nZ p n m (ph.zd.Rows.getD i []) x):=by
 have hlt:=hp.lt
 have hu:sE ((x:Nat):Int)=x:=by unfold sE;omega
 unfold gP
 rw[aS [] (by omega) (by rw[r.len];omega),bS,Int.toNat_natCast,r.row i hi,bJ (by omega),bS,Nat.sub_zero]
 have e:cZ (λk1 (st:(List Nat))=>jU ph ((x:Nat):Int) (ph.zd.Rows.getD i []) k1 st) n 0 ([]:List Nat)=some (nZ p n m (ph.zd.Rows.getD i []) x):=tE (λd=>(List.range (m d)).map λk=>pB p (((ph.zd.Rows.getD i []).getD d []).getD k []) x) (λd l hd hl=>by
  have hll:l.length≤10*d:=by rw[hl];exact xV (p:=p) (Ri:=ph.zd.Rows.getD i []) (x:=x) (λd' hd'=>r.m2 d' (by omega))
  have hm:=r.m2 d hd
  unfold jU
  rw[ix [] (by rw[r.row i hi];exact hd),bS,r.many i hi d hd,Nat.sub_zero,B3 (λk=>pB p (((ph.zd.Rows.getD i []).getD d []).getD k []) x) (λk l' hk hl'=>by
   obtain⟨w1,w2⟩:=r.w i hi d hd k hk
   have hl2:l'.length≤1000:=by rw[hl',List.length_append,List.length_map,List.length_range];omega
   unfold mS
   rw[ix [] (by rw[r.many i hi d hd];exact hk),bS,bS,hu,hP,(jq hp w2 hx (by omega)).1,bS,aM (by simp only[List.length_cons,List.length_nil];omega) (by simp only[List.length_cons,List.length_nil];omega),bS]),bS])
 rw[e,bS]
end Pu
