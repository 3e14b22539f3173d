/- Plain laws of chapter 19: the network with tapes, broadcasts. -/
import Derived.Test.YtpjenmchinpgaaaGreatDoorPb
import Derived.KernelRfl
set_option linter.unusedVariables false
namespace Pu
open Gw Gl Sp
/-- a loop that appends -/
theorem gk {α:Type} {body:Nat→List α→Option (List α)} (v:Nat→α):∀ {n:Nat},(∀ j l,j < n→l.length=j→body j l=some (l++[v j]))→cV body n 0 []=some ((List.range n).map v):=fun {n} h=>by
  obtain ⟨r,e,h2⟩:=bo (body:=body) (fun k l=>l=(List.range k).map v) (rem:=n) (k:=0) (s:=[]) rfl (fun j l _ hj hl=>by
    subst hl
    exact ⟨_,h j _ (by omega) (by simp),by rw [List.range_succ,List.map_append];rfl⟩)
  rw [e,h2,Nat.zero_add]
/-- the program's network stands -/
theorem LU {w:ae} {n t:Nat} (v:Va w n t):nM w=some (.inr ⟨w,0,List.replicate n [],w.ay.map fun l=>⟨l,0⟩⟩):=by
  have h13:=v.n13
  unfold nM kG
  have e1:br w.aa w=some false:=by
    unfold br bU
    rw [Nat.sub_zero]
    obtain ⟨o,e,ho⟩:=iq (body:=fun k1 (st:Unit)=>bP w.aa w k1) (fun _ _=>True) (fun _=>False) (rem:=w.aa.length) (k:=0) (s:=()) trivial (fun k _ _ hk _=>by
      unfold bP jF
      have hkd:k < w.aa.length:=by omega
      have hx:w.aa.getD k default ∈ w.aa:=by rw [List.getD_eq_getElem?_getD,List.getElem?_eq_getElem hkd];exact List.getElem_mem hkd
      have d:=v.dv _ hx
      have f:=v.full _ hx
      have hN:=v.N
      rw [ix default hkd,bS,LL (s:=w.S) (x:=w.aa.getD k default) ⟨f.1,d.2.2.1,d.2.2.2.1,d.1,by rw [hN];exact d.2.1,f.2.1,by rw [hN];exact f.2.2.1,f.2.2.2.1,f.2.2.2.2,d.2.2.2.2.1,by rw [hN];exact d.2.2.2.2.2.1,d.2.2.2.2.2.2.1⟩,bS,bS,nT,cF]
      exact ⟨_,rfl,trivial⟩)
    rw [e,bS]
    cases o with
    | fin r=>exact ho.elim
    | go _=>rw [oG,bS,dF (by omega)]
  have e2:bJ w.ay w=some false:=by
    unfold bJ cE
    rw [Nat.sub_zero]
    obtain ⟨o,e,ho⟩:=iq (body:=fun k1 (st:Unit)=>cq w.ay w k1) (fun _ _=>True) (fun _=>False) (rem:=w.ay.length) (k:=0) (s:=()) trivial (fun k _ _ hk _=>by
      unfold cq jG
      have hkd:k < w.ay.length:=by omega
      rw [ix [] hkd,bS]
      have hb:=v.tb k (by have:=v.tl;omega)
      generalize w.ay.getD k []=l at hb
      have e3:bK l w=some false:=by
        unfold bK cG
        rw [Nat.sub_zero]
        obtain ⟨o,e,ho⟩:=iq (body:=fun k1 (st:Unit)=>ct l w k1) (fun _ _=>True) (fun _=>False) (rem:=l.length) (k:=0) (s:=()) trivial (fun j _ _ hj _=>by
          unfold ct iT
          have:=hb j (by omega)
          rw [ix 0 (by omega),bS,bS,dF (by omega),cF]
          exact ⟨_,rfl,trivial⟩)
        rw [e,bS]
        cases o with
        | fin r=>exact ho.elim
        | go _=>rw [oG,bS,dF (by omega)]
      rw [e3,bS,bS,cF]
      exact ⟨_,rfl,trivial⟩)
    rw [e,bS]
    cases o with
    | fin r=>exact ho.elim
    | go _=>rw [oG,bS,dF (by omega)]
  rw [Jq v.par v.cl v.cr v.ord,bS,nT,cF,qF (by rw [v.tl,v.N]),cF,e1,bS,cF,e2,bS,bS,nF,nT,cF,v.N,ck (by omega) (by omega) (by omega) (by omega),bS,Int.toNat_natCast,v.tl,Nat.sub_zero]
  rw [gk (fun j=>(⟨w.ay.getD j [],0⟩:aH)) (fun j l hj hl=>by
    unfold tC yb
    rw [ix [] (by have:=v.tl;omega),bS,bS,aM (by simp only [List.length_cons,List.length_nil];omega) (by simp only [List.length_cons,List.length_nil];omega),bS];rfl),bS]
  have:(List.range n).map (fun j=>(⟨w.ay.getD j [],0⟩:aH))=w.ay.map fun l=>⟨l,0⟩:=by
    refine List.ext_getElem (by simp [v.tl]) fun i h1 h2=>?_
    have hi:i < w.ay.length:=by simpa using h2
    simp [List.getD_eq_getElem?_getD,hi]
  rw [this];rfl
/-- a broadcast list for each party -/
structure Bl (p n L:Nat) (m:List (List Nat)):Prop where
  len:m.length=n
  w:∀ i,i < n→Lt p (m.getD i [])∧(m.getD i []).length≤L
theorem Dz {w:ae} {n t L:Nat} (s:Sc w n t) {out:List (List Nat)} {round:Int} (ho:Bl w.S.P n L out) (hL:L≤1000) :
    ∃ all,bj w round out=some all∧Bl w.S.P n L all∧(∀ i,i < n→(((i:Nat):Int)+1) ∉ w.af→all.getD i []=out.getD i [])∧(w.aa=[]→all=out):=by
  have h13:=s.n13
  unfold bj
  rw [ri (by rw [ho.len];omega),bS,Nat.sub_zero]
  obtain ⟨all,e,k1,k2⟩:=bo (body:=fun k1 (st:(List (List Nat)))=>fI w round out k1 st) (rem:=w.aa.length) (k:=0) (s:=out)
    (fun _ all=>Bl w.S.P n L all∧∀ i,i < n→(((i:Nat):Int)+1) ∉ w.af→all.getD i []=out.getD i []) ⟨ho,fun _ _ _=>rfl⟩ (fun k all _ hk ⟨k1,k2⟩=>by
      have hkd:k < w.aa.length:=by omega
      unfold fI
      rw [ix default hkd,bS]
      have hx:w.aa.getD k default ∈ w.aa:=by
        rw [List.getD_eq_getElem?_getD,List.getElem?_eq_getElem hkd];exact List.getElem_mem hkd
      generalize w.aa.getD k default=x at hx
      obtain ⟨d1,d2,d3,d4,d5,d6,d7,d8⟩:=s.dv x hx
      unfold kz
      by_cases g:x.Round=round∧x.From ∈ w.af
      · rw [eT g.1,cT,nL,bS,bS,dT g.2,nT,cF]
        have hf:x.From.toNat - 1 < n:=by omega
        have hfe:(x.From - 1).toNat=x.From.toNat - 1:=by omega
        obtain ⟨said,es,hs1,hs2⟩:∃ said,(bif x.Kind == (3:Int) then
            i9 x.Of (1:Int) >>= fun x3=>gM out x3 >>= fun x4=>some x4
          else some ([]:List Nat))=some said∧Lt w.S.P said∧said.length≤1000:=by
          by_cases k3:x.Kind=3
          · have h7:=d7 k3
            have hoe:(x.Of - 1).toNat < n:=by omega
            rw [eT k3,cT,cD (by omega) (by omega),bS,aX [] (by omega) (by rw [ho.len];omega),bS]
            have:=ho.w _ hoe
            exact ⟨_,rfl,this.1,by omega⟩
          · rw [eF k3,cF];exact ⟨_,rfl,fun i hi=>by simp at hi,by simp⟩
        obtain ⟨hw1,hw2⟩:=k1.w _ hf
        obtain ⟨r,er,r1,r2⟩:=Dn s hx hw1 (by omega) hs1 hs2
        rw [es,bS,cD (by omega) (by omega),bS,aX [] (by omega) (by rw [k1.len];omega),bS,hfe,er,bS,bS]
        refine ⟨_,rfl,⟨by rw [List.length_set];exact k1.len,fun i hi=>?_⟩,fun i hi hc=>?_⟩
        · rw [aL (by rw [k1.len];exact hf)]
          split
          · exact ⟨r1,by omega⟩
          · exact k1.w i hi
        · rw [aL (by rw [k1.len]; exact hf), if_neg (fun e => hc (by rw [← e]; have : ((x.From.toNat - 1 : Nat) : Int) + 1 = x.From := by omega
                                                                     rw [this];exact g.2))]
          exact k2 i hi hc
      · have:(bif x.Round == round then db w.af x.From >>= fun r1=>some r1 else some false)=some false:=by
          by_cases g1:x.Round=round
          · rw [eT g1,cT,nL,bS,dF (fun h=>g ⟨g1,h⟩)]
          · rw [eF g1,cF]
        rw [this,bS,nF,cT]
        exact ⟨_,rfl,k1,k2⟩)
  rw [e,bS]
  refine ⟨all,rfl,k1,k2,fun hd=>?_⟩
  rw [hd] at e
  exact (Option.some.inj e).symm
/-- what party j notes of a broadcast -/
def yE (round:Int) (all:List (List Nat)) (j k:Nat):List al :=
  ((List.range k).filter fun i=>decide (i≠j∧0 < (all.getD i []).length)).map fun i=>⟨round,((i:Nat):Int)+1,all.getD i []⟩
theorem zG {round:Int} {all:List (List Nat)} {j k:Nat}:(yE round all j k).length≤k:=by
  unfold yE;rw [List.length_map];exact Nat.le_trans (List.length_filter_le ..) (by simp)
theorem E9 {round:Int} {all:List (List Nat)} {j k:Nat}:yE round all j (k+1)=yE round all j k++if k≠j∧0 < (all.getD k []).length then [⟨round,((k:Nat):Int)+1,all.getD k []⟩] else []:=by
  unfold yE
  rw [List.range_succ,List.filter_append,List.map_append]
  congr 1
  by_cases g:k≠j∧0 < (all.getD k []).length
  · rw [if_pos g];simp only [List.filter_cons,decide_eq_true g,List.filter_nil];simp
  · rw [if_neg g];simp only [List.filter_cons,decide_eq_false g,List.filter_nil];simp
/-- a broadcast -/
theorem AE {net:ai} {n t L:Nat} (s:Sc net.zw n t) {out:List (List Nat)} (ho:Bl net.zw.S.P n L out) (hL:L≤1000) (hv:net.au.length=n) (hb:∀ j,j < n→(net.au.getD j []).length≤500) (hr:0≤net.ah∧net.ah≤1000) :
    ∃ all views,cm net out=some (all,net.ah+1,views)∧bj net.zw net.ah out=some all∧Bl net.zw.S.P n L all∧(∀ i,i < n→(((i:Nat):Int)+1) ∉ net.zw.af→all.getD i []=out.getD i [])∧(net.zw.aa=[]→all=out) ∧
      views.length=n∧∀ j,j < n→views.getD j []=net.au.getD j []++yE net.ah all j n:=by
  have h13:=s.n13
  obtain ⟨all,ea,q1,q2,q3⟩:=Dz (round:=net.ah) s ho hL
  unfold cm
  rw [ea,bS,s.N,ck (by omega) (by omega) (by omega) (by omega),bS,Int.toNat_natCast,List.length_replicate,Nat.sub_zero]
  obtain ⟨⟨views,inn⟩,e,h1,h2,h3,h4,_⟩:=bo (body:=fun k1 (st:(List (List al)) × (List (List Nat)))=>eX net all k1 st.1 st.2) (rem:=n) (k:=0) (s:=(net.au,List.replicate n []))
    (fun k st=>st.1.length=n∧st.2.length=n∧(∀ j,j < n→st.1.getD j []=net.au.getD j []++yE net.ah all j k)∧(∀ j,j < k→st.2.getD j []=all.getD j [])∧True)
    ⟨hv,by simp,fun j hj=>by simp [yE],fun j hj=>by omega,trivial⟩ (fun k st _ hk ⟨h1,h2,h3,h4,_⟩=>by
      have hkn:k < n:=by omega
      obtain ⟨w1,w2⟩:=q1.w k hkn
      obtain ⟨v0,i0⟩:=st
      simp only at h1 h2 h3 h4
      unfold eX
      rw [ix [] (by rw [q1.len];exact hkn),bS,aM (by simp only [List.length_nil];omega) (by simp only [List.length_nil];omega),bS,List.nil_append,ix [] (by omega),bS,bS,List.length_set,h2,Nat.sub_zero]
      obtain ⟨v',e',g1,g2,g3⟩:=bo (body:=fun k2 (st:(List (List al)))=>iR net k (i0.set k (all.getD k [])) k2 st) (rem:=n) (k:=0) (s:=v0)
        (fun j q=>q.length=n∧(∀ i,i < n→i < j→q.getD i []=net.au.getD i []++yE net.ah all i (k+1))∧∀ i,i < n→j≤i→q.getD i []=v0.getD i []) ⟨h1,fun i _ hi=>by omega,fun _ _ _=>rfl⟩ (fun j q _ hj ⟨g1,g2,g3⟩=>by
          have hjn:j < n:=by omega
          have hel:=zG (round:=net.ah) (all:=all) (j:=j) (k:=k)
          have hbj:=hb j hjn
          have hq1:(q.getD j []).length≤600:=by rw [g3 j hjn (Nat.le_refl j),h3 j hjn,List.length_append];omega
          unfold iR
          rw [ix [] (by rw [List.length_set];omega),bS,aL (by omega),if_pos rfl,Db (net:=⟨net.zw,net.ah,q,net.ak⟩) (by show j < q.length;omega) (by omega) (by show (q.getD j []).length≤1000;omega) (by omega),bS]
          refine ⟨_,rfl,?_,fun i hi hij=>?_,fun i hi hij=>?_⟩
          · show (if _ then q.set j _ else q).length=n
            split
            · rw [List.length_set];exact g1
            · exact g1
          · show (if _ then q.set j _ else q).getD i []=_
            by_cases c:i=j
            · subst c
              rw [E9]
              split
              · rw [aL (by omega),if_pos rfl,g3 i hi (Nat.le_refl i),h3 i hi,List.append_assoc]
              · rw [List.append_nil,g3 i hi (Nat.le_refl i),h3 i hi]
            · split
              · rw [aL (by omega),if_neg (fun e=>c e.symm)];exact g2 i hi (by omega)
              · exact g2 i hi (by omega)
          · show (if _ then q.set j _ else q).getD i []=_
            split
            · rw [aL (by omega),if_neg (by omega)];exact g3 i hi (by omega)
            · exact g3 i hi (by omega))
      rw [Nat.zero_add] at g2
      rw [e',bS]
      refine ⟨_,rfl,g1,by show (i0.set k _).length=n;rw [List.length_set];exact h2,fun j hj=>g2 j hj hj,fun j hj=>?_,trivial⟩
      show (i0.set k _).getD j []=_
      rw [aL (by omega)]
      by_cases c:k=j
      · rw [if_pos c,c]
      · rw [if_neg c];exact h4 j (by omega))
  rw [Nat.zero_add] at h3 h4
  simp only at h1 h2 h3 h4
  rw [e,bS]
  simp only
  rw [bk (by omega) (by omega),bS]
  have hin:inn=all:=by
    apply List.ext_getElem?
    intro i
    by_cases g:i < n
    · rw [ix [] (by omega),ix [] (by rw [q1.len];omega),h4 i g]
    · rw [List.getElem?_eq_none (by omega),List.getElem?_eq_none (by rw [q1.len];omega)]
  exact ⟨all,views,by rw [hin],rfl,q1,q2,q3,h1,h3⟩
end Pu

/- Plain laws of chapter 19: matrices and their rows. -/
set_option linter.unusedVariables false
namespace Pu
open Gw Gl Sp
theorem Pe (a b c:Nat):lB [a,b] [c]=some ([[a,b],[b,c]],0):=by kernel_rfl
theorem Pg (a b c d e f:Nat):lB [a,b,c] [d,e,f]=some ([[a,b,c],[b,d,e],[c,e,f]],0):=by kernel_rfl
theorem GH (a b c:Nat):jo [a,b] [c]=some ([[a,b],[b,c]],0):=by kernel_rfl
theorem GI (a b c d e f:Nat):jo [a,b,c] [d,e,f]=some ([[a,b,c],[b,d,e],[c,e,f]],0):=by kernel_rfl
section
variable {p:Nat} [NeZero p]
theorem HC (hp:fX p) {m:Nat} {M:List (List Nat)} {x:Nat} (hM:qW p m m M) (hm:m≤10) (hx:x < p) :
    ∃ r,fS p M x=some r∧r.length=m∧Lt p r∧∀ j,j < m→o p (r.getD j 0)=sm m (fun k=>o p ((M.getD k []).getD j 0)*o p x ^ k):=by
  have hlt:=hp.lt
  unfold fS
  rw [hM.len,ck (by omega) (by omega) (by omega) (by omega),bS,Int.toNat_natCast,Nat.sub_zero]
  obtain ⟨⟨r,y⟩,e,h1,h2,h3,h4,h5⟩:=bo (body:=fun k1 (st:(List Nat) × Nat)=>ji p M x k1 st.1 st.2) (rem:=m) (k:=0) (s:=(List.replicate m 0,1))
    (fun k st=>st.1.length=m∧st.2 < p∧o p st.2=o p x ^ k∧(∀ j,j < m→st.1.getD j 0 < p)∧∀ j,j < m→o p (st.1.getD j 0)=sm k (fun k=>o p ((M.getD k []).getD j 0)*o p x ^ k))
    ⟨by simp,by show 1 < p;omega,by show o p 1=_;rw [xP];grind,fun j hj=>by simp [List.getD_eq_getElem?_getD,hj];exact hp.pos,fun j hj=>by simp only [sm];rw [List.getD_eq_getElem?_getD,List.getElem?_replicate,if_pos hj];exact lk⟩ (fun k st _ hk ⟨h1,h2,h3,h4,h5⟩=>by
      have hkm:k < m:=by omega
      obtain ⟨l,y⟩:=st
      simp only at h1 h2 h3 h4 h5
      unfold ji
      rw [hM.some hkm,bS,hM.row k hkm,Nat.sub_zero]
      obtain ⟨q,eq,q1,q2,q3⟩:=bo (body:=fun k2 (st:(List Nat))=>m0 p y (M.getD k []) k2 st) (rem:=m) (k:=0) (s:=l)
        (fun j q=>q.length=m∧(∀ i,i < m→q.getD i 0 < p)∧∀ i,i < m→o p (q.getD i 0)=if i < j then o p (l.getD i 0)+o p ((M.getD k []).getD i 0)*o p y else o p (l.getD i 0)) ⟨h1,h4,fun i hi=>by rw [if_neg (by omega)]⟩ (fun j q _ hj ⟨q1,q2,q3⟩=>by
          have hjm:j < m:=by omega
          have hM2:=hM.lt k hkm j hjm
          have hm1:=Nat.mod_lt ((M.getD k []).getD j 0*y) hp.pos
          have hqj:=q2 j hjm
          unfold m0
          rw [rd hM hkm hjm,bS,ix 0 (by omega),bS,jX hp hM2 h2,bS,vI hp (by omega),bS,bS]
          refine ⟨_,rfl,by rw [List.length_set];exact q1,fun i hi=>?_,fun i hi=>?_⟩
          · rw [aL (by omega)]
            split
            · exact Nat.mod_lt _ hp.pos
            · exact q2 i hi
          · rw [aL (by omega)]
            by_cases c:j=i
            · subst c
              rw [if_pos rfl,if_pos (by omega),mf,yK,mf,pW,q3 j hjm,if_neg (by omega)]
            · rw [if_neg c,q3 i hi]
              by_cases c2:i < j
              · rw [if_pos c2,if_pos (by omega)]
              · rw [if_neg c2,if_neg (by omega)])
      rw [Nat.zero_add] at q3
      rw [eq,bS,jX hp h2 hx,bS]
      refine ⟨_,rfl,q1,Nat.mod_lt _ hp.pos,by show o p (y*x % p)=_;rw [mf,pW,h3];grind,q2,fun j hj=>?_⟩
      show o p (q.getD j 0)=_
      rw [q3 j hj,if_pos hj,h5 j hj,h3];rfl)
  rw [Nat.zero_add] at h5
  rw [e,bS]
  exact ⟨r,rfl,h1,fun i hi=>h4 i (by simp only at h1;omega),h5⟩
theorem Bu (hp:fX p) {f:List Nat} {x:Nat} (hf:Lt p f) (hl:f.length≤10) (hx:x < p):∃ y,lU p f x=some y∧y < p∧o p y=sm f.length (fun k=>o p (f.getD k 0)*o p x ^ k):=by
  have hlt:=hp.lt
  unfold lU
  rw [cD (by omega) (by omega),bS]
  obtain ⟨y,e,h1,h2⟩:=ny (step:=fun (st:Nat × Int)=>ip p f x st.1 st.2) (fun st=>∃ k:Nat,st.2=(k:Int) - 1∧k≤f.length∧st.1 < p∧o p st.1*o p x ^ k+sm k (fun k=>o p (f.getD k 0)*o p x ^ k)=sm f.length (fun k=>o p (f.getD k 0)*o p x ^ k))
    (fun y=>y < p∧o p y=sm f.length (fun k=>o p (f.getD k 0)*o p x ^ k)) (fun st=>(st.2+1).toNat) (fun st ⟨k,h1,h2,h3,h4⟩=>by
      obtain ⟨a,z⟩:=st
      replace h1:z=(k:Int) - 1:=h1
      replace h3:a < p:=h3
      replace h4:o p a*o p x ^ k+sm k (fun k=>o p (f.getD k 0)*o p x ^ k)=sm f.length (fun k=>o p (f.getD k 0)*o p x ^ k):=h4
      show ∃ q,ip p f x a z=some q∧_
      unfold ip
      cases k with
      | zero =>
        rw [dF (by omega),cF]
        refine ⟨_,rfl,h3,?_⟩
        simp only [sm] at h4
        rw [← h4];grind
      | succ k =>
        have hz:z=(k:Int):=by omega
        subst hz
        have hk:=hf k (by omega)
        have hm:=Nat.mod_lt (a*x) hp.pos
        rw [dT (by omega),cT,Ed hp h3 (by omega),bS,aX 0 (by omega) (by omega),bS,Int.toNat_natCast,Ec hp (by omega),bS,cD (by omega) (by omega),bS]
        refine ⟨_,rfl,⟨k,rfl,by omega,Nat.mod_lt _ hp.pos,?_⟩,by show ((k:Int) - 1+1).toNat < ((k:Int)+1).toNat;omega⟩
        show o p ((a*x % p+f.getD k 0) % p)*o p x ^ k+_=_
        rw [mf,yK,mf,pW,← h4]
        simp only [sm]
        grind)
    (s:=(0,((f.length:Nat):Int) - 1)) ⟨f.length,rfl,Nat.le_refl _,hp.pos,by show o p 0*_+_=_;rw [lk];grind⟩ (by show (((f.length:Nat):Int) - 1+1).toNat < _;omega)
  rw [e,bS]
  exact ⟨y,rfl,h1,h2⟩
theorem Ee (hp:fX p) {m:Nat} {M:List (List Nat)} {x:Nat} (hM:qW p m m M) (hm:m≤10) (hx:x < p) :
    ∃ r,k9 p M x=some r∧r.length=m∧Lt p r∧∀ j,j < m→o p (r.getD j 0)=sm m (fun k=>o p ((M.getD k []).getD j 0)*o p x ^ k):=by
  have key:∀ j,j < m→∃ y,(∀ l,l.length=j→jd p M x j l=some (l++[y]))∧y < p∧o p y=sm m (fun k=>o p ((M.getD k []).getD j 0)*o p x ^ k):=fun j hj=>by
    have e1:cV (fun k2 (st:(List Nat))=>lm M j k2 st) m 0 ([]:List Nat)=some ((List.range m).map fun k=>(M.getD k []).getD j 0):=gk (fun k=>(M.getD k []).getD j 0) (fun k l hk hl=>by
      unfold lm
      rw [hM.some hk,bS,rd hM hk hj,bS,aM (by simp only [List.length_cons,List.length_nil];omega) (by simp only [List.length_cons,List.length_nil];omega),bS])
    have hg:∀ k,k < m→((List.range m).map fun k=>(M.getD k []).getD j 0).getD k 0=(M.getD k []).getD j 0:=fun k hk=>by simp [List.getD_eq_getElem?_getD,hk]
    obtain ⟨y,ey,y1,y2⟩:=Bu hp (f:=(List.range m).map fun k=>(M.getD k []).getD j 0) (x:=x) (fun k hk=>by
      have hk:k < m:=by simpa using hk
      rw [hg k hk];exact hM.lt k hk j hj) (by simp;omega) hx
    refine ⟨y,fun l hl=>?_,y1,?_⟩
    · unfold jd
      rw [hM.len,Nat.sub_zero,e1,bS,ey,bS,aM (by simp only [List.length_cons,List.length_nil];omega) (by simp only [List.length_cons,List.length_nil];omega),bS]
    · rw [y2,List.length_map,List.length_range]
      exact bY fun k hk=>by rw [hg k hk]
  unfold k9
  rw [hM.len,Nat.sub_zero]
  obtain ⟨r,e,h1,h2,h3⟩:=bo (body:=fun k1 (st:(List Nat))=>jd p M x k1 st) (rem:=m) (k:=0) (s:=([]:List Nat))
    (fun k r=>r.length=k∧(∀ j,j < k→r.getD j 0 < p)∧∀ j,j < k→o p (r.getD j 0)=sm m (fun k=>o p ((M.getD k []).getD j 0)*o p x ^ k)) ⟨rfl,fun j hj=>by omega,fun j hj=>by omega⟩ (fun k r _ hk ⟨h1,h2,h3⟩=>by
      obtain ⟨y,ey,y1,y2⟩:=key k (by omega)
      refine ⟨_,ey r h1,by simp [h1],fun j hj=>?_,fun j hj=>?_⟩
      · by_cases g:j < k
        · rw [cy (by omega)];exact h2 j g
        · have:j=k:=by omega
          subst this
          rw [c9 h1.symm];exact y1
      · by_cases g:j < k
        · rw [cy (by omega)];exact h3 j g
        · have:j=k:=by omega
          subst this
          rw [c9 h1.symm];exact y2)
  rw [Nat.zero_add] at h1 h2 h3
  rw [e,bS]
  exact ⟨r,rfl,h1,fun i hi=>h2 i (by omega),h3⟩
/-- the program's rows are the reference's -/
theorem JN (hp:fX p) {m:Nat} {M:List (List Nat)} {x:Nat} (hM:qW p m m M) (hm:m≤10) (hx:x < p):∃ r,fS p M x=some r∧k9 p M x=some r∧r.length=m∧Lt p r∧∀ j,j < m→o p (r.getD j 0)=sm m (fun k=>o p ((M.getD k []).getD j 0)*o p x ^ k):=by
  obtain ⟨r,e,h1,h2,h3⟩:=HC hp hM hm hx
  obtain ⟨r',e',g1,g2,g3⟩:=Ee hp hM hm hx
  have:r'=r:=by
    apply List.ext_getElem?
    intro i
    by_cases g:i < m
    · rw [ix 0 (by omega),ix 0 (by omega),tD (g2 i (by omega)) (h2 i (by omega)) (by rw [g3 i g,h3 i g])]
    · rw [List.getElem?_eq_none (by omega),List.getElem?_eq_none (by omega)]
  exact ⟨r,e,by rw [e',this],h1,h2,h3⟩
end
end Pu

/- Plain laws of chapter 19: the dealers choose their matrices. -/
set_option linter.unusedVariables false
namespace Pu
open Gw Gl Sp
/-- the matrix of a first row and further words -/
def mx (f r:List Nat):List (List Nat):=((jo f r).getD ([],0)).1
theorem Kv {p t:Nat} {f r:List Nat} (ht:t=1 ∨ t=2) (hf:f.length=t+1) (hr:r.length=t*(t+1) / 2) (hp:Lt p f) (hq:Lt p r) :
    lB f r=some (mx f r,0)∧jo f r=some (mx f r,0)∧qW p (t+1) (t+1) (mx f r)∧∀ i,i < t+1→∀ j,j < t+1→((mx f r).getD i []).getD j 0=((mx f r).getD j []).getD i 0:=by
  rcases ht with rfl | rfl
  · match f,hf with
    | [a,b],_=>match r,hr with
      | [c],_ =>
        have e:mx [a,b] [c]=[[a,b],[b,c]]:=by unfold mx;rw [GH];rfl
        have ha:=hp 0 (by simp);have hb:=hp 1 (by simp);have hc:=hq 0 (by simp)
        replace ha:a < p:=ha;replace hb:b < p:=hb;replace hc:c < p:=hc
        rw [e]
        refine ⟨Pe a b c,GH a b c,⟨rfl,fun i hi=>?_,fun i hi j hj=>?_⟩,fun i hi j hj=>?_⟩
        · have:i=0 ∨ i=1:=by omega
          rcases this with rfl | rfl <;> rfl
        · have h1:i=0 ∨ i=1:=by omega
          have h2:j=0 ∨ j=1:=by omega
          rcases h1 with rfl | rfl <;> rcases h2 with rfl | rfl <;> assumption
        · have h1:i=0 ∨ i=1:=by omega
          have h2:j=0 ∨ j=1:=by omega
          rcases h1 with rfl | rfl <;> rcases h2 with rfl | rfl <;> rfl
  · match f,hf with
    | [a,b,c],_=>match r,hr with
      | [d,e,g],_ =>
        have e1:mx [a,b,c] [d,e,g]=[[a,b,c],[b,d,e],[c,e,g]]:=by unfold mx;rw [GI];rfl
        have ha:=hp 0 (by simp);have hb:=hp 1 (by simp);have hc:=hp 2 (by simp);have hd:=hq 0 (by simp);have he:=hq 1 (by simp);have hg:=hq 2 (by simp)
        replace ha:a < p:=ha;replace hb:b < p:=hb;replace hc:c < p:=hc;replace hd:d < p:=hd;replace he:e < p:=he;replace hg:g < p:=hg
        rw [e1]
        refine ⟨Pg a b c d e g,GI a b c d e g,⟨rfl,fun i hi=>?_,fun i hi j hj=>?_⟩,fun i hi j hj=>?_⟩
        · have:i=0 ∨ i=1 ∨ i=2:=by omega
          rcases this with rfl | rfl | rfl <;> rfl
        · have h1:i=0 ∨ i=1 ∨ i=2:=by omega
          have h2:j=0 ∨ j=1 ∨ j=2:=by omega
          rcases h1 with rfl | rfl | rfl <;> rcases h2 with rfl | rfl | rfl <;> assumption
        · have h1:i=0 ∨ i=1 ∨ i=2:=by omega
          have h2:j=0 ∨ j=1 ∨ j=2:=by omega
          rcases h1 with rfl | rfl | rfl <;> rcases h2 with rfl | rfl | rfl <;> rfl
/-- the words for polynomial k -/
def Ay (l:List Nat) (t k:Nat):List Nat:=(l.drop (k*(t*(t+1) / 2))).take (t*(t+1) / 2)
theorem z9 {l:List Nat} {t k m:Nat} (h:m*(t*(t+1) / 2)≤l.length) (hk:k < m):(Ay l t k).length=t*(t+1) / 2:=by
  unfold Ay
  have:(k+1)*(t*(t+1) / 2)≤m*(t*(t+1) / 2):=Nat.mul_le_mul_right _ hk
  rw [Nat.add_mul,Nat.one_mul] at this
  rw [List.length_take,List.length_drop];omega
theorem GK {p:Nat} {l:List Nat} {t k:Nat} (h:Lt p l):Lt p (Ay l t k):=fun i hi=>by
  unfold Ay at *
  rw [List.length_take,List.length_drop] at hi
  rw [List.getD_eq_getElem?_getD,List.getElem?_take,if_pos (by omega),List.getElem?_drop,← List.getD_eq_getElem?_getD]
  exact h _ (by omega)
/-- what the dealers are given -/
structure Qs (p n t:Nat) (q:List (List (List Nat))) (tapes:List (List Nat)):Prop where
  len:q.length=n
  tl:tapes.length=n
  many:∀ d,d < n→(q.getD d []).length≤10∧(q.getD d []).length*(t*(t+1) / 2)≤(tapes.getD d []).length
  ts:∀ d,d < n→(tapes.getD d []).length≤1000∧Lt p (tapes.getD d [])
  w:∀ d,d < n→∀ k,k < (q.getD d []).length→((q.getD d []).getD k []).length=t+1∧Lt p ((q.getD d []).getD k [])
/-- the matrices of dealer d -/
def Sm (q:List (List (List Nat))) (tapes:List (List Nat)) (t d:Nat):List (List (List Nat)):=(List.range (q.getD d []).length).map fun k=>mx ((q.getD d []).getD k []) (Ay (tapes.getD d []) t k)
theorem ze {q:List (List (List Nat))} {tapes:List (List Nat)} {t d k:Nat} (hk:k < (q.getD d []).length):(Sm q tapes t d).getD k []=mx ((q.getD d []).getD k []) (Ay (tapes.getD d []) t k):=by
  unfold Sm
  rw [List.getD_eq_getElem?_getD,List.getElem?_map,List.getElem?_range hk];rfl
theorem Dk {l:List Nat} {a m:Nat} (h:a+m≤l.length) (hl:l.length≤1000):kL ⟨l,((a:Nat):Int)⟩ ((m:Nat):Int)=some ((l.drop a).take m,0,((a+m:Nat):Int)):=by
  unfold kL jg
  simp only
  have e:((a:Nat):Int)+((m:Nat):Int)=((a+m:Nat):Int):=by omega
  rw [dF (by omega),cF,cD (by omega) (by omega),bS,bS,dF (by omega),bS,cF,bk (by omega) (by omega),bS,e,eu (by omega) (by omega) (by omega),bS]
  congr 2
  simp only [Int.toNat_natCast]
  rw [Nat.add_sub_cancel_left]
theorem Jn {t:Nat} (ht:t=1 ∨ t=2):jl ((t:Nat):Int) (((t:Nat):Int)+1)=some ((t*(t+1):Nat):Int)∧wR ((t*(t+1):Nat):Int) (2:Int)=some ((t*(t+1) / 2:Nat):Int):=by
  rcases ht with rfl | rfl <;> exact ⟨rfl,rfl⟩
/-- where the tapes stand -/
structure BR (n:Nat) (T:List aH) (tp:Nat→List Nat) (ps:Nat→Nat):Prop where
  len:T.length=n
  at_:∀ i,i < n→T.getD i ⟨[],0⟩=⟨tp i,((ps i:Nat):Int)⟩
  le:∀ i,i < n→ps i≤(tp i).length∧(tp i).length≤1000
/-- what is left of the tapes -/
def rem (n:Nat) (tp:Nat→List Nat) (ps:Nat→Nat):List (List Nat):=(List.range n).map fun i=>(tp i).drop (ps i)
theorem vq {n i:Nat} {tp:Nat→List Nat} {ps:Nat→Nat} (h:i < n):(rem n tp ps).getD i []=(tp i).drop (ps i):=by
  unfold rem
  rw [List.getD_eq_getElem?_getD,List.getElem?_map,List.getElem?_range h];rfl
/-- one dealer's matrices -/
theorem B0 {p:Nat} {ph:am} {n t i:Nat} (ht:t=1 ∨ t=2) (hn:n≤13) (hT:ph.zs.T=(t:Int)) {tp:Nat→List Nat} {ps:Nat→Nat} (Q:Qs p n t ph.zq (rem n tp ps)) (hi:i < n) (h1:ph.zn.ak.length=n) (h2:ph.zn.ak.getD i ⟨[],0⟩=⟨tp i,((ps i:Nat):Int)⟩) (hle:ps i≤(tp i).length∧(tp i).length≤1000) (h3:ph.zd.S.length=n) (h4:ph.zd.S.getD i []=[]) :
    ∃ T S,gU ((i:Nat):Int) ph=some (T,⟨S,ph.zd.Rows,ph.zd.aN⟩)∧T.length=n∧(∀ j,j≠i→T.getD j ⟨[],0⟩=ph.zn.ak.getD j ⟨[],0⟩)∧T.getD i ⟨[],0⟩=⟨tp i,((ps i+(ph.zq.getD i []).length*(t*(t+1) / 2):Nat):Int)⟩∧S.length=n∧S.getD i []=Sm ph.zq (rem n tp ps) t i∧∀ j,j≠i→S.getD j []=ph.zd.S.getD j []:=by
  obtain ⟨m1,m2⟩:=Q.many i hi
  obtain ⟨t1,t2⟩:=Q.ts i hi
  have hrg:=vq (tp:=tp) (ps:=ps) hi
  unfold gU
  rw [aX [] (by omega) (by rw [Q.len];omega),bS,Int.toNat_natCast,Nat.sub_zero]
  obtain ⟨⟨T,S⟩,e,a1,a2,a3,a4,a5,a6⟩:=bo (body:=fun k1 (st:(List aH) × (List (List (List (List Nat)))))=>eG ((i:Nat):Int) ph (ph.zq.getD i []) k1 st.1 st.2) (rem:=(ph.zq.getD i []).length) (k:=0) (s:=(ph.zn.ak,ph.zd.S))
    (fun k st=>st.1.length=n∧st.1.getD i ⟨[],0⟩=⟨tp i,((ps i+k*(t*(t+1) / 2):Nat):Int)⟩∧(∀ j,j≠i→st.1.getD j ⟨[],0⟩=ph.zn.ak.getD j ⟨[],0⟩)∧st.2.length=n∧st.2.getD i []=(Sm ph.zq (rem n tp ps) t i).take k∧∀ j,j≠i→st.2.getD j []=ph.zd.S.getD j [])
    ⟨h1,by rw [h2,Nat.zero_mul];rfl,fun _ _=>rfl,h3,by rw [h4];rfl,fun _ _=>rfl⟩ (fun k st _ hk ⟨a1,a2,a3,a4,a5,a6⟩=>by
      obtain ⟨T,S⟩:=st
      simp only at a1 a2 a3 a4 a5 a6
      have hkm:k < (ph.zq.getD i []).length:=by omega
      obtain ⟨w1,w2⟩:=Q.w i hi k hkm
      have hr:=z9 (t:=t) m2 hkm
      have hle2:(k+1)*(t*(t+1) / 2)≤(ph.zq.getD i []).length*(t*(t+1) / 2):=Nat.mul_le_mul_right _ hkm
      rw [Nat.add_mul,Nat.one_mul] at hle2
      obtain ⟨e1,_,_,_⟩:=Kv (p:=p) ht w1 hr w2 (GK t2)
      obtain ⟨e2,e3⟩:=Jn ht
      have ei:((i:Nat):Int)+1 - 1=(i:Int):=by omega
      have eT:fL ⟨ph.zn.zw,ph.zn.ah,ph.zn.au,T⟩ (((i:Nat):Int)+1)=some i:=by
        unfold fL
        rw [cD (by omega) (by omega),bS,ei]
        simp only
        rw [aX (⟨[],0⟩:aH) (by omega) (by omega),bS,Int.toNat_natCast]
      have hSm:(Sm ph.zq (rem n tp ps) t i).length=(ph.zq.getD i []).length:=by unfold Sm;simp
      have hSl:(S.getD i []).length=k:=by rw [a5,List.length_take];omega
      have hSk:(Sm ph.zq (rem n tp ps) t i).getD k []=mx ((ph.zq.getD i []).getD k []) (Ay ((rem n tp ps).getD i []) t k):=ze hkm
      have ht2:t≤2:=by omega
      rw [hrg,List.length_drop] at m2
      have et:=Dk (l:=tp i) (a:=ps i+k*(t*(t+1) / 2)) (m:=t*(t+1) / 2) (by omega) (by omega)
      unfold eG
      rw [ix [] hkm,bS,bk (by omega) (by omega),bS,eT,bS,hT,bk (by omega) (by omega),bS,e2,bS,e3,bS,ix (⟨[],0⟩:aH) (by omega),bS,a2,et,bS,bS]
      simp only
      have er:((tp i).drop (ps i+k*(t*(t+1) / 2))).take (t*(t+1) / 2)=Ay ((rem n tp ps).getD i []) t k:=by
        unfold Ay;rw [hrg,List.drop_drop]
      rw [er,e1,bS,aX [] (by omega) (by omega),bS,Int.toNat_natCast]
      simp only
      rw [aM (by rw [hSl];simp only [List.length_cons,List.length_nil];omega) (by rw [hSl];simp only [List.length_cons,List.length_nil];omega),bS,bS]
      refine ⟨_,rfl,by show (T.set i _).length=n;rw [List.length_set];exact a1,?_,fun j hj=>?_,by show (S.set i _).length=n;rw [List.length_set];exact a4,?_,fun j hj=>?_⟩
      · show (T.set i _).getD i _=_
        rw [aL (by omega),if_pos rfl,Nat.add_mul,Nat.one_mul,Nat.add_assoc]
      · show (T.set i _).getD j _=_
        rw [aL (by omega),if_neg (fun e=>hj e.symm)];exact a3 j hj
      · show (S.set i _).getD i _=_
        rw [aL (by omega),if_pos rfl,a5,List.take_add_one,ix [] (by omega),hSk];rfl
      · show (S.set i _).getD j _=_
        rw [aL (by omega),if_neg (fun e=>hj e.symm)];exact a6 j hj)
  rw [Nat.zero_add] at a5 a2
  simp only at a1 a2 a3 a4 a5 a6
  rw [e,bS]
  exact ⟨T,S,rfl,a1,a3,a2,a4,by rw [a5,List.take_of_length_le (by unfold Sm;simp)],a6⟩
/-- all dealers' matrices -/
theorem DD {p:Nat} {ph:am} {n t:Nat} (ht:t=1 ∨ t=2) (hn:n≤13) (hN:ph.zs.N=(n:Int)) (hT:ph.zs.T=(t:Int)) {tp:Nat→List Nat} {ps:Nat→Nat} (Q:Qs p n t ph.zq (rem n tp ps)) (hts:BR n ph.zn.ak tp ps) (h3:ph.zd.S=List.replicate n []) :
    ∃ T S,iP ph=some (T,⟨S,ph.zd.Rows,ph.zd.aN⟩)∧BR n T tp (fun i=>ps i+(ph.zq.getD i []).length*(t*(t+1) / 2))∧S.length=n∧∀ i,i < n→S.getD i []=Sm ph.zq (rem n tp ps) t i:=by
  have hmx:max 0 ph.zs.N.toNat=n:=by rw [hN];simp
  unfold iP dx
  rw [hmx,bT (by omega),bS,Nat.sub_zero]
  obtain ⟨⟨T,S,R,F⟩,e,a1,a2,a8,a3,a4,a5,a6,a7⟩:=bo (body:=fun k1 (st:(List aH) × (List (List (List (List Nat)))) × (List (List (List (List Nat)))) × (List (List (List Nat))))=>bR ph k1 st.1 st.2.1 st.2.2.1 st.2.2.2) (rem:=n) (k:=0) (s:=(ph.zn.ak,ph.zd.S,ph.zd.Rows,ph.zd.aN))
    (fun k st=>st.1.length=n∧(∀ j,k≤j→j < n→st.1.getD j ⟨[],0⟩=⟨tp j,((ps j:Nat):Int)⟩)∧(∀ j,j < k→st.1.getD j ⟨[],0⟩=⟨tp j,((ps j+(ph.zq.getD j []).length*(t*(t+1) / 2):Nat):Int)⟩)∧st.2.1.length=n∧(∀ j,j < k→st.2.1.getD j []=Sm ph.zq (rem n tp ps) t j)∧(∀ j,k≤j→j < n→st.2.1.getD j []=[])∧st.2.2.1=ph.zd.Rows∧st.2.2.2=ph.zd.aN)
    ⟨hts.len,fun j _ hj=>hts.at_ j hj,fun j hj=>by omega,by show ph.zd.S.length=n;rw [h3];simp,fun j hj=>by omega,fun j _ hj=>by show ph.zd.S.getD j []=[];rw [h3,List.getD_eq_getElem?_getD,List.getElem?_replicate,if_pos hj];rfl,rfl,rfl⟩ (fun k st _ hk ⟨a1,a2,a8,a3,a4,a5,a6,a7⟩=>by
      obtain ⟨T,S,R,F⟩:=st
      simp only at a1 a2 a3 a4 a5 a6 a7 a8
      subst a6;subst a7
      have hkn:k < n:=by omega
      obtain ⟨T',S',e',b1,b2,b6,b3,b4,b5⟩:=B0 (ph:=⟨⟨ph.zn.zw,ph.zn.ah,ph.zn.au,T⟩,ph.zs,ph.zq,⟨S,ph.zd.Rows,ph.zd.aN⟩⟩) ht hn hT Q hkn a1 (a2 k (Nat.le_refl k) hkn) (hts.le k hkn) a3 (a5 k (Nat.le_refl k) hkn)
      unfold bR
      simp only
      rw [e',bS]
      refine ⟨_,rfl,b1,fun j hj hjn=>?_,fun j hj=>?_,b3,fun j hj=>?_,fun j hj hjn=>?_,rfl,rfl⟩
      · show T'.getD j _=_
        rw [b2 j (by omega)];exact a2 j (by omega) hjn
      · show T'.getD j _=_
        by_cases g:j=k
        · subst g;exact b6
        · rw [b2 j g];exact a8 j (by omega)
      · show S'.getD j _=_
        by_cases g:j=k
        · subst g;exact b4
        · rw [b5 j g];exact a4 j (by omega)
      · show S'.getD j _=_
        rw [b5 j (by omega)];exact a5 j (by omega) hjn)
  rw [Nat.zero_add] at a4 a8
  simp only at a1 a2 a3 a4 a5 a6 a7 a8
  subst a6;subst a7
  rw [e,bS]
  refine ⟨T,S,rfl,⟨a1,a8,fun i hi=>⟨?_,(hts.le i hi).2⟩⟩,a3,a4⟩
  obtain ⟨_,m2⟩:=Q.many i hi
  rw [vq hi,List.length_drop] at m2
  have:=(hts.le i hi).1
  omega
end Pu

/- Plain laws of chapter 19: rows in one list. -/
set_option linter.unusedVariables false
namespace Pu
open Gw Gl Sp
/-- a loop that appends lists -/
theorem tO {α:Type} {body:Nat→List α→Option (List α)} (v:Nat→List α):∀ {n:Nat},(∀ j l,j < n→l=((List.range j).map v).flatten→body j l=some (l++v j))→cV body n 0 []=some ((List.range n).map v).flatten:=fun {n} h=>by
  obtain ⟨r,e,h2⟩:=bo (body:=body) (fun k l=>l=((List.range k).map v).flatten) (rem:=n) (k:=0) (s:=[]) rfl (fun j l _ hj hl=>by
    refine ⟨_,h j l (by omega) hl,?_⟩
    subst hl
    rw [List.range_succ,List.map_append,List.flatten_append];simp)
  rw [e,h2,Nat.zero_add]
theorem vc {α:Type} {v:Nat→List α} {w:Nat}:∀ {n:Nat},(∀ j,j < n→(v j).length=w)→((List.range n).map v).flatten.length=n*w
  | 0,_=>by simp
  | n+1,h=>by
    rw [List.range_succ,List.map_append,List.flatten_append,List.length_append,vc (fun j hj=>h j (by omega)),Nat.add_mul]
    simp [h n (by omega)]
theorem flat_get {α:Type} {v:Nat→List α} {w:Nat} {d:α}:∀ {n k c:Nat},(∀ j,j < n→(v j).length=w)→k < n→c < w→((List.range n).map v).flatten.getD (k*w+c) d=(v k).getD c d
  | 0,_,_,_,hk,_=>by omega
  | n+1,k,c,h,hk,hc=>by
    have hl:=vc (v:=v) (n:=n) (w:=w) (fun j hj=>h j (by omega))
    rw [List.range_succ,List.map_append,List.flatten_append]
    by_cases g:k < n
    · have hle:(k+1)*w≤n*w:=Nat.mul_le_mul_right _ g
      rw [Nat.add_mul,Nat.one_mul] at hle
      rw [cy (by rw [hl];omega)]
      exact flat_get (fun j hj=>h j (by omega)) g hc
    · have:k=n:=by omega
      subst this
      rw [List.getD_eq_getElem?_getD,List.getElem?_append_right (by rw [hl];omega),hl,Nat.add_sub_cancel_left,List.getD_eq_getElem?_getD]
      simp
theorem ve {p:Nat} {v:Nat→List Nat}:∀ {n:Nat},(∀ j,j < n→Lt p (v j))→Lt p ((List.range n).map v).flatten
  | 0,_=>fun i hi=>by simp at hi
  | n+1,h=>fun i hi=>by
    rw [List.range_succ,List.map_append,List.flatten_append] at hi ⊢
    by_cases g:i < ((List.range n).map v).flatten.length
    · rw [cy g];exact ve (fun j hj=>h j (by omega)) i g
    · rw [List.length_append] at hi
      have e:(List.map v [n]).flatten=v n:=by simp
      rw [e] at hi ⊢
      rw [List.getD_eq_getElem?_getD,List.getElem?_append_right (by omega),← List.getD_eq_getElem?_getD]
      exact h n (by omega) _ (by omega)
/-- a row -/
def Rw (p:Nat) (M:List (List Nat)) (x:Nat):List Nat:=(fS p M x).getD []
theorem pA {p:Nat} [NeZero p] (hp:fX p) {m:Nat} {M:List (List Nat)} {x:Nat} (hM:qW p m m M) (hm:m≤10) (hx:x < p) :
    fS p M x=some (Rw p M x)∧k9 p M x=some (Rw p M x)∧(Rw p M x).length=m∧Lt p (Rw p M x)∧∀ j,j < m→o p ((Rw p M x).getD j 0)=sm m (fun k=>o p ((M.getD k []).getD j 0)*o p x ^ k):=by
  obtain ⟨r,e,e',h1,h2,h3⟩:=JN hp hM hm hx
  have:Rw p M x=r:=by unfold Rw;rw [e];rfl
  rw [this]
  exact ⟨e,e',h1,h2,h3⟩
/-- what dealer d sends to the party at x -/
def rA (p:Nat) (S:List (List (List Nat))) (x:Nat):List Nat:=((List.range S.length).map fun k=>Rw p (S.getD k []) x).flatten
/-- the dealers' matrices stand -/
structure Ss (p n t:Nat) (S:List (List (List (List Nat)))):Prop where
  len:S.length=n
  many:∀ d,d < n→(S.getD d []).length≤10
  mat:∀ d,d < n→∀ k,k < (S.getD d []).length→qW p (t+1) (t+1) ((S.getD d []).getD k [])
theorem rB {p n t d x:Nat} [NeZero p] (hp:fX p) {S:List (List (List (List Nat)))} (s:Ss p n t S) (ht:t≤2) (hd:d < n) (hx:x < p):(rA p (S.getD d []) x).length=(S.getD d []).length*(t+1)∧Lt p (rA p (S.getD d []) x):=by
  unfold rA
  exact ⟨vc (fun k hk=>(pA hp (s.mat d hd k hk) (by omega) hx).2.2.1),ve (fun k hk=>(pA hp (s.mat d hd k hk) (by omega) hx).2.2.2.1)⟩
theorem EY {p n t i:Nat} [NeZero p] (hp:fX p) {ph:am} (hn:n≤13) (ht:t≤2) (hN:ph.zs.N=(n:Int)) (hP:ph.zs.P=p) (s:Ss p n t ph.zd.S) (hi:i < n) {l:List (List (List Nat))} (h1:l.length=n) (h2:l.getD i []=[]) :
    ∃ l',fx ((i:Nat):Int) ph l=some l'∧l'.length=n∧(l'.getD i []).length=n∧(∀ j,j < n→(l'.getD i []).getD j []=rA p (ph.zd.S.getD i []) (j+1))∧∀ j,j≠i→l'.getD j []=l.getD j []:=by
  have hlt:=hp.lt
  have hmx:max 1 (ph.zs.N+1).toNat=n+1:=by rw [hN];omega
  unfold fx
  rw [hmx,bT (by omega),bS,Nat.add_sub_cancel]
  obtain ⟨l',e,j,hj,b1,b2,b3,b4⟩:=bo (body:=fun k1 (st:(List (List (List Nat))))=>gu ((i:Nat):Int) ph k1 st) (rem:=n) (k:=1) (s:=l)
    (fun k l'=>∃ j,k=j+1∧l'.length=n∧(l'.getD i []).length=j∧(∀ q,q < j→(l'.getD i []).getD q []=rA p (ph.zd.S.getD i []) (q+1))∧∀ q,q≠i→l'.getD q []=l.getD q []) ⟨0,rfl,h1,by rw [h2];rfl,fun q hq=>by omega,fun _ _=>rfl⟩ (fun k l' hk1 hk ⟨j,hj,b1,b2,b3,b4⟩=>by
      subst hj
      have hjn:j < n:=by omega
      have hxp:j+1 < p:=by omega
      have hu:uu ((j+1:Nat):Int)=j+1:=by unfold uu;omega
      have hm:=s.many i hi
      unfold gu
      rw [aX [] (by omega) (by rw [s.len];omega),bS,Int.toNat_natCast,bT (by omega),bS,Nat.sub_zero]
      have e1:cV (fun k2 (st:(List Nat))=>gv ph (j+1) (ph.zd.S.getD i []) k2 st) (ph.zd.S.getD i []).length 0 ([]:List Nat)=some (rA p (ph.zd.S.getD i []) (j+1)):=tO (fun k=>Rw p ((ph.zd.S.getD i []).getD k []) (j+1)) (fun k q hk hq=>by
        obtain ⟨r1,_,r2,_,_⟩:=pA hp (s.mat i hi k hk) (by omega) hxp
        have hql:q.length=k*(t+1):=by
          rw [hq];exact vc (fun k' hk'=>(pA hp (s.mat i hi k' (by omega)) (by omega) hxp).2.2.1)
        have:k*(t+1)≤10*3:=Nat.mul_le_mul (by omega) (by omega)
        unfold gv
        rw [ix [] hk,bS,bS,hu,hP,r1,bS,aM (by omega) (by omega),bS])
      rw [e1,bS,aX [] (by omega) (by omega),bS,Int.toNat_natCast,aM (by rw [b2];simp only [List.length_cons,List.length_nil];omega) (by rw [b2];simp only [List.length_cons,List.length_nil];omega),bS,bS]
      refine ⟨_,rfl,j+1,rfl,by rw [List.length_set];exact b1,by rw [aL (by omega),if_pos rfl,List.length_append,b2];rfl,fun q hq=>?_,fun q hq=>by rw [aL (by omega),if_neg (fun e=>hq e.symm)];exact b4 q hq⟩
      rw [aL (by omega),if_pos rfl]
      by_cases g:q < j
      · rw [cy (by omega)];exact b3 q g
      · have:q=j:=by omega
        subst this
        exact c9 b2.symm)
  have:j=n:=by omega
  subst this
  rw [e,bS]
  exact ⟨l',rfl,b1,b2,b3,b4⟩
theorem E2 {p n t:Nat} [NeZero p] (hp:fX p) {ph:am} (hn:n≤13) (ht:t≤2) (hN:ph.zs.N=(n:Int)) (hP:ph.zs.P=p) (s:Ss p n t ph.zd.S) :
    ∃ out,cg ph (List.replicate n [])=some out∧Sq p n 30 out∧∀ i,i < n→∀ j,j < n→(out.getD i []).getD j []=rA p (ph.zd.S.getD i []) (j+1):=by
  have hlt:=hp.lt
  have hmx:max 0 ph.zs.N.toNat=n:=by rw [hN];simp
  unfold cg
  rw [hmx,bT (by omega),bS,Nat.sub_zero]
  obtain ⟨out,e,a1,a2,a3⟩:=bo (body:=fun k1 (st:(List (List (List Nat))))=>cO ph k1 st) (rem:=n) (k:=0) (s:=List.replicate n [])
    (fun k l=>l.length=n∧(∀ i,i < k→(l.getD i []).length=n∧∀ j,j < n→(l.getD i []).getD j []=rA p (ph.zd.S.getD i []) (j+1))∧∀ i,k≤i→i < n→l.getD i []=[]) ⟨by simp,fun i hi=>by omega,fun i _ hi=>by rw [List.getD_eq_getElem?_getD,List.getElem?_replicate,if_pos hi];rfl⟩ (fun k l _ hk ⟨a1,a2,a3⟩=>by
      have hkn:k < n:=by omega
      obtain ⟨l',e',b1,b2,b3,b4⟩:=EY hp hn ht hN hP s hkn a1 (a3 k (Nat.le_refl k) hkn)
      unfold cO
      rw [e',bS]
      refine ⟨_,rfl,b1,fun i hi=>?_,fun i hi hin=>by rw [b4 i (by omega)];exact a3 i (by omega) hin⟩
      by_cases g:i=k
      · subst g;exact ⟨b2,b3⟩
      · rw [b4 i g];exact a2 i (by omega))
  rw [Nat.zero_add] at a2
  rw [e,bS]
  refine ⟨out,rfl,⟨a1,fun i hi=>(a2 i hi).1,fun i hi j hj=>?_⟩,fun i hi=>(a2 i hi).2⟩
  rw [(a2 i hi).2 j hj]
  obtain ⟨c1,c2⟩:=rB hp s ht hi (x:=j+1) (by omega)
  have:=s.many i hi
  have:(ph.zd.S.getD i []).length*(t+1)≤10*3:=Nat.mul_le_mul this (by omega)
  exact ⟨c2,by omega⟩
end Pu

/- Plain laws of chapter 19: the rows that arrive. -/
set_option linter.unusedVariables false
namespace Pu
open Gw Gl Sp
/-- a list in pieces of w words -/
def got (l:List Nat) (w m:Nat):List (List Nat):=(List.range m).map fun k=>(List.range w).map fun c=>l.getD (k*w+c) 0
theorem rZ {l:List Nat} {w m k:Nat} (hk:k < m):(got l w m).getD k []=(List.range w).map fun c=>l.getD (k*w+c) 0:=by
  unfold got
  rw [List.getD_eq_getElem?_getD,List.getElem?_map,List.getElem?_range hk];rfl
theorem pe {l:List Nat} {w m:Nat}:(got l w m).length=m:=by unfold got;simp
theorem A3 {p n t d x:Nat} [NeZero p] (hp:fX p) {S:List (List (List (List Nat)))} (s:Ss p n t S) (ht:t≤2) (hd:d < n) (hx:x < p) {k:Nat} (hk:k < (S.getD d []).length):(got (rA p (S.getD d []) x) (t+1) (S.getD d []).length).getD k []=Rw p ((S.getD d []).getD k []) x:=by
  rw [rZ hk]
  have hl:=(pA hp (s.mat d hd k hk) (by omega) hx).2.2.1
  refine List.ext_getElem (by rw [hl,List.length_map,List.length_range]) fun c h1 h2=>?_
  have hc:c < t+1:=by omega
  have:=flat_get (v:=fun k=>Rw p ((S.getD d []).getD k []) x) (w:=t+1) (d:=0) (n:=(S.getD d []).length) (k:=k) (c:=c) (fun j hj=>(pA hp (s.mat d hd j hj) (by omega) hx).2.2.1) hk hc
  simp only [List.getElem_map,List.getElem_range]
  unfold rA
  rw [this,List.getD_eq_getElem?_getD,List.getElem?_eq_getElem h2];rfl
theorem EU {l:List Nat} {r:List Nat} {w m k:Nat} (h1:r.length=m*w) (h2:∀ c,c < m*w→r.getD c 0=l.getD c 0) (hk:k < m) (hm:m*w≤1000) (hw:w≤1000) (hk2:k≤1000):jl ((k:Nat):Int) ((w:Nat):Int)=some ((k*w:Nat):Int)∧jl (((k:Nat):Int)+1) ((w:Nat):Int)=some (((k+1)*w:Nat):Int)∧oK r ((k*w:Nat):Int) (((k+1)*w:Nat):Int)=some ((List.range w).map fun c=>l.getD (k*w+c) 0):=by
  have hle:(k+1)*w≤m*w:=Nat.mul_le_mul_right _ hk
  have e1:(k+1)*w=k*w+w:=by rw [Nat.add_mul,Nat.one_mul]
  have i1:((k:Nat):Int)*((w:Nat):Int)=((k*w:Nat):Int):=by rw [Int.natCast_mul]
  have i2:(((k:Nat):Int)+1)*((w:Nat):Int)=(((k+1)*w:Nat):Int):=by rw [Int.natCast_mul];rfl
  refine ⟨by rw [gE (by rw [i1];omega) (by rw [i1];omega),i1],by rw [gE (by rw [i2];omega) (by rw [i2];omega),i2],?_⟩
  rw [eu (by omega) (by omega) (by omega)]
  congr 1
  simp only [Int.toNat_natCast]
  refine List.ext_getElem (by simp;omega) fun c c1 c2=>?_
  have hc:c < w:=by simpa using c2
  have h3:=h2 (k*w+c) (by omega)
  rw [List.getD_eq_getElem?_getD,List.getElem?_eq_getElem (by omega)] at h3
  simp only [List.getElem_take,List.getElem_drop,List.getElem_map,List.getElem_range]
  exact h3
/-- party i's rows -/
theorem EZ {n t i:Nat} {ph:am} (hn:n≤13) (ht:t≤2) (hq:ph.zq.length=n) (hm:∀ d,d < n→(ph.zq.getD d []).length≤10) (hi:i < n) {heard:List (List (List Nat))} (h1:heard.length=n) (h2:(heard.getD i []).length=n) (h3:ph.zd.Rows.length=n) (h4:ph.zd.Rows.getD i []=[]) :
    ∃ R,fy ((i:Nat):Int) ph heard ((t+1:Nat):Int)=some ⟨ph.zd.S,R,ph.zd.aN⟩∧R.length=n∧R.getD i []=(List.range n).map (fun d=>got ((heard.getD i []).getD d []) (t+1) (ph.zq.getD d []).length)∧∀ j,j≠i→R.getD j []=ph.zd.Rows.getD j []:=by
  unfold fy
  rw [hq,Nat.sub_zero]
  obtain ⟨R,e,a1,a2,a3⟩:=bo (body:=fun k1 (st:(List (List (List (List Nat)))))=>gw ((i:Nat):Int) ph heard ((t+1:Nat):Int) k1 st) (rem:=n) (k:=0) (s:=ph.zd.Rows)
    (fun d R=>R.length=n∧R.getD i []=(List.range d).map (fun d=>got ((heard.getD i []).getD d []) (t+1) (ph.zq.getD d []).length)∧∀ j,j≠i→R.getD j []=ph.zd.Rows.getD j []) ⟨h3,h4,fun _ _=>rfl⟩ (fun d R _ hd ⟨a1,a2,a3⟩=>by
      have hdn:d < n:=by omega
      have hmd:=hm d hdn
      have hw:(ph.zq.getD d []).length*(t+1)≤10*3:=Nat.mul_le_mul hmd (by omega)
      have i1:(((ph.zq.getD d []).length:Nat):Int)*((t+1:Nat):Int)=(((ph.zq.getD d []).length*(t+1):Nat):Int):=by rw [Int.natCast_mul]
      obtain ⟨r,er,r1,r2⟩:=nk (l:=(heard.getD i []).getD d []) (m:=(ph.zq.getD d []).length*(t+1)) (by omega)
      have e1:cV (fun k2 (st:(List (List Nat)))=>gx ((t+1:Nat):Int) r k2 st) (ph.zq.getD d []).length 0 ([]:List (List Nat))=some (got ((heard.getD i []).getD d []) (t+1) (ph.zq.getD d []).length):=gk (fun k=>(List.range (t+1)).map fun c=>((heard.getD i []).getD d []).getD (k*(t+1)+c) 0) (fun k l hk hl=>by
        obtain ⟨c1,c2,c3⟩:=EU (k:=k) r1 r2 hk (by omega) (by omega) (by omega)
        unfold gx
        rw [c1,bS,bk (by omega) (by omega),bS,c2,bS,c3,bS,aM (by simp only [List.length_cons,List.length_nil];omega) (by simp only [List.length_cons,List.length_nil];omega),bS])
      have hRl:(R.getD i []).length=d:=by rw [a2];simp
      unfold gw
      rw [ix [] (by omega),bS,aX [] (by omega) (by omega),bS,Int.toNat_natCast,ix [] (by omega),bS,gE (by rw [i1];omega) (by rw [i1];omega),i1,bS,er,bS,Nat.sub_zero,e1,bS,aX [] (by omega) (by omega),bS,Int.toNat_natCast,aM (by rw [hRl];simp only [List.length_cons,List.length_nil];omega) (by rw [hRl];simp only [List.length_cons,List.length_nil];omega),bS,bS]
      refine ⟨_,rfl,by rw [List.length_set];exact a1,?_,fun j hj=>by rw [aL (by omega),if_neg (fun e=>hj e.symm)];exact a3 j hj⟩
      rw [aL (by omega),if_pos rfl,a2,List.range_succ,List.map_append];rfl)
  rw [Nat.zero_add] at a2
  rw [e,bS]
  exact ⟨R,rfl,a1,a2,a3⟩
theorem E4 {n t:Nat} {ph:am} (hn:n≤13) (ht:t≤2) (hN:ph.zs.N=(n:Int)) (hq:ph.zq.length=n) (hm:∀ d,d < n→(ph.zq.getD d []).length≤10) {heard:List (List (List Nat))} (h1:heard.length=n) (h2:∀ i,i < n→(heard.getD i []).length=n) (h3:ph.zd.Rows=List.replicate n []) :
    ∃ R,ci ph heard ((t+1:Nat):Int)=some ⟨ph.zd.S,R,ph.zd.aN⟩∧R.length=n∧∀ i,i < n→R.getD i []=(List.range n).map (fun d=>got ((heard.getD i []).getD d []) (t+1) (ph.zq.getD d []).length):=by
  have hmx:max 0 ph.zs.N.toNat=n:=by rw [hN];simp
  unfold ci
  rw [hmx,bT (by omega),bS,Nat.sub_zero]
  obtain ⟨⟨S,R,F⟩,e,a1,a2,a3,a4,a5⟩:=bo (body:=fun k1 (st:(List (List (List (List Nat)))) × (List (List (List (List Nat)))) × (List (List (List Nat))))=>bH ph heard ((t+1:Nat):Int) k1 st.1 st.2.1 st.2.2) (rem:=n) (k:=0) (s:=(ph.zd.S,ph.zd.Rows,ph.zd.aN))
    (fun k st=>st.1=ph.zd.S∧st.2.2=ph.zd.aN∧st.2.1.length=n∧(∀ i,i < k→st.2.1.getD i []=(List.range n).map (fun d=>got ((heard.getD i []).getD d []) (t+1) (ph.zq.getD d []).length))∧∀ i,k≤i→i < n→st.2.1.getD i []=[])
    ⟨rfl,rfl,by show ph.zd.Rows.length=n;rw [h3];simp,fun i hi=>by omega,fun i _ hi=>by show ph.zd.Rows.getD i []=[];rw [h3,List.getD_eq_getElem?_getD,List.getElem?_replicate,if_pos hi];rfl⟩ (fun k st _ hk ⟨a1,a2,a3,a4,a5⟩=>by
      obtain ⟨S,R,F⟩:=st
      simp only at a1 a2 a3 a4 a5
      subst a1;subst a2
      have hkn:k < n:=by omega
      obtain ⟨R',e',b1,b2,b3⟩:=EZ (ph:=⟨ph.zn,ph.zs,ph.zq,⟨ph.zd.S,R,ph.zd.aN⟩⟩) hn ht hq hm hkn h1 (h2 k hkn) a3 (a5 k (Nat.le_refl k) hkn)
      unfold bH
      simp only
      rw [e',bS]
      refine ⟨_,rfl,rfl,rfl,b1,fun i hi=>?_,fun i hi hin=>?_⟩
      · show R'.getD i []=_
        by_cases g:i=k
        · subst g;exact b2
        · rw [b3 i g];exact a4 i (by omega)
      · show R'.getD i []=_
        rw [b3 i (by omega)];exact a5 i (by omega) hin)
  rw [Nat.zero_add] at a4
  simp only at a1 a2 a3 a4 a5
  subst a1;subst a2
  rw [e,bS]
  exact ⟨R,rfl,a3,a4⟩
end Pu

/- Plain laws of chapter 19: the first round. -/
set_option linter.unusedVariables false
namespace Pu
open Gw Gl Sp
/-- without deviations messages arrive as they are -/
theorem wx {w:ae} {n t L:Nat} (s:Sc w n t) {out all:List (List (List Nat))} {round:Int} (ho:Sq w.S.P n L out) (hd:w.aa=[]) (e:bO w round out=some all):all=out:=by
  have h13:=s.n13
  unfold bO at e
  rw [ho.len,ck (by omega) (by omega) (by omega) (by omega),bS,Nat.sub_zero,Int.toNat_natCast] at e
  obtain ⟨l3,e3,h1,h2⟩:=bo (body:=fun k1 (st:(List (List (List Nat))))=>dD out k1 st) (rem:=n) (k:=0) (s:=List.replicate n [])
    (fun k l=>l.length=n∧∀ i,i < k→l.getD i []=out.getD i []) ⟨by simp,fun i hi=>by omega⟩ (fun k l _ hk ⟨h1,h2⟩=>by
      have hk':k < n:=by omega
      unfold dD
      rw [ho.s1 hk',bS,ri (by rw [ho.row k hk'];omega),bS,ix [] (by omega),bS,bS]
      refine ⟨_,rfl,by rw [List.length_set];exact h1,fun i hi=>?_⟩
      rw [aL (by omega)]
      by_cases g:k=i
      · rw [if_pos g,g]
      · rw [if_neg g];exact h2 i (by omega))
  have hl3:l3=out:=by
    apply List.ext_getElem?
    intro i
    by_cases g:i < n
    · rw [ix [] (by omega),ix [] (by rw [ho.len];omega),h2 i (by omega)]
    · rw [List.getElem?_eq_none (by omega),List.getElem?_eq_none (by rw [ho.len];omega)]
  rw [e3,bS,hd] at e
  rw [← hl3]
  exact (Option.some.inj e).symm
/-- the first round: rows are sent and cut -/
theorem yp {n t:Nat} {ph:am} [NeZero ph.zn.zw.S.P] (s:Sc ph.zn.zw n t) (ht:t≤2) (hz:ph.zs=ph.zn.zw.S) (S:Ss ph.zn.zw.S.P n t ph.zd.S) (hq:ph.zq.length=n) (hm:∀ d,d < n→(ph.zq.getD d []).length=(ph.zd.S.getD d []).length) (h3:ph.zd.Rows=List.replicate n []) (hv:ph.zn.au.length=n) (hb:∀ j,j < n→(ph.zn.au.getD j []).length≤500) (hr:0≤ph.zn.ah∧ph.zn.ah≤1000) :
    ∃ all views R,fW ph=some (ph.zn.ah+1,views,⟨ph.zd.S,R,ph.zd.aN⟩)∧Sq ph.zn.zw.S.P n 30 all∧(∀ d,d < n→((((d:Nat):Int)+1) ∉ ph.zn.zw.af ∨ ph.zn.zw.aa=[])→∀ i,i < n→(all.getD d []).getD i []=rA ph.zn.zw.S.P (ph.zd.S.getD d []) (i+1)) ∧
      views.length=n∧(∀ j,j < n→views.getD j []=ph.zn.au.getD j []++AV ph.zn.ah all j n)∧R.length=n∧(∀ i,i < n→(R.getD i []=(List.range n).map (fun d=>got ((all.getD d []).getD i []) (t+1) (ph.zd.S.getD d []).length))) ∧
      ∃ out,Sq ph.zn.zw.S.P n 30 out∧(∀ i,i < n→∀ j,j < n→(out.getD i []).getD j []=rA ph.zn.zw.S.P (ph.zd.S.getD i []) (j+1))∧bO ph.zn.zw ph.zn.ah out=some all:=by
  have hp:=s.sup
  have h13:=s.n13
  have hN:ph.zs.N=(n:Int):=by rw [hz];exact s.N
  have hT:ph.zs.T=(t:Int):=by rw [hz];exact s.T
  have et:((t:Nat):Int)+1=((t+1:Nat):Int):=by omega
  obtain ⟨out,eo,o1,o2⟩:=E2 hp h13 ht hN (by rw [hz]) S
  obtain ⟨all,inn,views,ea,es,⟨q1,_⟩,q2,i1,i2,v1,v2⟩:=Ab s o1 (by omega) hv hb hr
  obtain ⟨R,eR,r1,r2⟩:=E4 (ph:=⟨⟨ph.zn.zw,ph.zn.ah+1,views,ph.zn.ak⟩,ph.zs,ph.zq,ph.zd⟩) h13 ht hN hq (fun d hd=>by rw [hm d hd];exact S.many d hd) i1 (fun i hi=>(i2 i hi).1) h3
  refine ⟨all,views,R,?_,q1,fun d hd hc i hi=>?_,v1,v2,r1,fun i hi=>?_,out,o1,o2,ea⟩
  · unfold fW
    rw [hT,bk (by omega) (by omega),bS,et,hN,ck (by omega) (by omega) (by omega) (by omega),bS,Int.toNat_natCast,eo,bS,es,bS]
    simp only
    rw [eR,bS]
  · rw [← o2 d hd i hi]
    rcases hc with hc | hc
    · rw [q2 d hd hc]
    · rw [wx s o1 hc ea]
  · rw [r2 i hi]
    refine List.map_congr_left fun d hd=>?_
    have hd:d < n:=by simpa using hd
    simp only
    rw [(i2 i hi).2 d hd,hm d hd]
end Pu

/- Plain laws of chapter 19: values of rows. -/
set_option linter.unusedVariables false
namespace Pu
open Gw Gl Sp
theorem BC {α:Type} {body:Nat→List α→Option (List α)} (v:Nat→α) {l:List α}:∀ {n:Nat},(∀ j l',j < n→l'=l++(List.range j).map v→body j l'=some (l'++[v j]))→cV body n 0 l=some (l++(List.range n).map v):=fun {n} h=>by
  obtain ⟨r,e,h2⟩:=bo (body:=body) (fun k r=>r=l++(List.range k).map v) (rem:=n) (k:=0) (s:=l) (by simp) (fun j r _ hj hr=>by
    refine ⟨_,h j r (by omega) hr,?_⟩
    rw [hr,List.range_succ,List.map_append,List.append_assoc];rfl)
  rw [e,h2,Nat.zero_add]
/-- the value of a row -/
def px (p:Nat) (f:List Nat) (x:Nat):Nat:=(iG p f x).getD 0
theorem iU {p:Nat} [NeZero p] (hp:fX p) {f:List Nat} {x:Nat} (hf:Lt p f) (hx:x < p) (hl:f.length≤1000):iG p f x=some (px p f x)∧px p f x < p∧o p (px p f x)=cc (P p f) (o p x):=by
  obtain ⟨y,e,h1,h2⟩:=zH hp hf hx hl
  have:px p f x=y:=by unfold px;rw [e];rfl
  rw [this];exact ⟨e,h1,h2⟩
/-- the rows of all parties -/
structure Rr (p n t:Nat) (m:Nat→Nat) (R:List (List (List (List Nat)))):Prop where
  len:R.length=n
  row:∀ i,i < n→(R.getD i []).length=n
  many:∀ i,i < n→∀ d,d < n→((R.getD i []).getD d []).length=m d
  m2:∀ d,d < n→m d≤10
  w:∀ i,i < n→∀ d,d < n→∀ k,k < m d→(((R.getD i []).getD d []).getD k []).length=t+1∧Lt p (((R.getD i []).getD d []).getD k [])
/-- a party's values at a point -/
def nr (p n:Nat) (m:Nat→Nat) (Ri:List (List (List Nat))) (x:Nat):List Nat:=((List.range n).map fun d=>(List.range (m d)).map fun k=>px p ((Ri.getD d []).getD k []) x).flatten
theorem xo {p:Nat} {m:Nat→Nat} {Ri:List (List (List Nat))} {x:Nat}:∀ {n:Nat},(∀ d,d < n→m d≤10)→(nr p n m Ri x).length≤10*n
  | 0,_=>by simp [nr]
  | n+1,h=>by
    have:=xo (n:=n) (p:=p) (m:=m) (Ri:=Ri) (x:=x) (fun d hd=>h d (show d < n+1 by omega))
    unfold nr at this ⊢
    have h2:=h n (by omega)
    rw [List.range_succ,List.map_append,List.flatten_append,List.length_append]
    exact Nat.le_trans (Nat.add_le_add this (show _≤10 by simp;exact h2)) (by omega)
theorem wF {p n t i x:Nat} [NeZero p] (hp:fX p) {ph:am} {m:Nat→Nat} (hn:n≤13) (ht:t≤2) (hP:ph.zs.P=p) (r:Rr p n t m ph.zd.Rows) (hi:i < n) (hx:x < p) (hx2:x≤1000):gy ph ((i:Nat):Int) ((x:Nat):Int)=some (nr p n m (ph.zd.Rows.getD i []) x):=by
  have hlt:=hp.lt
  have hu:uu ((x:Nat):Int)=x:=by unfold uu;omega
  unfold gy
  rw [aX [] (by omega) (by rw [r.len];omega),bS,Int.toNat_natCast,r.row i hi,bT (by omega),bS,Nat.sub_zero]
  have e:cV (fun k1 (st:(List Nat))=>jw ph ((x:Nat):Int) (ph.zd.Rows.getD i []) k1 st) n 0 ([]:List Nat)=some (nr p n m (ph.zd.Rows.getD i []) x):=tO (fun d=>(List.range (m d)).map fun k=>px p (((ph.zd.Rows.getD i []).getD d []).getD k []) x) (fun d l hd hl=>by
    have hll:l.length≤10*d:=by rw [hl];exact xo (p:=p) (Ri:=ph.zd.Rows.getD i []) (x:=x) (fun d' hd'=>r.m2 d' (by omega))
    have hm:=r.m2 d hd
    unfold jw
    rw [ix [] (by rw [r.row i hi];exact hd),bS,r.many i hi d hd,Nat.sub_zero,BC (fun k=>px p (((ph.zd.Rows.getD i []).getD d []).getD k []) x) (fun k l' hk hl'=>by
      obtain ⟨w1,w2⟩:=r.w i hi d hd k hk
      have hl2:l'.length≤1000:=by rw [hl',List.length_append,List.length_map,List.length_range];omega
      unfold mj
      rw [ix [] (by rw [r.many i hi d hd];exact hk),bS,bS,hu,hP,(iU hp w2 hx (by omega)).1,bS,aM (by simp only [List.length_cons,List.length_nil];omega) (by simp only [List.length_cons,List.length_nil];omega),bS]),bS])
  rw [e,bS]
end Pu
