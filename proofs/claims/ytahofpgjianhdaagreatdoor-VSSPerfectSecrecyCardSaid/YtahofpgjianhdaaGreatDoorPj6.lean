/- Plain laws of chapter 19: the public rows, objections. -/
import Derived.Test.YtahofpgjianhdaaGreatDoorPj5
set_option linter.unusedVariables false
namespace Pu
open Gw Gl Sp
theorem rgS_flatF {α:Type} {body:Nat→List α→Option (List α)} (v:Nat→List α) {l:List α}:∀ {n:Nat},(∀ j l',j < n→l'=l++((List.range j).map v).flatten→body j l'=some (l'++v j))→rgS body n 0 l=some (l++((List.range n).map v).flatten):=fun {n} h=>by
  obtain ⟨r,e,h2⟩:=rgS_inv (body:=body) (fun k r=>r=l++((List.range k).map v).flatten) (rem:=n) (k:=0) (s:=l) (by simp) (fun j r _ hj hr=>by
    refine ⟨_,h j r (by omega) hr,?_⟩
    rw [hr,List.range_succ,List.map_append,List.flatten_append,List.append_assoc];simp)
  rw [e,h2,Nat.zero_add]
theorem flat_split {α:Type} {v:Nat→List α}:∀ {n a:Nat},a < n→∃ rest,((List.range n).map v).flatten=((List.range a).map v).flatten++(v a++rest)
  | 0,a,h=>by omega
  | n+1,a,h=>by
    by_cases g:a=n
    · subst g;exact ⟨[],by rw [List.range_succ,List.map_append,List.flatten_append];simp⟩
    · obtain ⟨rest,e⟩:=flat_split (v:=v) (n:=n) (a:=a) (by omega)
      exact ⟨rest++v n,by rw [List.range_succ,List.map_append,List.flatten_append,e];simp⟩
theorem got_app {l r:List Nat} {w m:Nat} (h:l.length=m*w):got (l++r) w m=got l w m:=by
  unfold got
  refine List.map_congr_left fun k hk=>List.map_congr_left fun c hc=>?_
  have hk:k < m:=by simpa using hk
  have hc:c < w:=by simpa using hc
  have:(k+1)*w≤m*w:=Nat.mul_le_mul_right _ hk
  rw [Nat.add_mul,Nat.one_mul] at this
  exact getD_app_l (by omega)
/-- the accusers of dealer d before a -/
def cnt (f:Nat→Bool) (a:Nat):Nat:=((List.range a).filter f).length
theorem cnt_succ {f:Nat→Bool} {a:Nat}:cnt f (a+1)=cnt f a+if f a then 1 else 0:=by
  unfold cnt
  rw [List.range_succ,List.filter_append,List.length_append]
  cases h:f a <;> simp [h]
theorem cnt_le {f:Nat→Bool} {a:Nat}:cnt f a≤a:=by
  unfold cnt
  have:=List.length_filter_le f (List.range a)
  rw [List.length_range] at this;exact this
/-- who accuses dealer d -/
def ac (acc:List (List Bool)) (d i:Nat):Bool:=(acc.getD d []).getD i false
/-- the rows that dealer d tells -/
def say2 (p n:Nat) (S:List (List (List Nat))) (f:Nat→Bool):List Nat:=((List.range n).map fun i=>if f i then sent p S (i+1) else []).flatten
/-- what is heard of them -/
def tld (l:List Nat) (f:Nat→Bool) (t m a:Nat):List (List Nat):=if f a then got (l.drop (cnt f a*(m*(t+1)))) (t+1) m else []
/-- the public rows stand -/
structure Td (p n t:Nat) (m:Nat→Nat) (acc:List (List Bool)) (told:List (List (List (List Nat)))):Prop where
  len:told.length=n
  row:∀ d,d < n→(told.getD d []).length=n
  no:∀ d,d < n→∀ a,a < n→ac acc d a=false→(told.getD d []).getD a []=[]
  many:∀ d,d < n→∀ a,a < n→ac acc d a=true→((told.getD d []).getD a []).length=m d
  w:∀ d,d < n→∀ a,a < n→ac acc d a=true→∀ k,k < m d→(((told.getD d []).getD a []).getD k []).length=t+1∧Lt p (((told.getD d []).getD a []).getD k [])
theorem tell4_ok {p n t d:Nat} {c:T_vss_court} {r7:(List (List Nat)) × Int × (List (List T_api_Event))} {l9:List (List (List (List Nat)))} (cs:Cs p n t c) (hd:d < n) {x11:List Bool} (hx:x11.length=n) {l:List Nat} (hl:l.length≤100) :
    ∃ l' rows,rgS (fun k5 (st:(List Nat) × (List (List (List Nat))))=>vss_court_tell_L4 c r7 (((t+1:Nat):Int)) l9 d x11 k5 st.1 st.2) n 0 (l,List.replicate n [])=some (l',rows)∧rows=(List.range n).map (tld l (fun i=>x11.getD i false) t (c.zd.S.getD d []).length):=by
  have hn:=cs.n7
  have ht:=cs.t2
  have hm:=cs.S.many d hd
  generalize hf:(fun i=>x11.getD i false)=f
  generalize hmm:(c.zd.S.getD d []).length=m at *
  obtain ⟨⟨l',rows⟩,e,g1,g2,g3,g4⟩:=rgS_inv (body:=fun k5 (st:(List Nat) × (List (List (List Nat))))=>vss_court_tell_L4 c r7 (((t+1:Nat):Int)) l9 d x11 k5 st.1 st.2) (rem:=n) (k:=0) (s:=(l,List.replicate n []))
    (fun k st=>st.1=l.drop (cnt f k*(m*(t+1)))∧st.2.length=n∧(∀ a,a < k→st.2.getD a []=tld l f t m a)∧∀ a,k≤a→a < n→st.2.getD a []=[])
    ⟨by simp [cnt],by simp,fun a ha=>by omega,fun a _ ha=>by show (List.replicate n []).getD a []=[];rw [List.getD_eq_getElem?_getD,List.getElem?_replicate,if_pos ha];rfl⟩ (fun k st _ hk ⟨g1,g2,g3,g4⟩=>by
      obtain ⟨l0,rows⟩:=st
      simp only at g1 g2 g3 g4
      have hkn:k < n:=by omega
      have hl0:l0.length≤100:=by rw [g1,List.length_drop];omega
      have hfk:x11.getD k false=f k:=by rw [← hf]
      unfold vss_court_tell_L4
      rw [ix false (by omega),bS,hfk]
      cases hb:f k
      · rw [cF]
        refine ⟨_,rfl,by show l0=_;rw [cnt_succ,hb,g1];rfl,g2,fun a ha=>?_,fun a ha han=>g4 a (by omega) han⟩
        by_cases ga:a=k
        · subst ga
          show rows.getD a []=_
          rw [g4 a (Nat.le_refl a) hkn];unfold tld;rw [hb];rfl
        · exact g3 a (by omega)
      · unfold vss_court_polys
        simp only
        rw [cT,idx_getD [] (by omega) (by rw [cs.S.len];omega),bS,bS]
        simp only [Int.toNat_natCast]
        rw [hmm]
        have hmx:max 0 m=m:=by simp
        rw [hmx,ckN_some (by omega),bS,Nat.sub_zero]
        obtain ⟨⟨l2,r2⟩,e2,q1,q2⟩:=rgS_inv (body:=fun k6 (st:(List Nat) × (List (List (List Nat))))=>vss_court_tell_L5 (((t+1:Nat):Int)) k k6 st.1 st.2) (rem:=m) (k:=0) (s:=(l0,rows))
          (fun q st=>st.1=l0.drop (q*(t+1))∧st.2=rows.set k (got l0 (t+1) q)) ⟨by simp,by
            show rows=rows.set k []
            have:=set_getD_self (l:=rows) (k:=k) (d:=[]) (by omega)
            rw [g4 k (Nat.le_refl k) hkn] at this
            exact this.symm⟩ (fun q st _ hq ⟨q1,q2⟩=>by
            obtain ⟨l2,r2⟩:=st
            simp only at q1 q2
            subst q1;subst q2
            unfold vss_court_tell_L5
            rw [ix [] (by rw [List.length_set];omega),bS,takeh_ok (by rw [List.length_drop];omega) (by omega),bS,getD_set (by omega),if_pos rfl]
            simp only
            rw [appO_some (by rw [got_len];simp only [List.length_cons,List.length_nil];omega) (by rw [got_len];simp only [List.length_cons,List.length_nil];omega),bS,bS]
            refine ⟨_,rfl,?_,?_⟩
            · show (l0.drop _).drop _=_
              rw [List.drop_drop,Nat.add_mul,Nat.one_mul]
            · show (rows.set k _).set k (got _ _ q++[_])=rows.set k (got _ _ (q+1))
              rw [List.set_set]
              rw [got_succ])
        rw [Nat.zero_add] at q1 q2
        simp only at q1 q2
        rw [e2,bS]
        refine ⟨_,rfl,?_,?_,fun a ha=>?_,fun a ha han=>?_⟩
        · show l2=_
          rw [q1,g1,List.drop_drop,cnt_succ,hb,if_pos rfl,Nat.add_mul,Nat.one_mul]
        · show r2.length=n
          rw [q2,List.length_set];exact g2
        · show r2.getD a []=_
          rw [q2,getD_set (by omega)]
          by_cases ga:k=a
          · rw [if_pos ga,← ga];unfold tld;rw [hb,if_pos rfl,g1]
          · rw [if_neg ga];exact g3 a (by omega)
        · show r2.getD a []=_
          rw [q2,getD_set (by omega),if_neg (by omega)];exact g4 a (by omega) han)
  rw [Nat.zero_add] at g3
  simp only at g2 g3
  refine ⟨l',rows,e,?_⟩
  refine List.ext_getElem? fun i=>?_
  by_cases g:i < n
  · rw [ix [] (by omega),g3 i g,List.getElem?_map,List.getElem?_range g];rfl
  · rw [List.getElem?_eq_none (by omega),List.getElem?_eq_none (by simp;omega)]
section
variable {p:Nat} [NeZero p] {n t:Nat}
theorem say2_ok (hp:Sup p) {S:List (List (List (List Nat)))} (s:Ss p n t S) (ht:t≤2) (hn:n≤7) (hnp:n < p) {d:Nat} (hd:d < n) {f:Nat→Bool}:Lt p (say2 p n (S.getD d []) f)∧(say2 p n (S.getD d []) f).length≤42:=by
  refine ⟨flat_lt fun i hi=>?_,?_⟩
  · split
    · exact (sent_len hp s ht hd (by omega)).2
    · intro k hk;simp at hk
  · have:=flat_le (n:=n) (w:=6) (v:=fun i=>if f i then sent p (S.getD d []) (i+1) else []) (fun i hi=>by
      split
      · rw [(sent_len hp s ht hd (by omega)).1]
        exact Nat.le_trans (Nat.mul_le_mul (s.many d hd) (show t+1≤3 by omega)) (by decide)
      · simp)
    unfold say2
    omega
/-- the pieces of what an honest dealer tells -/
theorem tld_say (hp:Sup p) {S:List (List (List (List Nat)))} (s:Ss p n t S) (ht:t≤2) (hnp:n < p) {d:Nat} (hd:d < n) {f:Nat→Bool} {a k:Nat} (ha:a < n) (hf:f a=true) (hk:k < (S.getD d []).length):(tld (say2 p n (S.getD d []) f) f t (S.getD d []).length a).getD k []=Rw p ((S.getD d []).getD k []) (a+1):=by
  have hpre:∀ b,b≤n→((List.range b).map fun i=>if f i then sent p (S.getD d []) (i+1) else []).flatten.length=cnt f b*((S.getD d []).length*(t+1)):=by
    intro b
    induction b with
    | zero=>intro _;simp [cnt]
    | succ b ih =>
      intro hb
      rw [List.range_succ,List.map_append,List.flatten_append,List.length_append,ih (by omega),cnt_succ]
      cases hfb:f b
      · simp [hfb]
      · simp only [List.map_cons,List.map_nil,hfb,if_true,List.flatten_cons,List.flatten_nil,List.append_nil]
        rw [(sent_len hp s ht hd (by omega)).1,Nat.add_mul,Nat.one_mul]
  obtain ⟨rest,e⟩:=flat_split (v:=fun i=>if f i then sent p (S.getD d []) (i+1) else []) ha
  unfold tld
  rw [if_pos hf]
  have e2:(say2 p n (S.getD d []) f).drop (cnt f a*((S.getD d []).length*(t+1)))=sent p (S.getD d []) (a+1)++rest:=by
    unfold say2
    rw [e,← hpre a (by omega),List.drop_left]
    simp only [hf,if_true]
  rw [e2,got_app (sent_len hp s ht hd (by omega)).1]
  exact got_sent hp s ht hd (by omega) hk
theorem tell_ok {c:T_vss_court} (cs:Cs p n t c) (ha:Ac n c.zaccuses) (h0:c.ztold=[]) {B:Nat} (hv:VB n B c.zn.zviews) (hB:B≤500) (hr:0≤c.zn.zround∧c.zn.zround≤1000) :
    ∃ (told:List (List (List (List Nat)))) (views:List (List T_api_Event)),vss_court_tell c=some (c.zn.zround+1,views,told)∧Td p n t (fun d=>(c.zd.S.getD d []).length) c.zaccuses told ∧
      (∀ d,d < n→Hn c.zn.zw d→∀ a,a < n→ac c.zaccuses d a=true→∀ k,k < (c.zd.S.getD d []).length→((told.getD d []).getD a []).getD k []=Rw p ((c.zd.S.getD d []).getD k []) (a+1))∧VB n (B+n) views ∧
      (c.zn.zw.Deviations=[]→(∀ d,d < n→∀ a,a < n→ac c.zaccuses d a=false)→Zv n c.zn.zviews→Zv n views) ∧
      ∃ h,adversary_ApplyToBroadcasts c.zn.zw c.zn.zround ((List.range n).map fun d=>say2 p n (c.zd.S.getD d []) (ac c.zaccuses d))=some h∧(∀ d,d < n→∀ a,a < n→(told.getD d []).getD a []=tld (h.getD d []) (ac c.zaccuses d) t (c.zd.S.getD d []).length a)∧∀ j,j < n→views.getD j []=c.zn.zviews.getD j []++evB c.zn.zround h j n:=by
  have hp:Sup p:=by rw [← cs.pw];exact cs.sc.sup
  have hlt:=hp.lt
  have hn:=cs.n7
  have ht:=cs.t2
  have hRl:c.zd.Rows.length=n:=cs.R.len
  have hmx:max 0 ((n:Nat):Int).toNat=n:=by simp
  have e1:rgS (fun k1 (st:(List (List Nat)))=>vss_court_tell_L0 c k1 st) n 0 ([]:List (List Nat))=some ((List.range n).map fun d=>say2 p n (c.zd.S.getD d []) (ac c.zaccuses d)):=rgS_tab' _ (fun d l hd hl=>by
    have hm:=cs.S.many d hd
    unfold vss_court_tell_L0
    rw [ix [] (by rw [ha.1];exact hd),bS,ha.2 d hd,Nat.sub_zero]
    have e2:rgS (fun k2 (st:(List Nat))=>vss_court_tell_L1 c d (c.zaccuses.getD d []) k2 st) n 0 ([]:List Nat)=some (say2 p n (c.zd.S.getD d []) (ac c.zaccuses d)):=rgS_flat (fun i=>if ac c.zaccuses d i then sent p (c.zd.S.getD d []) (i+1) else []) (fun i l' hi hl'=>by
      have hll:l'.length≤i*6:=by
        rw [hl']
        refine flat_le fun j hj=>?_
        split
        · rw [(sent_len hp cs.S ht hd (by omega)).1]
          exact Nat.le_trans (Nat.mul_le_mul hm (show t+1≤3 by omega)) (by decide)
        · simp
      unfold vss_court_tell_L1
      rw [ix false (by rw [ha.2 d hd];exact hi),bS]
      show (bif ac c.zaccuses d i then _ else _)=_
      cases hb:ac c.zaccuses d i
      · rw [cF,if_neg (by decide),List.append_nil]
      · rw [cT,if_pos rfl,ix [] (by rw [cs.S.len];exact hd),bS,Nat.sub_zero,rgS_flatF (fun k=>Rw p ((c.zd.S.getD d []).getD k []) (i+1)) (fun k l2 hk hl2=>by
          obtain ⟨r1,_,r2,_,_⟩:=Rw_ok hp (cs.S.mat d hd k hk) (by omega) (show i+1 < p by omega)
          have hl3:l2.length≤l'.length+k*3:=by
            rw [hl2,List.length_append]
            have:=flat_le (n:=k) (w:=3) (v:=fun k=>Rw p ((c.zd.S.getD d []).getD k []) (i+1)) (fun j hj=>by
              rw [(Rw_ok hp (cs.S.mat d hd j (by omega)) (by omega) (show i+1 < p by omega)).2.2.1];omega)
            omega
          unfold vss_court_tell_L2
          rw [ix [] hk,bS,at_ok (by omega),bS,cs.P,r1,bS,appO_some (by omega) (by omega),bS]),bS]
        rfl)
    rw [e2,bS,appO_some (by simp only [List.length_cons,List.length_nil];omega) (by simp only [List.length_cons,List.length_nil];omega),bS])
  have hbl:Bl c.zn.zw.S.P n 42 ((List.range n).map fun d=>say2 p n (c.zd.S.getD d []) (ac c.zaccuses d)):=⟨by simp,fun d hd=>by
    rw [map_getD hd,cs.pw]
    exact say2_ok hp cs.S ht hn (by omega) hd⟩
  obtain ⟨heard,views,e3,b1,b2,b3,b4,b5,b6⟩:=bc_ok cs.sc hbl (by omega) hv hB hr
  rw [cs.pw] at b1
  have et:((t:Nat):Int)+1=((t+1:Nat):Int):=by omega
  have hgd:∀ d,d < n→∀ a,a < n→(((List.range n).map fun d=>(List.range n).map (tld (heard.getD d []) (ac c.zaccuses d) t (c.zd.S.getD d []).length)).getD d []).getD a []=tld (heard.getD d []) (ac c.zaccuses d) t (c.zd.S.getD d []).length a:=fun d hd a ha2=>by rw [map_getD hd,map_getD ha2]
  refine ⟨(List.range n).map fun d=>(List.range n).map (tld (heard.getD d []) (ac c.zaccuses d) t (c.zd.S.getD d []).length),views,?_,⟨by simp,fun d hd=>by rw [map_getD hd];simp,fun d hd a ha2 hb=>?_,fun d hd a ha2 hb=>?_,fun d hd a ha2 hb k hk=>?_⟩,fun d hd hh a ha2 hb k hk=>?_,b3,fun h1 h2 h3=>b4 h1 (fun d hd k=>?_) h3,heard,b5,hgd,b6⟩
  · unfold vss_court_tell vss_court_parties network_Net_Scenario
    rw [hRl,bS,hmx,ckN_some (by omega),bS,Nat.sub_zero,e1,bS,e3,bS]
    simp only
    rw [bS,cs.sc.T,addI_some (by omega) (by omega),bS,hRl,bS,hmx,ckN_some (by omega),bS,Nat.sub_zero,et,h0,rgS_tab' (fun d=>(List.range n).map (tld (heard.getD d []) (ac c.zaccuses d) t (c.zd.S.getD d []).length)) (fun d l hd hl=>by
      obtain ⟨l',rows,e4,hrw⟩:=tell4_ok (r7:=(heard,c.zn.zround+1,views)) (l9:=l) cs hd (ha.2 d hd) (l:=heard.getD d []) (by have:=(b1.w d hd).2;omega)
      unfold vss_court_tell_L3 vss_court_parties
      simp only
      rw [ix [] (by rw [b1.len];exact hd),bS,hRl,bS,mkO_some (by omega) (by omega) (by omega) (by omega),bS,ix [] (by rw [ha.1];exact hd),bS,Int.toNat_natCast,ha.2 d hd,Nat.sub_zero,e4,bS]
      simp only
      rw [hrw,appO_some (by simp only [List.length_cons,List.length_nil];omega) (by simp only [List.length_cons,List.length_nil];omega),bS]
      rfl),bS]
  · rw [hgd d hd a ha2];unfold tld;rw [hb];rfl
  · rw [hgd d hd a ha2];unfold tld;rw [hb,if_pos rfl,got_len]
  · rw [hgd d hd a ha2];unfold tld;rw [hb,if_pos rfl,got_get hk]
    refine ⟨by simp,Lt_map fun c' _=>?_⟩
    rw [List.getD_eq_getElem?_getD,List.getElem?_drop,← List.getD_eq_getElem?_getD]
    exact Lt.get hp.pos (b1.w d hd).1 _
  · rw [hgd d hd a ha2,b2 d hd hh,map_getD hd]
    exact tld_say hp cs.S ht (by omega) hd ha2 hb hk
  · rw [map_getD hd]
    have:say2 p n (c.zd.S.getD d []) (ac c.zaccuses d)=[]:=by
      unfold say2
      apply List.eq_nil_iff_forall_not_mem.2
      intro x hx
      obtain ⟨l,hl,hx⟩:=List.mem_flatten.1 hx
      obtain ⟨i,hi,rfl⟩:=List.mem_map.1 hl
      rw [h2 d hd i (by simpa using hi)] at hx
      simp at hx
    rw [this];rfl
/-- a public row of dealer d contradicts the rows of party i -/
def Ob (p n:Nat) (R told:List (List (List (List Nat)))) (acc:List (List Bool)) (i d:Nat):Prop:=ac acc d i=false∧∃ a,a < n∧∃ k,k < ((told.getD d []).getD a []).length∧pev p (((told.getD d []).getD a []).getD k []) (i+1)≠pev p (((R.getD i []).getD d []).getD k []) (a+1)
theorem objecting_ok {c:T_vss_court} (cs:Cs p n t c) (ha:Ac n c.zaccuses) (td:Td p n t (fun d=>(c.zd.S.getD d []).length) c.zaccuses c.ztold) {i d:Nat} (hi:i < n) (hd:d < n) :
    ∃ b,vss_court_objecting c ((i:Nat):Int) ((d:Nat):Int)=some b∧(b=true ↔ Ob p n c.zd.Rows c.ztold c.zaccuses i d):=by
  have hp:Sup p:=by rw [← cs.pw];exact cs.sc.sup
  have hlt:=hp.lt
  have hn:=cs.n7
  have ht:=cs.t2
  unfold vss_court_objecting
  rw [idx_getD [] (by omega) (by rw [ha.1];omega),bS,Int.toNat_natCast,idx_getD false (by omega) (by rw [ha.2 d hd];omega),bS,Int.toNat_natCast]
  show ∃ b,(bif ac c.zaccuses d i then _ else _)=some b∧_
  cases hb:ac c.zaccuses d i
  · rw [cF,idx_getD [] (by omega) (by rw [td.len];omega),bS,Int.toNat_natCast,td.row d hd,Nat.sub_zero]
    have key:=rgO_find (body:=fun k1 (st:Unit)=>vss_court_objecting_L0 c ((i:Nat):Int) ((d:Nat):Int) (c.ztold.getD d []) k1) (n:=n)
      (fun a=>∃ k,k < ((c.ztold.getD d []).getD a []).length∧pev p (((c.ztold.getD d []).getD a []).getD k []) (i+1)≠pev p (((c.zd.Rows.getD i []).getD d []).getD k []) (a+1)) (fun a ha2=>by
        unfold vss_court_objecting_L0
        rw [ix [] (by rw [td.row d hd];exact ha2),bS,Nat.sub_zero]
        have key2:=rgO_find (body:=fun k2 (st:Unit)=>vss_court_objecting_L1 c ((i:Nat):Int) ((d:Nat):Int) a ((c.ztold.getD d []).getD a []) k2) (n:=((c.ztold.getD d []).getD a []).length)
          (fun k=>pev p (((c.ztold.getD d []).getD a []).getD k []) (i+1)≠pev p (((c.zd.Rows.getD i []).getD d []).getD k []) (a+1)) (fun k hk=>by
            have hba:ac c.zaccuses d a=true:=by
              cases h:ac c.zaccuses d a
              · rw [td.no d hd a ha2 h] at hk;simp at hk
              · rfl
            have hkm:k < (c.zd.S.getD d []).length:=by rw [td.many d hd a ha2 hba] at hk;exact hk
            obtain ⟨w1,w2⟩:=td.w d hd a ha2 hba k hkm
            obtain ⟨w3,w4⟩:=cs.R.w i hi d hd k hkm
            unfold vss_court_objecting_L1
            rw [ix [] hk,bS,at_ok (by omega),bS,cs.P,(pev_ok hp w2 (by omega) (by omega)).1,bS,own_ok cs hi hd hkm,bS,at_ok (by omega),bS,(pev_ok hp w4 (by omega) (by omega)).1,bS]
            by_cases g:pev p (((c.ztold.getD d []).getD a []).getD k []) (i+1)=pev p (((c.zd.Rows.getD i []).getD d []).getD k []) (a+1)
            · rw [qF (by omega),cF];exact .inr ⟨rfl,fun h=>h g⟩
            · rw [qT (by omega),cT];exact .inl ⟨rfl,g⟩)
        rcases key2 with ⟨e,h⟩ | ⟨e,h⟩
        · rw [e,bS,oF];exact .inl ⟨rfl,h⟩
        · rw [e,bS,oG];exact .inr ⟨rfl,fun ⟨k,hk,hV⟩=>h k hk hV⟩)
    rcases key with ⟨e,h⟩ | ⟨e,h⟩
    · rw [e,bS,oF];exact ⟨true,rfl,fun _=>⟨hb,h⟩,fun _=>rfl⟩
    · rw [e,bS,oG];exact ⟨false,rfl,fun h'=>(by cases h'),fun ⟨_,q,hq,hV⟩=>absurd hV (h q hq)⟩
  · rw [cT]
    exact ⟨false,rfl,fun h=>(by cases h),fun h=>by rw [h.1] at hb;cases hb⟩
end
end Pu
