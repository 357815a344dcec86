/-
  Part 4 of what the proofs of this seat share: the executor, data in memory, walks.
-/
import Derived.Test.YtjiljjappjmlkaaGreatDoorK3
import Derived.Test.YtjiljjappjmlkaaGreatDoorK2
import Derived.Laws.IdiomStrings
import Derived.Lib.SliceRun
set_option linter.all false
namespace Go.V
open Go
theorem gsL {P:Pk} {kn:Nat→Nat→Ce} (hk:∀ k p,CeOk P (P.base+p) (kn k p)) (hg:GInv P kn):∀ (L:List Nat) (a:Nat),P.base≤a→allM kn P.base L a→∃ n l,GS P kn n (wsM kn P.base L a) l∧LenOk l (numM kn P.base L a)∧Nst a (toM kn P.base L a) l
 | [],a,_,_=>⟨0,[],.nil,⟨fun _=>rfl,fun h=>by simp[numM] at h⟩,.nil (Nat.le_refl _)⟩
 | k::L,a,ha,⟨h1,h2⟩=>by
  have hc:=hk k (a - P.base)
  have hto:=(hc.m h1).1
  obtain⟨n,l,i1,i2,i3⟩:=gsL hk hg L _ (by omega) h2
  obtain⟨m,l',j1,j2,j3⟩:=hg k (a - P.base) h1
  rw[Nat.add_sub_cancel' ha] at j1 j3
  simp only[wsM,numM,toM,h1]
  rw[show Nat.beq 3 3=true from rfl,cond_true,cond_true,cond_true]
  cases h0:Nat.beq (kn k (a - P.base)).n 0 with
  | true=>
   rw[cond_true,Nat.eq_of_beq_eq_true h0,Nat.zero_add]
   exact⟨n,l,i1,i2,.app (.nil (by rw[Nat.add_sub_cancel' ha] at hto;exact hto)) i3⟩
  | false=>
   rw[cond_false]
   exact⟨m+n,l'++l,j1.app i1,j2.app i2,.app j3 i3⟩
theorem gs_node {P:Pk} {kn:Nat→Nat→Ce} {k pl:Nat} {c:Ce} (hn:¬ isDone (kn k (pl - P.base))) (h3:c.st=3) {parts:List (Nat×Nat)} (hp:PartsM P kn k pl parts) {n0:Nat} {l0:List Cp} (hgs:GS P kn n0 parts l0) {N:Nat} (hl:LenOk l0 N) (hN:Nst pl c.to l0)
  (hc:c.n=min ((if (P.at_ k).d.k=9 then 1 else 0)+N) 65537):∃ n l,GS P (setKn kn k (pl - P.base) c) n [(k,pl)] l∧LenOk l c.n∧Nst pl c.to l:=by
 have hle:=setKn_le (c:=c) hn
 by_cases h0:c.n=0
 ·refine⟨1,[],.zero (by rw[setKn_self];exact h3) (by rw[setKn_self];exact h0) .nil,⟨fun _=>h0.symm,fun h=>by omega⟩,.nil hN.le⟩
 ·refine⟨n0+1,_,.node (by rw[setKn_self];exact h3) (by rw[setKn_self];exact h0) (hp.le hle) (l:=l0) (by rw[List.append_nil];exact hgs.le hle),?_,?_⟩
  case refine_2=>
   unfold capM
   cases decide ((P.at_ k).d.k=9) with
   | true=>
    rw[setKn_self]
    exact .cap hN
   | false=>exact hN
  rw[hc]
  refine LenOk.cut ?_
  unfold capM
  by_cases h9:(P.at_ k).d.k=9
  ·rw[if_pos h9,decide_eq_true h9,cond_true]
   exact LenOk.app (l:=[_]) (n:=1) ⟨fun _=>rfl,fun h=>by omega⟩ hl
  ·rw[if_neg h9,decide_eq_false h9,cond_false,Nat.zero_add]
   exact hl
theorem gs_zero {P:Pk} {kn:Nat→Nat→Ce} {k pl:Nat} {c:Ce} (h3:c.st=3) (h0:c.n=0) (hle:pl≤c.to):∃ n l,GS P (setKn kn k (pl - P.base) c) n [(k,pl)] l∧LenOk l c.n∧Nst pl c.to l:=
 ⟨1,[],.zero (by rw[setKn_self];exact h3) (by rw[setKn_self];exact h0) .nil,⟨fun _=>h0.symm,fun h=>by omega⟩,.nil hle⟩
theorem finish_g {P:Pk} {S:Ms} {f:Fm} {rest:List Fm} (hop:S.op=f::rest) (hg:GInv P S.kn) (hr:∀ x∈rest,HsOk P S.kn x) (hlo:∀ x∈f::rest,P.base≤x.pl) (hnd:((f::rest).map fun f=>(f.nd,f.pl)).Nodup) (hch:chainM P (f::rest))
  (hw:(S.kn f.nd (f.pl - P.base)).st=1) {c:Ce} (hc:c.st=3→∃ n l,GS P (setKn S.kn f.nd (f.pl - P.base) c) n [(f.nd,f.pl)] l∧LenOk l c.n∧Nst f.pl c.to l):NgOk P (finishM P c S):=by
 have hnot:¬ isDone (S.kn f.nd (f.pl - P.base)):=fun h=>by unfold isDone at h;omega
 have hle:=setKn_le (c:=c) hnot
 have hg':GInv P (setKn S.kn f.nd (f.pl - P.base) c):=hg.set hnot fun e=>by rw[Nat.add_sub_cancel' (hlo f (.head _))];exact hc e
 have hr':∀ x∈rest,HsOk P (setKn S.kn f.nd (f.pl - P.base) c) x:=fun x hx=>(hr x hx).le hle (by
  rw[setKn_ne]
  ·exact(hr x hx).w
  ·rintro⟨e1,e2⟩
   have h1:=hlo x (.tail _ hx)
   have h2:=hlo f (.head _)
   have:(f.nd,f.pl)∈rest.map fun f=>(f.nd,f.pl):=List.mem_map.2 ⟨x,hx,by rw[e1];congr 1;omega⟩
   exact(List.nodup_cons.1 hnd).1 this)
 unfold finishM
 rw[hop]
 cases rest with
 | nil=>exact⟨hg',fun x hx=>(by cases hx),List.nodup_nil⟩
 | cons r rs=>
  refine⟨⟨hg',hr',(List.nodup_cons.1 hnd).2⟩,fun x xs e=>?_⟩
  cases e
  rw[hch.1]
  exact setKn_self ..
theorem ask_g {P:Pk} {S:Ms} (h:MgOk P S):NgOk P (askM P S):=by
 unfold askM
 split
 ·trivial
 ·rename_i f rest hop
  simp only
  cases h0:Nat.beq (S.kn (nextM P f).1 ((nextM P f).2 - P.base)).st 0 with
  | true=>exact⟨h,trivial⟩
  | false=>
   cases h1:Nat.beq (S.kn (nextM P f).1 ((nextM P f).2 - P.base)).st 1 with
   | true=>trivial
   | false=>
    refine⟨h,fun x xs e=>?_⟩
    rw[hop] at e
    cases e
    rfl
theorem alone_n {P:Pk} {k a:Nat} {c:Ce} (h:aloneM P k a=some c):c.n=0:=by
 unfold aloneM at h
 simp only at h
 have m0:∀ to,(ceM to 0).n=0:=fun to=>rfl
 cases e0:decide ((P.at_ k).d.k=0) with
 | true=>rw[e0] at h;simp only[cond_true,Option.some.injEq] at h;rw[←h];rfl
 | false=>
  rw[e0,cond_false] at h
  cases e1:decide ((P.at_ k).d.k=1) with
  | true=>
   rw[e1,cond_true] at h
   split at h
   ·rename_i b hb
    cases hh:hasN (P.at_ k).d b.toNat<;>rw[hh] at h<;>simp only[cond_true,cond_false,Option.some.injEq] at h<;>rw[←h]<;>rfl
   ·simp only[Option.some.injEq] at h;rw[←h];rfl
  | false=>
   rw[e1,cond_false] at h
   cases e2:decide ((P.at_ k).d.k=2) with
   | true=>
    rw[e2,cond_true] at h
    cases hh:preB P.s (P.at_ k).d.t a<;>rw[hh] at h<;>simp only[cond_true,cond_false,Option.some.injEq] at h<;>rw[←h]<;>rfl
   | false=>
    rw[e2,cond_false] at h
    cases hh:decide ((P.at_ k).d.k=6) && decide ((P.at_ k).d.hi=0) with
    | true=>rw[hh] at h;simp only[cond_true,Option.some.injEq] at h;rw[←h];rfl
    | false=>rw[hh] at h;cases h
theorem begin_g {P:Pk} {S:Ms} (hS:MsOk P S) (h:MgOk P S) {k a:Nat} (hb:RqOk P S (.begin k a)):NgOk P (beginM P k a S):=by
 obtain⟨b1,b2,b3,b4,b5⟩:=hb
 have hb:RqOk P S (.begin k a):=⟨b1,b2,b3,b4,b5⟩
 have hnot:¬ isDone (S.kn k (a - P.base)):=fun h=>by unfold isDone at h;omega
 have hle:=setKn_le (c:={ S.kn k (a - P.base) with st:=1 }) hnot
 have hg':GInv P (begS P k a S).kn:=h.g.set hnot fun e=>by cases e
 have hne:∀ x∈S.op,¬ (x.nd=k∧x.pl - P.base=a - P.base):=fun x hx e=>by
  have:=(h.hs x hx).w
  rw[e.1,e.2,b5] at this
  cases this
 have hr':∀ x∈S.op,HsOk P (begS P k a S).kn x:=fun x hx=>(h.hs x hx).le hle (by
  show (setKn S.kn k (a - P.base) _ x.nd (x.pl - P.base)).st=1
  rw[setKn_ne (hne x hx)]
  exact(h.hs x hx).w)
 have hw:((begS P k a S).kn k (a - P.base)).st=1:=by
  show (setKn S.kn k (a - P.base) _ k (a - P.base)).st=1
  rw[setKn_self]
 have hnd:((⟨k,a,0,a,0⟩::S.op:List Fm).map fun f=>(f.nd,f.pl)).Nodup:=by
  rw[List.map_cons,List.nodup_cons]
  refine⟨fun hm=>?_,h.nd⟩
  obtain⟨x,hx,e⟩:=List.mem_map.1 hm
  simp only[Prod.mk.injEq] at e
  exact hne x hx ⟨e.1,by rw[e.2]⟩
 have hch:=begS_chain hS hb
 unfold beginM
 cases hn:aloneM P k a with
 | some c=>
  refine finish_g (f:=⟨k,a,0,a,0⟩) (rest:=S.op) rfl hg' hr' (fun x hx=>?_) hnd hch hw fun e=>gs_zero e (alone_n hn) ((alone_some b3 hn).2.m e).1
  rcases List.mem_cons.1 hx with rfl | hx
  ·exact b2
  ·exact(hS.op x hx).lo
 | none=>
  refine ask_g ⟨hg',fun x hx=>?_,hnd⟩
  rcases List.mem_cons.1 hx with rfl | hx
  ·refine⟨hw,fun hk L hL=>?_,fun _ i hi=>by simp only at hi;omega⟩
   have:L=[]:=by
    rw[hL]
    simp only
    split
    ·exact List.take_zero
    ·rfl
   subst this
   exact⟨trivial,rfl,rfl⟩
  ·exact hr' x hx
theorem WR_rep {kn:Nat→Nat→Ce} {base k:Nat} {hi:Int}:∀ (m t a:Nat),t+m≤1000001→allM kn base (List.replicate m k) a→(∀ i,i < m→((t+i:Nat):Int)≠hi) →
  (((t+m:Nat):Int)=hi∨(((t+m:Nat):Int)≠hi∧(kn k (toM kn base (List.replicate m k) a - base)).st=2))→WR kn base k hi t a (wsM kn base (List.replicate m k) a)
 | 0,t,a,_,_,_,h=>by
  rcases h with h | ⟨h1,h2⟩
  ·exact .stop h
  ·exact .fail h1 h2
 | m+1,t,a,hb,hall,hne,h=>by
  rw[List.replicate_succ] at hall h ⊢
  obtain⟨h1,h2⟩:=hall
  have ht:toM kn base (k::List.replicate m k) a=toM kn base (List.replicate m k) (kn k (a - base)).to:=by simp[toM,h1]
  rw[ht] at h
  have ih:=WR_rep m (t+1) _ (by omega) h2 (fun i hi=>by have:=hne (i+1) (by omega);rwa [show t+1+i=t+(i+1) by omega]) (by rwa [show t+1+m=t+(m+1) by omega])
  have:=WR.more (by omega) (by have:=hne 0 (by omega);simpa using this) h1 ih
  have e:wsM kn base (k::List.replicate m k) a=(bif Nat.beq (kn k (a - base)).n 0 then [] else [(k,a)])++wsM kn base (List.replicate m k) (kn k (a - base)).to:=by
   simp only[wsM,h1]
   rw[show Nat.beq 3 3=true from rfl,cond_true]
   cases Nat.beq (kn k (a - base)).n 0<;>rfl
  rw[e]
  exact this
theorem wc_at {kn:Nat→Nat→Ce} {base:Nat}:∀ (L:List Nat) (a t:Nat) (ht:t < L.length),(∀ i,i < t→(kn (L.getD i 0) (a - base)).st=2)→(kn (L.getD t 0) (a - base)).st=3 →
  oneM kn base L a∧wcM kn base L a=bif Nat.beq (kn (L.getD t 0) (a - base)).n 0 then [] else [(L.getD t 0,a)]
 | k::L,a,0,_,_,h3=>by
  simp only[List.getD_cons_zero] at h3
  refine⟨.inl h3,?_⟩
  simp only[wcM,List.getD_cons_zero,h3]
  rfl
 | k::L,a,t+1,ht,h2,h3=>by
  have hk:=h2 0 (by omega)
  simp only[List.getD_cons_zero] at hk
  simp only[List.getD_cons_succ] at h3 ⊢
  obtain⟨i1,i2⟩:=wc_at L a t (by simpa using ht) (fun i hi=>by have:=h2 (i+1) (by omega);simpa using this) h3
  refine⟨.inr ⟨hk,i1⟩,?_⟩
  simp only[wcM,hk]
  exact i2
theorem list_one {L:List Nat} (h:L.length=1):L=[L.getD 0 0]:=by
 match L,h with
 | [x],_=>rfl
theorem hand_g {P:Pk} (hP:PkOk P) {S:Ms} (hS:MsOk P S) (h:MgOk P S) {c:Ce} (hq:RqOk P S (.hand c)) (hr:RgOk P S (.hand c)):NgOk P (handM P c S):=by
 obtain⟨f,rest,hop,hd,hc⟩:=hq
 have hcell:=hr f rest hop
 have hf:=hS.op f (by rw[hop];exact .head _)
 have htl:=times_le hP hf
 have hs:=h.hs f (by rw[hop];exact .head _)
 have hch:=hS.chain
 have hnd:=h.nd
 rw[hop] at hch hnd
 have ha:=Pk.at_ok hP hf.nd
 have hlo:=hf.lo
 have hpl:=hf.pl
 have h3:=hf.k
 have hnot:¬ isDone (S.kn f.nd (f.pl - P.base)):=fun e=>by have:=hs.w;unfold isDone at e;omega
 have hrest:∀ x∈rest,HsOk P S.kn x:=fun x hx=>h.hs x (by rw[hop];exact .tail _ hx)
 have fin:∀ {f':Fm} {c':Ce},f'.nd=f.nd∧f'.pl=f.pl→(c'.st=3→∃ n l,GS P (setKn S.kn f.nd (f.pl - P.base) c') n [(f.nd,f.pl)] l∧LenOk l c'.n∧Nst f.pl c'.to l)→NgOk P (finishM P c' ⟨S.kn,f'::rest,S.used+1⟩):=fun {f' c'} e hgs=>by
  refine finish_g (S:=⟨S.kn,f'::rest,S.used+1⟩) (f:=f') (rest:=rest) rfl h.g hrest (fun x hx=>?_) (by rw[List.map_cons,e.1,e.2];exact hnd) (chain_top hch e) (by rw[e.1,e.2];exact hs.w) (by rw[e.1,e.2];exact hgs)
  rcases List.mem_cons.1 hx with rfl | hx
  ·rw[e.2];exact hlo
  ·exact(hS.op x (by rw[hop];exact .tail _ hx)).lo
 have on:∀ {f':Fm},f'.nd=f.nd∧f'.pl=f.pl→HsOk P S.kn f'→NgOk P (askM P ⟨S.kn,f'::rest,S.used+1⟩):=fun {f'} e hh=>by
  refine ask_g ⟨h.g,fun x hx=>?_,by rw[List.map_cons,e.1,e.2];exact hnd⟩
  rcases List.mem_cons.1 hx with rfl | hx
  ·exact hh
  ·exact hrest x hx
 have no:∀ {c':Ce} {p:Prop},c'.st=2→c'.st=3→p:=fun e1 e2=>by omega
 have isM:Nat.beq c.st 2=false→c.st=3:=fun h2=>by
  rcases hd with e | e
  ·rw[e] at h2;cases h2
  ·exact e
 have isF:Nat.beq c.st 3=false→c.st=2:=fun h2=>by
  rcases hd with e | e
  ·exact e
  ·rw[e] at h2;cases h2
 unfold handM
 rw[hop]
 simp only
 unfold handleM
 simp only
 have one:(P.at_ f.nd).d.k=3∨(P.at_ f.nd).d.k=9→∀ c':Ce,c.st=3→c'.st=3→c'.to=c.to→c'.n=min ((if (P.at_ f.nd).d.k=9 then 1 else 0)+c.n) 65537→∃ n l,GS P (setKn S.kn f.nd (f.pl - P.base) c') n [(f.nd,f.pl)] l∧LenOk l c'.n∧Nst f.pl c'.to l:=fun hk c' hc3 hc3' hto' hn=>by
  have hone:=ha.one (by omega)
  have hto:=(hf.one (by omega)).2
  have hnx:nextM P f=((P.at_ f.nd).asks.getD 0 0,f.pl):=by
   have e4:decide ((P.at_ f.nd).d.k=4)=false:=decide_eq_false (by omega)
   have e5:decide ((P.at_ f.nd).d.k=5)=false:=decide_eq_false (by omega)
   simp only[nextM,e4,e5,cond_false,hto]
  rw[hnx] at hcell
  have hall:allM S.kn P.base (P.at_ f.nd).asks f.pl:=by
   rw[list_one hone]
   exact⟨by rw[hcell];exact hc3,trivial⟩
  have hnum:numM S.kn P.base (P.at_ f.nd).asks f.pl=c.n:=by
   rw[list_one hone]
   simp only[numM,hcell,hc3]
   rfl
  have htoM:toM S.kn P.base (P.at_ f.nd).asks f.pl=c.to:=by
   rw[list_one hone]
   simp only[toM,hcell,hc3]
   rfl
  obtain⟨n0,l0,g1,g2,g3⟩:=gsL hS.kn h.g _ _ hlo hall
  rw[hnum] at g2
  rw[htoM,←hto'] at g3
  refine gs_node hnot hc3' (parts:=wsM S.kn P.base (P.at_ f.nd).asks f.pl) ?_ g1 g2 g3 hn
  unfold PartsM
  rw[if_neg (by omega),if_neg (by omega)]
  exact⟨hall,rfl⟩
 by_cases hk3:(P.at_ f.nd).d.k < 4
 ·simp only[decide_eq_true hk3,cond_true]
  refine fin ⟨rfl,rfl⟩ fun e=>one (.inl (by omega)) c e e rfl ?_
  have:=(hc.m e).2.2
  rw[if_neg (by omega)]
  omega
 have e3:decide ((P.at_ f.nd).d.k < 4)=false:=decide_eq_false hk3
 rw[e3,cond_false]
 by_cases hk4:(P.at_ f.nd).d.k=4
 ·simp only[decide_eq_true hk4,cond_true]
  cases h2:Nat.beq c.st 2 with
  | true=>exact fin ⟨rfl,rfl⟩ (no (Nat.eq_of_beq_eq_true h2))
  | false=>
   have hm:=isM h2
   have hlt:=hf.many (.inl hk4)
   have hnx:nextM P f=((P.at_ f.nd).asks.getD f.times 0,f.to):=by simp only[nextM,decide_eq_true hk4,cond_true]
   rw[hnx] at hcell
   obtain⟨i1,i2,i3⟩:=hs.many (.inl hk4) _ (by rw[if_pos hk4])
   have htk:(P.at_ f.nd).asks.take (f.times+1)=(P.at_ f.nd).asks.take f.times++[(P.at_ f.nd).asks.getD f.times 0]:=by
    rw[List.take_succ_eq_append_getElem hlt]
    simp[List.getD_eq_getElem?_getD,hlt]
   have j1:allM S.kn P.base ((P.at_ f.nd).asks.take (f.times+1)) f.pl:=by
    rw[htk]
    exact allM_app _ _ _ _ _ i1 ⟨by rw[←i2,hcell];exact hm,trivial⟩
   have j2:c.to=toM S.kn P.base ((P.at_ f.nd).asks.take (f.times+1)) f.pl:=by
    rw[htk,toM_app,←i2]
    simp only[toM,hcell,hm]
    rfl
   have j3:numM S.kn P.base ((P.at_ f.nd).asks.take (f.times+1)) f.pl=numM S.kn P.base ((P.at_ f.nd).asks.take f.times) f.pl+c.n:=by
    rw[htk,numM_app,←i2]
    simp only[numM,hcell,hm]
    rfl
   rw[cond_false]
   simp only
   cases hdn:decide (f.times+1=(P.at_ f.nd).asks.length) with
   | true=>
    have hfull:(P.at_ f.nd).asks.take (f.times+1)=(P.at_ f.nd).asks:=List.take_of_length_le (by have:=of_decide_eq_true hdn;omega)
    rw[hfull] at j1 j3
    rw[cond_true]
    refine fin ⟨rfl,rfl⟩ fun e=>?_
    obtain⟨n0,l0,g1,g2,g3⟩:=gsL hS.kn h.g _ _ hlo j1
    rw[hfull] at j2
    rw[←j2] at g3
    refine gs_node hnot e (parts:=wsM S.kn P.base (P.at_ f.nd).asks f.pl) ?_ g1 g2 g3 ?_
    ·unfold PartsM
     rw[if_neg (by omega),if_neg (by omega)]
     exact⟨j1,rfl⟩
    ·rw[if_neg (by omega)]
     show min (min (f.n+c.n) 65537) 65537=_
     rw[i3]
     omega
   | false=>
    rw[cond_false]
    refine on ⟨rfl,rfl⟩ ⟨hs.w,fun hk L hL=>?_,fun hk=>?_⟩
    ·have hL':L=(P.at_ f.nd).asks.take (f.times+1):=by
      rw[hL]
      exact if_pos hk4
     rw[hL']
     refine⟨j1,j2,?_⟩
     show min (f.n+c.n) 65537=min (numM S.kn P.base ((P.at_ f.nd).asks.take (f.times+1)) f.pl) 65537
     rw[j3,i3]
     omega
    ·have hk':(P.at_ f.nd).d.k=5:=hk
     omega
 have e4:decide ((P.at_ f.nd).d.k=4)=false:=decide_eq_false hk4
 rw[e4,cond_false]
 by_cases hk5:(P.at_ f.nd).d.k=5
 ·simp only[decide_eq_true hk5,cond_true]
  have hlt:=hf.many (.inr hk5)
  have hnx:nextM P f=((P.at_ f.nd).asks.getD f.times 0,f.pl):=by simp only[nextM,decide_eq_true hk5,e4,cond_true,cond_false]
  rw[hnx] at hcell
  have hch5:=hs.ch hk5
  cases h2:Nat.beq c.st 3 with
  | true=>
   have hm:=Nat.eq_of_beq_eq_true h2
   rw[cond_true]
   refine fin ⟨rfl,rfl⟩ fun e=>?_
   obtain⟨q1,q2⟩:=wc_at (kn:=S.kn) (base:=P.base) (P.at_ f.nd).asks f.pl f.times hlt hch5 (by rw[hcell];exact hm)
   obtain⟨n0,l0,g1,g2,g3⟩:=h.g ((P.at_ f.nd).asks.getD f.times 0) (f.pl - P.base) (by rw[hcell];exact hm)
   rw[hcell] at q2 g2 g3
   rw[Nat.add_sub_cancel' hlo] at g1 g3
   by_cases h0:c.n=0
   ·exact gs_zero e h0 g3.le
   ·have hb:Nat.beq c.n 0=false:=by
     rw[Bool.eq_false_iff]
     exact fun e=>h0 (Nat.eq_of_beq_eq_true e)
    rw[hb,cond_false] at q2
    refine gs_node hnot e (parts:=[((P.at_ f.nd).asks.getD f.times 0,f.pl)]) ?_ g1 g2 g3 ?_
    ·unfold PartsM
     rw[if_neg (by omega),if_pos hk5]
     exact⟨q1,q2.symm⟩
    ·have:=(hc.m hm).2.2
     rw[if_neg (by omega)]
     omega
  | false=>
   have hm:=isF h2
   rw[cond_false]
   simp only
   cases hdn:decide (f.times+1=(P.at_ f.nd).asks.length) with
   | true=>exact fin ⟨rfl,rfl⟩ (no hm)
   | false=>
    rw[cond_false]
    refine on ⟨rfl,rfl⟩ ⟨hs.w,fun hk=>?_,fun _ i hi=>?_⟩
    ·have hk':(P.at_ f.nd).d.k=4∨(P.at_ f.nd).d.k=6:=hk
     omega
    ·by_cases hil:i < f.times
     ·exact hch5 i hil
     ·have hi':i < f.times+1:=hi
      have:i=f.times:=by omega
      subst this
      show (S.kn ((P.at_ f.nd).asks.getD f.times 0) (f.pl - P.base)).st=2
      rw[hcell]
      exact hm
 have e5:decide ((P.at_ f.nd).d.k=5)=false:=decide_eq_false hk5
 rw[e5,cond_false]
 by_cases hk6:(P.at_ f.nd).d.k=6
 ·simp only[decide_eq_true hk6,cond_true]
  have hnx:nextM P f=((P.at_ f.nd).asks.getD 0 0,f.to):=by simp only[nextM,e4,e5,cond_true,cond_false]
  rw[hnx] at hcell
  obtain⟨r1,r2,r3⟩:=hf.rep hk6
  obtain⟨i1,i2,i3⟩:=hs.many (.inr hk6) _ (by rw[if_neg (by omega)])
  have hi:(P.at_ f.nd).d.hi=-1∨(f.times:Int) < (P.at_ f.nd).d.hi:=by
   by_cases e:(P.at_ f.nd).d.hi=-1
   ·exact .inl e
   ·exact .inr (r3 e)
  cases h2:Nat.beq c.st 2 with
  | true=>
   have hm:=Nat.eq_of_beq_eq_true h2
   rw[cond_true]
   cases hlow:decide ((f.times:Int) < (P.at_ f.nd).d.lo) with
   | true=>exact fin ⟨rfl,rfl⟩ (no hm)
   | false=>
    rw[cond_false]
    refine fin ⟨rfl,rfl⟩ fun e=>?_
    obtain⟨n0,l0,g1,g2,g3⟩:=gsL hS.kn h.g _ _ hlo i1
    rw[←i2] at g3
    refine gs_node hnot e (parts:=wsM S.kn P.base (List.replicate f.times ((P.at_ f.nd).asks.getD 0 0)) f.pl) ?_ g1 g2 g3 ?_
    ·unfold PartsM
     rw[if_pos hk6]
     refine WR_rep f.times 0 f.pl (by omega) i1 (fun i hi'=>by omega) (.inr ⟨by omega,?_⟩)
     rw[←i2,hcell]
     exact hm
    ·rw[if_neg (by omega)]
     show min f.n 65537=_
     rw[i3]
     omega
  | false=>
   have hm:=isM h2
   rw[cond_false]
   cases hlp:decide ((P.at_ f.nd).d.hi=-1) && decide (c.to=f.to) with
   | true=>trivial
   | false=>
    rw[cond_false]
    simp only
    have htk:List.replicate (f.times+1) ((P.at_ f.nd).asks.getD 0 0)=List.replicate f.times ((P.at_ f.nd).asks.getD 0 0)++[(P.at_ f.nd).asks.getD 0 0]:=List.replicate_succ'
    have j1:allM S.kn P.base (List.replicate (f.times+1) ((P.at_ f.nd).asks.getD 0 0)) f.pl:=by
     rw[htk]
     exact allM_app _ _ _ _ _ i1 ⟨by rw[←i2,hcell];exact hm,trivial⟩
    have j2:c.to=toM S.kn P.base (List.replicate (f.times+1) ((P.at_ f.nd).asks.getD 0 0)) f.pl:=by
     rw[htk,toM_app,←i2]
     simp only[toM,hcell,hm]
     rfl
    have j3:numM S.kn P.base (List.replicate (f.times+1) ((P.at_ f.nd).asks.getD 0 0)) f.pl=numM S.kn P.base (List.replicate f.times ((P.at_ f.nd).asks.getD 0 0)) f.pl+c.n:=by
     rw[htk,numM_app,←i2]
     simp only[numM,hcell,hm]
     rfl
    cases hdn:decide (((f.times+1:Nat):Int)=(P.at_ f.nd).d.hi) with
    | true=>
     have hh:=of_decide_eq_true hdn
     rw[cond_true]
     refine fin ⟨rfl,rfl⟩ fun e=>?_
     obtain⟨n0,l0,g1,g2,g3⟩:=gsL hS.kn h.g _ _ hlo j1
     rw[←j2] at g3
     refine gs_node hnot e (parts:=wsM S.kn P.base (List.replicate (f.times+1) ((P.at_ f.nd).asks.getD 0 0)) f.pl) ?_ g1 g2 g3 ?_
     ·unfold PartsM
      rw[if_pos hk6]
      exact WR_rep (f.times+1) 0 f.pl (by omega) j1 (fun i hi'=>by omega) (.inl (by rw[Nat.zero_add];exact hh))
     ·rw[if_neg (by omega),j3]
      show min (min (f.n+c.n) 65537) 65537=_
      rw[i3]
      omega
    | false=>
     rw[cond_false]
     refine on ⟨rfl,rfl⟩ ⟨hs.w,fun hk L hL=>?_,fun hk=>?_⟩
     ·have hL':L=List.replicate (f.times+1) ((P.at_ f.nd).asks.getD 0 0):=by
       rw[hL]
       exact if_neg (by show ¬ (P.at_ f.nd).d.k=4;omega)
      rw[hL']
      refine⟨j1,j2,?_⟩
      show min (f.n+c.n) 65537=min (numM S.kn P.base (List.replicate (f.times+1) ((P.at_ f.nd).asks.getD 0 0)) f.pl) 65537
      rw[j3,i3]
      omega
     ·have hk':(P.at_ f.nd).d.k=5:=hk
      omega
 have e6:decide ((P.at_ f.nd).d.k=6)=false:=decide_eq_false hk6
 rw[e6,cond_false]
 cases h7:decide ((P.at_ f.nd).d.k=7) with
 | true=>
  rw[cond_true]
  cases h2:Nat.beq c.st 3 with
  | true=>exact fin ⟨rfl,rfl⟩ fun e=>gs_zero e rfl (Nat.le_refl _)
  | false=>exact fin ⟨rfl,rfl⟩ (no (isF h2))
 | false=>
  rw[cond_false]
  cases h8:decide ((P.at_ f.nd).d.k=8) with
  | true=>
   rw[cond_true]
   cases h2:Nat.beq c.st 2 with
   | true=>exact fin ⟨rfl,rfl⟩ fun e=>gs_zero e rfl (Nat.le_refl _)
   | false=>exact fin ⟨rfl,rfl⟩ (no rfl)
  | false=>
   rw[cond_false]
   have h7':=of_decide_eq_false h7
   have h8':=of_decide_eq_false h8
   have h10:=ha.k
   have hk9:(P.at_ f.nd).d.k=9:=by omega
   cases h2:Nat.beq c.st 3 with
   | true=>
    have hm:=Nat.eq_of_beq_eq_true h2
    refine fin ⟨rfl,rfl⟩ fun e=>one (.inr hk9) _ hm e rfl ?_
    rw[if_pos hk9]
    show min (c.n+1) 65537=_
    omega
   | false=>exact fin ⟨rfl,rfl⟩ (no (isF h2))
theorem step_g {P:Pk} (hP:PkOk P) {S:Ms} (hS:MsOk P S) (h:MgOk P S) {q:Rq} (hq:RqOk P S q) (hr:RgOk P S q):NgOk P (stepM P q S):=by
 cases q with
 | begin k a=>exact begin_g hS h hq
 | hand c=>exact hand_g hP hS h hq hr
def errC:Nat→Int
 | 0=>44
 | 1=>42
 | 2=>43
 | _=>0
section
variable {X:Ctx} {o:Oper} {F:Fr} {C:Bx} {I:GH} {M:List Blk} {K:KS}
theorem OtherOb.bytesS (hE:EOK X.P X.E) {x:Operand} {src dst e:Nat} (ho:o.op=.convert src dst x) (hd:∀ d,o.dst=some d→d < X.n)
  {ti ei di:TI} (ht:X.E src=some ti) (hts:ti.sh=.slice e) (he:X.E e=some ei) (hes:ei.sh=.int .u8) (hdt:X.E dst=some di) (hds:di.sh=.string)
  {ad:Addr} {n c:Nat} {l:List UInt8} (hx:ev F x=.val (.slice (some ad) n c)) (hn:l.length=n) (hrd:Rd I M ad n (l.map fun b=>.int .u8 b.toNat))
  (h:K (put o.dst (.val (.string ⟨l.toArray⟩)) F) C I M):OtherOb X o F C I M K:=by
 subst hn
 refine⟨fun a w Q ⟨β,hR⟩=>?_⟩
 obtain⟨hs,cs,T,fr,hk,hv,hl⟩:=hrd
 have hg:=hk.heap hR.holds
 obtain⟨d,hud,hdd⟩:=(hE _ _ ht).und
 have h1:d=.slice e:=by rw[hts] at hdd;cases d<;>simp_all[shOf]
 subst h1
 obtain⟨d2,hu2,hd2⟩:=(hE _ _ he).und
 have h2:d2=.int .u8:=by rw[hes] at hd2;cases d2<;>simp_all[shOf]
 subst h2
 obtain⟨d3,hu3,hd3⟩:=(hE _ _ hdt).und
 have h3:d3=.string:=by rw[hds] at hd3;cases d3<;>simp_all[shOf]
 subst h3
 have hc:∀ j (hj:j < l.length),w.cell? (ad.add j)=some (.int .u8 (l[j].toNat:Int)):=by
  intro j hj
  rw[addr_add ad hs,cell_of_block hg]
  have hj':(l.map fun b=>Value.int .u8 b.toNat)[j]?=some (.int .u8 (l[j].toNat:Int)):=by simp[hj]
  rw[←hv,List.getElem?_take,if_pos hj,List.getElem?_drop] at hj'
  simpa using hj'
 have ex:=eval_of_ev hR.fr hx
 refine done_vv hR hd (by rw[ho];simp) ?_ h
 unfold execOp
 simp only[ho,Sem.run_bind,Sem.run_pure,ex,run_convert_bytes_back w src dst e ad c l hud hu2 hu3 hc,Result.andThen_ok]
end
section
variable {X:Ctx} {F:Fr} {C:Bx} {I:GH} {M:List Blk} {o:Oper} {K:KS}
theorem OtherOb.bytesN (hE:EOK X.P X.E) {x:Operand} {src dst e:Nat} (ho:o.op=.convert src dst x) (hd:∀ d,o.dst=some d→d < X.n)
  {ti ei di:TI} (ht:X.E src=some ti) (hts:ti.sh=.slice e) (he:X.E e=some ei) (hes:ei.sh=.int .u8) (hdt:X.E dst=some di) (hds:di.sh=.string)
  {c:Nat} (hx:ev F x=.val (.slice none 0 c))
  (h:K (put o.dst (.val (.string ⟨#[]⟩)) F) C I M):OtherOb X o F C I M K:=by
 refine⟨fun a w Q ⟨β,hR⟩=>?_⟩
 obtain⟨d,hud,hdd⟩:=(hE _ _ ht).und
 have h1:d=.slice e:=by rw[hts] at hdd;cases d<;>simp_all[shOf]
 subst h1
 obtain⟨d2,hu2,hd2⟩:=(hE _ _ he).und
 have h2:d2=.int .u8:=by rw[hes] at hd2;cases d2<;>simp_all[shOf]
 subst h2
 obtain⟨d3,hu3,hd3⟩:=(hE _ _ hdt).und
 have h3:d3=.string:=by rw[hds] at hd3;cases d3<;>simp_all[shOf]
 subst h3
 have ex:=eval_of_ev hR.fr hx
 refine done_vv hR hd (by rw[ho];simp) ?_ h
 unfold execOp
 have hrun:(convert src dst (.slice none 0 c)).run X.P w=.ok (.string ⟨#[]⟩) w:=by
  rw[run_convert_bytes_string w src dst e none 0 c hud hu2 hu3]
  rfl
 simp only[ho,Sem.run_bind,Sem.run_pure,ex,hrun,Result.andThen_ok]
end
theorem CallOb.whole {foot:List Nat} {P:Program} {f:Nat} {args:List Value} {I:GH} {M:List Blk} {K:Value→GH→List Blk→Prop} (post:Value→GH→List Blk→Prop) (hs:Spec P f args I M post)
  (k:∀ v I' M',(∀ b o,I b=some o→I' b=some o)→post v I' M'→K v I' M'):CallOb foot P f args I M K:=
 .mk M [] post (by simp) hs fun v I' M' h1 h2=>by rw[List.append_nil];exact k v I' M' h1 h2
theorem PCallOb.whole {foot:List Nat} {P:Program} {f:Nat} {args:List Value} {I:GH} {M:List Blk} {K:Value→GH→List Blk→Prop} (post:Value→GH→List Blk→Prop) (hs:Spec P f args I M post) (keep:∀ v I' M',post v I' M'→∀ x∈M,x∈M')
  (k:∀ v I' M',(∀ b o,I b=some o→I' b=some o)→post v I' M'→K v I' M'):PCallOb foot P f args I M K:=
 .mkR M [] post (by simp) hs keep fun v I' M' h1 h2=>by rw[List.append_nil];exact k v I' M' h1 h2
section
variable {X:Ctx} {β:Nat→Nat} {a:Act} {w:World} {F:Fr} {C:Bx} {I:GH} {M:List Blk} {o:Oper} {K:KS}
theorem Wk.eqM {foot:List Nat} {I:GH} {M M':List Blk} (h:M=M'):Wk foot I M I M':=by
 subst h
 exact .refl
theorem OtherOb.wk (h:OtherOb X o F C I M fun F C I M=>∃ I' M',Wk X.foot I M I' M'∧K F C I' M'):OtherOb X o F C I M K:=by
 obtain⟨h⟩:=h
 refine⟨fun a w Q hR=>Oper.wpIn_mono ?_ (h a w Q hR)⟩
 rintro a' w' ⟨F',C',I',M',⟨β,hr⟩,I2,M2,hw,hk⟩
 exact⟨F',C',I2,M2,⟨β,hr.wk hw⟩,hk⟩
theorem OtherOb.app1 (hE:EOK X.P X.E) {s x:Operand} {t:Nat} (ho:o.op=.call { callee:=.builtin .append,args:=#[s,x],argTypes:=#[t,t] }) (hd:∀ d,o.dst=some d→d < X.n)
  {e:Nat} {ti ei:TI} (ht:X.E t=some ti) (hts:ti.sh=.slice e) (he:X.E e=some ei)
  (os:OS) {xs:List Value} (hok:os.ok ei.size xs) (hs:ev F s=.val os.val)
  {b9:Nat} {cs:List Value} {c':Nat} (hx:ev F x=.val (.slice (some ⟨b9,0,none⟩) 1 c')) (hl:cs.length=ei.size) (h1:allOne cs=true)
  (pre post:List Blk) (hM:M=⟨b9,.cells cs.toArray e (0,0)⟩::(pre++(os.blk e++post))) (b1:os.n+1≤9223372036854775807) (b2:(os.n+1) * ei.bytes≤140737488355328)
  (k:∀ os':OS,os'.n=os.n+1→(∀ g,os'.a=some g→I g=none)→os'.ok ei.size (xs++cs)→K (put o.dst (.val os'.val) F) C I (pre++(os'.blk e++post))):OtherOb X o F C I M K:=by
 refine .wk (.appendN hE ho hd ht hts he os hok hs (m:=1) (news:=cs) hx (by decide) ?_ h1 (Mr:=⟨b9,.cells cs.toArray e (0,0)⟩::(pre++post)) ?_ (by unfold maxLen;exact b1) b2 ?_)
 ·rw[Nat.one_mul]
  refine⟨rfl,_,_,_,.inr ⟨⟨b9,.cells cs.toArray e (0,0)⟩,by rw[hM];exact .head _,rfl,rfl⟩,?_,hl⟩
  simp only[List.drop_zero]
  exact List.take_of_length_le (by omega)
 ·rw[hM]
  have h2:(⟨b9,.cells cs.toArray e (0,0)⟩::(pre++(os.blk e++post)):List Blk).Perm (⟨b9,.cells cs.toArray e (0,0)⟩::(os.blk e++(pre++post))):=.cons _ (List.perm_append_comm_assoc _ _ _)
  exact h2.trans List.perm_middle.symm
 ·intro g c cur hI q1 q2 q3 q4
  refine⟨I,pre++((⟨some g,os.n+1,c,cur⟩:OS).blk e++post),.sub (M1:=⟨g,.cells cur.toArray e (0,0)⟩::(pre++post)) (.cons_cons _ (.cons _ (.refl _))) (.perm ?_ .refl),k ⟨some g,os.n+1,c,cur⟩ rfl (fun g' hg=>by cases hg;exact hI) ⟨?_,(fun h=>by cases h),fun g' hg=>?_⟩⟩
  ·exact List.perm_middle.symm
  ·rw[List.length_append,hok.len,hl,Nat.add_mul,Nat.one_mul]
  ·cases hg
   exact⟨q1,q2,q3,q4⟩
theorem OtherOb.appL (hE:EOK X.P X.E) {s x:Operand} {t:Nat} (ho:o.op=.call { callee:=.builtin .append,args:=#[s,x],argTypes:=#[t,t] }) (hd:∀ d,o.dst=some d→d < X.n)
  {e:Nat} {ti ei:TI} (ht:X.E t=some ti) (hts:ti.sh=.slice e) (he:X.E e=some ei)
  (os:OS) {xs:List Value} (hok:os.ok ei.size xs) (hs:ev F s=.val os.val)
  {sa:Option Addr} {m c':Nat} {news:List Value} (hx:ev F x=.val (.slice sa m c')) (hl:news.length=m * ei.size) (hn:0 < m→∃ ad,sa=some ad∧Rd I M ad (m * ei.size) news) (h1:allOne news=true)
  (pre post:List Blk) (hM:M=pre++(os.blk e++post)) (b1:os.n+m≤9223372036854775807) (b2:(os.n+m) * ei.bytes≤140737488355328)
  (k:∀ os':OS,os'.n=os.n+m→(0 < m→∀ g,os'.a=some g→I g=none)→os'.ok ei.size (xs++news)→K (put o.dst (.val os'.val) F) C I (pre++(os'.blk e++post))):OtherOb X o F C I M K:=by
 by_cases h0:m=0
 ·subst h0
  have hnil:news=[]:=List.eq_nil_of_length_eq_zero (by simpa using hl)
  subst hnil
  refine .append0 hE ho hd ht hts ht (fun k=>by rw[hts];simp) he (sa:=os.a.map fun g=>⟨g,0,none⟩) (n:=os.n) (c:=os.c) hs ?_ hx (.inl ⟨_,_,rfl⟩) ?_
  ·cases ha:os.a with
   | none=>obtain⟨q1,q2⟩:=hok.nil ha;omega
   | some g=>exact(hok.cap g ha).2.1
  ·have:=k os rfl (fun h=>by omega) (by rw[List.append_nil];exact hok)
   rw[hM]
   exact this
 obtain⟨ad,rfl,hrd⟩:=hn (by omega)
 refine .wk (.appendN hE ho hd ht hts he os hok hs (m:=m) (news:=news) hx (by omega) hrd h1 (Mr:=pre++post) ?_ (by unfold maxLen;exact b1) b2 ?_)
 ·rw[hM]
  exact(List.perm_append_comm_assoc _ _ _)
 ·intro g c cur hI q1 q2 q3 q4
  refine⟨I,pre++((⟨some g,os.n+m,c,cur⟩:OS).blk e++post),.perm ?_ .refl,k ⟨some g,os.n+m,c,cur⟩ rfl (fun _ g' hg=>by cases hg;exact hI) ⟨?_,(fun h=>by cases h),fun g' hg=>?_⟩⟩
  ·exact List.perm_middle.symm
  ·rw[List.length_append,hok.len,hl,Nat.add_mul]
  ·cases hg
   exact⟨q1,q2,q3,q4⟩
end
theorem splice_mid' (pre mid post:List Value) (k:Nat) (vs:List Value) (h:k+vs.length≤mid.length):splice (pre++(mid++post)) (pre.length+k) vs=pre++(splice mid k vs++post):=by
 unfold splice
 have h1:(pre++(mid++post)).take (pre.length+k)=pre++mid.take k:=by
  rw[List.take_append,Nat.add_sub_cancel_left,List.take_of_length_le (by omega),List.take_append_of_le_length (by omega)]
 have h2:(pre++(mid++post)).drop (pre.length+k+vs.length)=mid.drop (k+vs.length)++post:=by
  rw[Nat.add_assoc,List.drop_length_add_append,List.drop_append_of_le_length h]
 rw[h1,h2]
 simp
theorem flat_put {α:Type} (f:α→List Value) (size:Nat) (hf:∀ x,(f x).length=size) (l:List α) (i:Nat) (hi:i < l.length) (k:Nat) (vs:List Value) (hk:k+vs.length≤size) (x':α) (hx:splice (f l[i]) k vs=f x') :
  splice (l.flatMap f) (i * size+k) vs=(l.set i x').flatMap f:=by
 have e:l=l.take i++l[i]::l.drop (i+1):=by rw[←List.drop_eq_getElem_cons hi,List.take_append_drop]
 have e1:l.flatMap f=(l.take i).flatMap f++(f l[i]++(l.drop (i+1)).flatMap f):=by
  calc l.flatMap f=(l.take i++l[i]::l.drop (i+1)).flatMap f:=congrArg _ e
   _=_:=by rw[List.flatMap_append,List.flatMap_cons]
 have e2:((l.take i).flatMap f).length=i * size:=by rw[flat_len f size hf,List.length_take_of_le (by omega)]
 rw[e1,←e2,splice_mid' _ _ _ _ _ (by rw[hf];exact hk),List.set_eq_take_append_cons_drop,if_pos hi,List.flatMap_append,List.flatMap_cons,hx]
theorem take_splice' {cur:List Value} {j m:Nat} {vs:List Value} (h:j+vs.length≤m) (hm:m≤cur.length):(splice cur j vs).take m=splice (cur.take m) j vs:=by
 unfold splice
 have h1:(cur.take m).take j=cur.take j:=by rw[List.take_take,Nat.min_eq_left (by omega)]
 have h2:(cur.take m).drop (j+vs.length)=(cur.drop (j+vs.length)).take (m - (j+vs.length)):=by rw[List.drop_take]
 have h3:(cur.take j).length=j:=by rw[List.length_take];omega
 rw[h1,h2,List.append_assoc,List.append_assoc,List.take_append,h3,List.take_of_length_le (by omega),List.take_append,List.take_of_length_le (by omega:vs.length≤m - j)]
 congr 3
 omega
theorem OS.put {α:Type} (f:α→List Value) (size:Nat) (hf:∀ x,(f x).length=size) {M:List Blk} {os:OS} {l:List α} {e:Nat} (h:os.ok size (l.flatMap f)) {i:Nat} (hi:i < l.length) (k:Nat) {vs:List Value} (hk:k+vs.length≤size) (h1:allOne vs=true) (x':α) (hx:splice (f l[i]) k vs=f x')
  (pre post:List Blk) (hM:M=pre++(os.blk e++post)) {g off:Nat} (hg:os.a=some g) (hoff:off=i * size+k) {K:List Blk→Prop}
  (kk:∀ (os':OS),os'.val=os.val→os'.a=os.a→os'.n=os.n→os'.ok size ((l.set i x').flatMap f)→K (pre++(os'.blk e++post))):StoreOb M ⟨g,off,none⟩ vs K:=by
 have hl0:=h.len
 rw[flat_len f size hf] at hl0
 obtain⟨a,n,c,cur⟩:=os
 have hl:l.length * size=n * size:=hl0
 simp only at hg
 subst hg
 obtain⟨q1,q2,q3,q4⟩:=h.cap g rfl
 simp only at q1 q2 q3 q4
 have hb:n * size≤c * size:=Nat.mul_le_mul_right _ q2
 have hi2:i * size+size≤l.length * size:=by
  have:=Nat.mul_le_mul_right size (show i+1≤l.length from hi)
  rwa [Nat.add_mul,Nat.one_mul] at this
 subst hM
 subst hoff
 refine StoreOb.mk pre post cur.toArray e rfl rfl ?_ h1 ?_
 ·simp only[List.size_toArray]
  omega
 ·have:=kk ⟨some g,n,c,splice cur (i * size+k) vs⟩ rfl rfl rfl ⟨?_,(fun h=>by cases h),fun g' hg=>?_⟩
  ·simpa[OS.blk] using this
  ·rw[flat_len f size hf,List.length_set]
   exact hl
  ·cases hg
   refine⟨?_,q2,q3,?_⟩
   ·simp only[splice,List.length_append,List.length_take,List.length_drop]
    omega
   ·simp only
    rw[take_splice' (by omega) (by omega),q4,flat_put f size hf l i hi k vs hk x' hx]
theorem splice_one (l:List Value) (k:Nat) (v:Value) (h:k < l.length):splice l k [v]=l.set k v:=by
 rw[List.set_eq_take_append_cons_drop,if_pos h]
 simp[splice]
theorem OS.putP {α:Type} (f:α→List Value) (size:Nat) (hf:∀ x,(f x).length=size) {M:List Blk} {os:OS} {l:List α} {e:Nat} (h:os.ok size (l.flatMap f)) {i:Nat} (hi:i < l.length) (k:Nat) {vs:List Value} (hk:k+vs.length≤size) (h1:allOne vs=true) (x':α) (hx:splice (f l[i]) k vs=f x')
  (pre post:List Blk) (hM:M=pre++(os.blk e++post)) {ad:Addr} (had:(os.a.map fun g=>(⟨g,0,none⟩:Addr))=some ad) {K:List Blk→Prop}
  (kk:∀ (os':OS),os'.val=os.val→os'.a=os.a→os'.n=os.n→os'.ok size ((l.set i x').flatMap f)→K (pre++(os'.blk e++post))):StoreOb M ((ad.add (i * size)).add k) vs K:=by
 obtain⟨g,hg,rfl⟩:∃ g,os.a=some g∧ad=⟨g,0,none⟩:=by
  cases ha:os.a with
  | none=>rw[ha] at had;cases had
  | some g=>rw[ha] at had;cases had;exact⟨g,rfl,rfl⟩
 rw[addr_add (⟨g,0,none⟩:Addr) rfl,addr_add _ rfl]
 exact OS.put f size hf h hi k hk h1 x' hx pre post hM hg (by simp) kk
open Go Go.Proofs
def Ce.cells (c:Ce):List Value:=[.int .i32 c.n,.int .i16 c.to,.int .u8 c.st]
def Ce.val (c:Ce):Value:=.agg #[.int .i32 c.n,.int .i16 c.to,.int .u8 c.st]
theorem Ce.cells_len (c:Ce):c.cells.length=3:=rfl
def Fm.cells (f:Fm):List Value:=[.int .i32 f.nd,.int .i32 f.pl,.int .i32 f.times,.int .i32 f.to,.int .i32 f.n]
theorem Fm.cells_len (f:Fm):f.cells.length=5:=rfl
structure MN where
 d:Nd
 a:Option Addr
 n:Nat
 c:Nat
 asks:List Nat
def MN.cells (x:MN):List Value:=x.d.cells++[.slice x.a x.n x.c]
theorem MN.cells_len (x:MN):x.cells.length=10:=rfl
structure MN.ok (I:GH) (x:MN):Prop where
 d:x.d.ok I
 rs:RS I x.a x.n x.c 1 8 (x.asks.map fun (k:Nat)=>Value.int .i64 (k:Int))
def MN.pn (x:MN):PN:=⟨x.d,x.asks⟩
theorem MN.ok.mono {I I':GH} {x:MN} (h:x.ok I) (hI:∀ b o,I b=some o→I' b=some o):x.ok I':=⟨h.d.mono hI,h.rs.mono hI⟩
structure MnAt where
 xs:List MN
 a:Option Addr
 n:Nat
 c:Nat
structure MnAt.ok (I:GH) (x:MnAt):Prop where
 rs:RS I x.a x.n x.c 10 0 (x.xs.flatMap MN.cells)
 xs:∀ y∈x.xs,y.ok I
theorem MnAt.ok.n {I:GH} {x:MnAt} (h:x.ok I):x.xs.length=x.n:=by
 have:=h.rs.len
 rw[flat_len _ 10 MN.cells_len] at this
 omega
structure Mc where
 bm:Nat
 bk:Nat
 s:ByteArray
 base:Nat
 fuel:Nat
 ns:MnAt
def Mc.pk (m:Mc):Pk:=⟨m.ns.xs.map MN.pn,m.s,m.base⟩
def Mc.w (m:Mc):Nat:=m.s.size - m.base+1
def mcC (m:Mc) (used:Nat) (N:Nat) (os:OS):List Value:=[.string m.s,.int .i64 m.base,.int .i64 m.fuel,.int .i64 used,.slice m.ns.a m.ns.n m.ns.c,.slice (some ⟨m.bk,0,none⟩) N N,os.val]
def mcB (m:Mc) (used:Nat) (N:Nat) (os:OS):Blk:=⟨m.bm,.cells (mcC m used N os).toArray 94 (0,0)⟩
structure Kr where
 b:Option Nat
 cs:List Ce
def Kr.val (w:Nat) (r:Kr):Value:=match r.b with
 | none=>.slice none 0 0
 | some b=>.slice (some ⟨b,0,none⟩) w w
def Kr.os (w:Nat) (r:Kr):OS:=⟨r.b,w,w,r.cs.flatMap Ce.cells⟩
def Kr.blk (w:Nat) (r:Kr):List Blk:=(r.os w).blk 87
def krH (m:Mc) (R:List Kr):Blk:=⟨m.bk,.cells (R.map (Kr.val m.w)).toArray 147 (0,0)⟩
def krB (m:Mc) (R:List Kr):List Blk:=R.flatMap (Kr.blk m.w)
structure KrOk (m:Mc) (R:List Kr) (kn:Nat→Nat→Ce):Prop where
 len:∀ r∈R,r.cs.length=m.w
 none:∀ r∈R,r.b=none→r.cs=List.replicate m.w ce0
 at_:∀ k (h:k < R.length) p (hp:p < R[k].cs.length),R[k].cs[p]=kn k p
theorem krB_split (m:Mc) {R:List Kr} {k:Nat} (hk:k < R.length):krB m R=krB m (R.take k)++(R[k].blk m.w++krB m (R.drop (k+1))):=by
 have e:R=R.take k++R[k]::R.drop (k+1):=by rw[←List.drop_eq_getElem_cons hk,List.take_append_drop]
 calc krB m R=krB m (R.take k++R[k]::R.drop (k+1)):=congrArg _ e
  _=_:=by rw[krB,List.flatMap_append,List.flatMap_cons];rfl
theorem krB_set (m:Mc) {R:List Kr} {k:Nat} (hk:k < R.length) (r:Kr):krB m (R.set k r)=krB m (R.take k)++(r.blk m.w++krB m (R.drop (k+1))):=by
 rw[List.set_eq_take_append_cons_drop,if_pos hk]
 simp[krB]
theorem mc_rd {I:GH} {M:List Blk} {m:Mc} {used N:Nat} {os:OS} (hM:mcB m used N os∈M) {k:Nat} (hk:k < 7):Rd I M ((⟨m.bm,0,none⟩:Addr).add k) 1 [(mcC m used N os).getD k undef]:=by
 have h:=blk_rd (I:=I) (cs:=mcC m used N os) (k:=k) (n:=1) hM (by show k+1≤7;omega)
 have:((mcC m used N os).drop k).take 1=[(mcC m used N os).getD k undef]:=by
  match k,hk with
  | 0,_=>rfl
  | 1,_=>rfl
  | 2,_=>rfl
  | 3,_=>rfl
  | 4,_=>rfl
  | 5,_=>rfl
  | 6,_=>rfl
 rwa [this] at h
theorem wrap_i32 {x:Int} (h1:-2147483648≤x) (h2:x≤2147483647):IntKind.i32.wrap x=x:=by
 unfold IntKind.wrap
 simp only[IntKind.bits,IntKind.signed]
 simp
 omega
theorem wrap_i16 {x:Int} (h1:-32768≤x) (h2:x≤32767):IntKind.i16.wrap x=x:=by
 unfold IntKind.wrap
 simp only[IntKind.bits,IntKind.signed]
 simp
 omega
theorem match_spec {I:GH} {M:List Blk} (to n:Nat) (h1:to≤4096):Spec Tryz.prog 86 [.int .i32 to,.int .i32 n] I M fun v I' M'=>v=(ceM to n).val∧I'=I∧M'=M:=by
 refine spec_of_V [] TryzEOK Tryz.func86 rfl rfl rfl ?_
 intro B h0
 refine ArithOb.mk (to:Int) (wrap_i16 (by omega) (by omega)) ?_
 refine⟨_,_,.refl,?_,rfl,rfl⟩
 show Value.agg #[.int .i32 (min (n:Int) 65537),.int .i16 to,.int .u8 3]=_
 rw[show (min (n:Int) 65537)=((min n 65537:Nat):Int) by omega]
 rfl
theorem burn_spec {I:GH} {Mr:List Blk} (m:Mc) (used N:Nat) (os:OS) (h:m.fuel≤1099511627776):Spec Tryz.prog 59 [ptr m.bm] I (mcB m used N os::Mr)
  fun v I' M'=>I'=I∧((m.fuel≤used∧v=.bool false∧M'=mcB m used N os::Mr)∨(used < m.fuel∧v=.bool true∧M'=mcB m (used+1) N os::Mr)):=by
 refine spec_of_V [] TryzEOK Tryz.func59 rfl rfl rfl ?_
 intro B h0
 refine CodeOb.draw TryzEOK rfl rfl rfl ?_
 refine LoadOb.mk _ (mc_rd (k:=3) (.head _) (by decide)) ?_
 refine LoadOb.mk _ (mc_rd (k:=2) (.head _) (by decide)) ?_
 refine CondOb.mk (fun e=>?_) (fun e=>?_)
 ·have e':((m.fuel:Nat):Int)≤(used:Int):=of_decide_eq_true e
  exact⟨_,_,.refl,rfl,.inl ⟨by omega,rfl,rfl⟩⟩
 ·have e':¬ ((m.fuel:Nat):Int)≤(used:Int):=of_decide_eq_false e
  refine LoadOb.mk _ (mc_rd (k:=3) (.head _) (by decide)) ?_
  refine ArithOb.mk _ (next_wr (i:=used) (by omega)) ?_
  refine StoreOb.mk [] _ _ _ rfl rfl (Nat.le_of_ble_eq_true rfl) rfl ?_
  exact⟨_,_,.refl,rfl,.inr ⟨by omega,rfl,rfl⟩⟩
theorem BinOb.sliceNil {P:Program} {E:Env} (hE:EOK P E) {t e:Nat} {ti:TI} {x y:Operand} (ht:E t=some ti) (hts:ti.sh=.slice e) {a:Option Addr} {n c n' c':Nat} {V:Value→Prop} {other:Prop}
  (h:V (.bool a.isNone)):BinOb P .eql t x y (.val (.slice a n c)) (.val (.slice none n' c')) V other:=by
 obtain⟨d,hud,hdd⟩:=(hE _ _ ht).und
 have h1:d=.slice e:=by rw[hts] at hdd;cases d<;>simp_all[shOf]
 subst h1
 refine .mk _ _ _ rfl rfl (fun w=>?_) h
 have e1:(eqGuard .eql t x y (.slice a n c) (.slice none n' c')).run P w=.ok () w:=by unfold eqGuard;rfl
 simp only[Sem.run_bind,e1,Result.andThen_ok]
 exact Lib.run_eql_slice_nil w t e a n c n' c' hud
theorem ce_rep (w:Nat):rowOf ce0.cells (w * 3)=(List.replicate w ce0).flatMap Ce.cells:=by
 induction w with
 | zero=>rfl
 | succ w ih=>
  have e:(w+1) * 3=w * 3+3:=by omega
  have e2:rowOf ce0.cells ((w+1) * 3)=rowOf ce0.cells (w * 3)++ce0.cells:=by
   unfold rowOf
   rw[e,List.range_add,List.map_append]
   congr 1
   apply List.ext_getElem (by rfl)
   intro i h1 h2
   simp only[List.getElem_map,List.getElem_range]
   have h3:i < 3:=by simpa using h1
   have h4:(w * 3+i) % ce0.cells.length=i:=by
    show (w * 3+i) % 3=i
    omega
   rw[h4]
   match i,h3 with
   | 0,_=>rfl
   | 1,_=>rfl
   | 2,_=>rfl
  rw[e2,ih,List.replicate_succ']
  simp
theorem Kr.os_ok {m:Mc} {r:Kr} (h:r.cs.length=m.w) (hw:m.w≤9223372036854775807) {b:Nat} (hb:r.b=some b):(r.os m.w).ok 3 (r.cs.flatMap Ce.cells):=
 ⟨by rw[flat_len _ 3 Ce.cells_len,h];rfl,(fun e=>by simp[Kr.os,hb] at e),fun g _=>⟨by show (r.cs.flatMap Ce.cells).length=m.w * 3;rw[flat_len _ 3 Ce.cells_len,h],Nat.le_refl _,by unfold maxLen;exact hw,by
  show (r.cs.flatMap Ce.cells).take (m.w * 3)=_
  exact List.take_of_length_le (by rw[flat_len _ 3 Ce.cells_len,h];exact Nat.le_refl _)⟩⟩
theorem KrOk.made {m:Mc} {R:List Kr} {kn:Nat→Nat→Ce} (h:KrOk m R kn) {k:Nat} (hk:k < R.length) (b:Nat):KrOk m (R.set k ⟨some b,R[k].cs⟩) kn:=by
 refine⟨fun r hr=>?_,fun r hr hn=>?_,fun j hj p hp=>?_⟩
 ·rcases List.mem_or_eq_of_mem_set hr with hr | rfl
  ·exact h.len r hr
  ·show R[k].cs.length=m.w
   exact h.len _ (List.getElem_mem hk)
 ·rcases List.mem_or_eq_of_mem_set hr with hr | rfl
  ·exact h.none r hr hn
  ·cases hn
 ·have hj':j < R.length:=by simpa using hj
  by_cases e:k=j
  ·subst e
   simp only[List.getElem_set_self] at hp ⊢
   exact h.at_ k hk p hp
  ·simp only[List.getElem_set_ne e] at hp ⊢
   exact h.at_ j hj' p hp
theorem krH_rd {I:GH} {M:List Blk} {m:Mc} {R:List Kr} (hM:krH m R∈M) {k:Nat} (hk:k < R.length):Rd I M ((⟨m.bk,0,none⟩:Addr).add (k * 1)) 1 [R[k].val m.w]:=by
 have h:=blk_rd (I:=I) (cs:=R.map (Kr.val m.w)) (k:=k * 1) (n:=1) hM (by rw[List.length_map];omega)
 have e:((R.map (Kr.val m.w)).drop (k * 1)).take 1=[R[k].val m.w]:=by
  rw[Nat.mul_one,List.drop_eq_getElem_cons (by rw[List.length_map];exact hk),List.take_succ_cons,List.take_zero,List.getElem_map]
 rwa [e] at h
set_option maxHeartbeats 2000000 in
theorem cell_spec {I:GH} {Mr:List Blk} (m:Mc) (hb:m.base≤m.s.size) (hs:m.s.size≤4096) {used N:Nat} {os:OS} {R:List Kr} {kn:Nat→Nat→Ce} (hR:KrOk m R kn) (hN:R.length=N) {k a:Nat} (hk:k < N) (h1:m.base≤a) (h2:a≤m.s.size) :
  Spec Tryz.prog 60 [ptr m.bm,.int .i64 k,.int .i64 a] I (mcB m used N os::krH m R::(krB m R++Mr)) fun v I' M'=>I'=I∧∃ (R':List Kr) (b:Nat),KrOk m R' kn∧R'.length=N∧(∃ h:k < R'.length,R'[k].b=some b) ∧
   v=.pointer (some ⟨b,(a - m.base) * 3,none⟩)∧M'=mcB m used N os::krH m R'::(krB m R'++Mr):=by
 refine spec_of_V [] TryzEOK Tryz.func60 rfl rfl rfl ?_
 intro B h0
 have hkR:k < R.length:=by omega
 have hwd:m.w=m.s.size - m.base+1:=rfl
 refine LoadOb.mk _ (mc_rd (k:=5) (.head _) (by decide)) ?_
 refine IdxOb.mk ⟨m.bk,0,none⟩ k rfl rfl hk ?_
 have hrd:=fun {M:List Blk} (hM:krH m R∈M)=>krH_rd (I:=I) hM hkR
 cases hbk:R[k].b with
 | none=>
  have hv:R[k].val m.w=.slice none 0 0:=by simp[Kr.val,hbk]
  rw[hv] at hrd
  refine LoadOb.mk _ (hrd (.tail _ (.head _))) ?_
  refine BinOb.sliceNil TryzEOK rfl rfl ?_
  refine CondOb.mk (fun _=>?_) (fun e=>by cases e)
  refine CodeOb.draw TryzEOK rfl rfl rfl ?_
  refine LoadOb.mk _ (mc_rd (k:=5) (.head _) (by decide)) ?_
  refine LoadOb.mk _ (mc_rd (k:=0) (.head _) (by decide)) ?_
  refine LoadOb.mk _ (mc_rd (k:=1) (.head _) (by decide)) ?_
  refine ArithOb.mk ((m.s.size - m.base:Nat):Int) (wr_eq (by omega) (by omega)) ?_
  refine ArithOb.mk ((m.w:Nat):Int) (wr_eq (by omega) (by omega)) ?_
  refine MakeOb.mk m.w m.w rfl rfl (Nat.le_refl _) (by show 8 * m.w≤_;omega) (by omega) ?_
  refine AllocOb.mk fun b hb hbM=>?_
  refine IdxOb.mk ⟨m.bk,0,none⟩ k rfl rfl hk ?_
  refine StoreOb.addTo [_,mcB m used N os] (krB m R++Mr) (R.map (Kr.val m.w)) _ rfl ?_ rfl ((R.set k ⟨some b,R[k].cs⟩).map (Kr.val m.w)) ?_ ?_
  ·rw[Nat.ble_eq,List.length_map]
   show 0+k * 1+1≤_
   omega
  ·rw[List.map_set]
   show splice _ (0+k * 1) [.slice (some ⟨b,0,none⟩) m.w m.w]=_
   rw[splice_one _ _ _ (by rw[List.length_map];omega),Nat.zero_add,Nat.mul_one]
   rfl
  have hk':k < (R.set k ⟨some b,R[k].cs⟩).length:=by rw[List.length_set];exact hkR
  have hrd':∀ {M:List Blk},krH m (R.set k ⟨some b,R[k].cs⟩)∈M→Rd I M ((⟨m.bk,0,none⟩:Addr).add (k * 1)) 1 [.slice (some ⟨b,0,none⟩) m.w m.w]:=fun hM=>by
   have:=krH_rd (I:=I) hM hk'
   rwa [List.getElem_set_self] at this
  refine CodeOb.draw TryzEOK rfl rfl rfl ?_
  refine LoadOb.mk _ (mc_rd (k:=5) (.tail _ (.head _)) (by decide)) ?_
  refine IdxOb.mk ⟨m.bk,0,none⟩ k rfl rfl hk ?_
  refine LoadOb.mk _ (hrd' (.tail _ (.tail _ (.head _)))) ?_
  refine LoadOb.mk _ (mc_rd (k:=1) (.tail _ (.head _)) (by decide)) ?_
  refine ArithOb.mk ((a - m.base:Nat):Int) (wr_eq (by omega) (by omega)) ?_
  refine IdxOb.mk ⟨b,0,none⟩ (a - m.base) rfl rfl (by omega) ?_
  refine⟨_,mcB m used N os::krH m (R.set k ⟨some b,R[k].cs⟩)::(krB m (R.set k ⟨some b,R[k].cs⟩)++Mr),.perm ?_ .refl,rfl,_,b,hR.made hkR b,by rw[List.length_set];exact hN,⟨hk',by rw[List.getElem_set_self]⟩,by rw[addr_add _ rfl,Nat.zero_add],rfl⟩
  have hcs:=hR.none _ (List.getElem_mem hkR) hbk
  have e1:(Kr.blk m.w ⟨some b,R[k].cs⟩:List Blk)=[⟨b,.cells (rowOf ce0.cells (m.w * 3)).toArray 87 (0,0)⟩]:=by
   rw[ce_rep,←hcs]
   rfl
  have e2:R[k].blk m.w=[]:=by unfold Kr.blk Kr.os OS.blk;rw[hbk]
  rw[krB_set m hkR,krB_split m hkR,e1,e2]
  have h3:∀ (x y z:Blk) (A B C:List Blk),(x::y::z::(A++([]++B)++C)).Perm (y::z::(A++([x]++B)++C)):=fun x y z A B C=>by
   have:(A++([x]++B)++C).Perm (x::(A++([]++B)++C)):=by
    simp only[List.nil_append,List.cons_append,List.append_assoc]
    exact List.perm_middle
   exact((List.Perm.swap y x _).trans (.cons _ (.swap z x _))).trans (.cons _ (.cons _ this.symm))
  exact h3 _ _ _ _ _ _
 | some b=>
  have hv:R[k].val m.w=.slice (some ⟨b,0,none⟩) m.w m.w:=by simp[Kr.val,hbk]
  rw[hv] at hrd
  refine LoadOb.mk _ (hrd (.tail _ (.head _))) ?_
  refine BinOb.sliceNil TryzEOK rfl rfl ?_
  refine CondOb.mk (fun e=>by cases e) (fun _=>?_)
  refine CodeOb.draw TryzEOK rfl rfl rfl ?_
  refine LoadOb.mk _ (mc_rd (k:=5) (.head _) (by decide)) ?_
  refine IdxOb.mk ⟨m.bk,0,none⟩ k rfl rfl hk ?_
  refine LoadOb.mk _ (hrd (.tail _ (.head _))) ?_
  refine LoadOb.mk _ (mc_rd (k:=1) (.head _) (by decide)) ?_
  refine ArithOb.mk ((a - m.base:Nat):Int) (wr_eq (by omega) (by omega)) ?_
  refine IdxOb.mk ⟨b,0,none⟩ (a - m.base) rfl rfl (by omega) ?_
  exact⟨_,_,.refl,rfl,R,b,hR,hN,⟨hkR,hbk⟩,by rw[addr_add _ rfl,Nat.zero_add],rfl⟩
theorem OS.at_ {α:Type} {f:α→List Value} {size:Nat} (hf:∀ x,(f x).length=size) (h0:0 < size) {I:GH} {M:List Blk} {os:OS} {l:List α} {e:Nat} (h:os.ok size (l.flatMap f)) (hM:∀ x∈os.blk e,x∈M) {g:Nat} (hg:os.a=some g) {i:Nat} (hi:i < l.length):Rd I M ⟨g,i * size,none⟩ size (f l[i]):=by
 obtain⟨ad,had,hrd⟩:=OS.ok.row (I:=I) (M:=M) (e:=e) hf h0 h hM hi
 rw[hg] at had
 cases had
 rwa [addr_add _ rfl,Nat.zero_add] at hrd
structure FrAt (os:OS) (rest:List Fm) (f:Fm) (g:Nat):Prop where
 a:os.a=some g
 ok:os.ok 5 ((rest++[f]).flatMap Fm.cells)
theorem FrAt.rd {os:OS} {rest:List Fm} {f:Fm} {g:Nat} (h:FrAt os rest f g) {I:GH} {M:List Blk} (hM:∀ x∈os.blk 126,x∈M):Rd I M ⟨g,rest.length * 5,none⟩ 5 f.cells:=by
 have:=OS.at_ (I:=I) (M:=M) Fm.cells_len (by decide) h.ok hM h.a (i:=rest.length) (by simp)
 simpa using this
theorem FrAt.put {os:OS} {rest:List Fm} {f:Fm} {g:Nat} (h:FrAt os rest f g) {M:List Blk} (pre post:List Blk) (hM:M=pre++(os.blk 126++post)) (k:Nat) (hk:k < 5) {v:Value} (hv:allOne [v]=true) (f':Fm) (hf':splice f.cells k [v]=f'.cells) {K:List Blk→Prop}
  (kk:∀ os':OS,os'.val=os.val→FrAt os' rest f' g→K (pre++(os'.blk 126++post))):StoreOb M ((⟨g,rest.length * 5,none⟩:Addr).add k) [v] K:=by
 rw[addr_add _ rfl]
 refine OS.put Fm.cells 5 Fm.cells_len h.ok (i:=rest.length) (by simp) k (by simp only[List.length_cons,List.length_nil];omega) hv f' (by simpa using hf') pre post hM h.a rfl ?_
 intro os' e1 e2 e3 e4
 refine kk os' e1 ⟨e2.trans h.a,?_⟩
 have:(rest++[f]).set rest.length f'=rest++[f']:=by
  rw[List.set_append_right _ _ (Nat.le_refl _),Nat.sub_self,List.set_cons_zero]
 rwa [this] at e4
theorem add_spec {I:GH} {os:OS} {rest:List Fm} {f:Fm} {g:Nat} (h:FrAt os rest f g) (c:Ce) (h1:f.times≤2147483646) (h2:f.n≤65537) (h3:c.n≤65537) (h4:c.to≤4096):Spec Tryz.prog 102 [.pointer (some ⟨g,rest.length * 5,none⟩),c.val] I (os.blk 126)
  fun v I' M'=>I'=I∧∃ os':OS,os'.val=os.val∧FrAt os' rest (f.add c) g∧M'=os'.blk 126:=by
 refine spec_of_V [] TryzEOK Tryz.func102 rfl rfl rfl ?_
 intro B h0
 have e0:os.blk 126=[]++(os.blk 126++[]):=by simp
 refine LoadOb.mk _ ((h.rd fun x hx=>hx).part (k:=2) (m:=1) (by decide)) ?_
 refine ArithOb.mk ((f.times+1:Nat):Int) (by rw[wrap_i32 (by omega) (by omega)];simp) ?_
 refine h.put [] [] e0 2 (by decide) rfl ⟨f.nd,f.pl,f.times+1,f.to,f.n⟩ rfl ?_
 intro os1 v1 a1
 refine ArithOb.mk (c.to:Int) (wrap_i32 (by omega) (by omega)) ?_
 refine a1.put [] [] rfl 3 (by decide) rfl ⟨f.nd,f.pl,f.times+1,c.to,f.n⟩ rfl ?_
 intro os2 v2 a2
 refine CodeOb.draw TryzEOK rfl rfl rfl ?_
 refine LoadOb.mk _ ((a2.rd fun x hx=>by simpa using hx).part (k:=4) (m:=1) (by decide)) ?_
 refine ArithOb.mk ((f.n+c.n:Nat):Int) (show IntKind.i32.wrap ((f.n:Int)+(c.n:Int))=_ by rw[wrap_i32 (by omega) (by omega)];simp) ?_
 refine a2.put [] [] rfl 4 (by decide) rfl (f.add c) ?_ ?_
 ·show [Value.int .i32 f.nd,.int .i32 f.pl,.int .i32 ((f.times+1:Nat):Int),.int .i32 c.to,.int .i32 (min ((f.n+c.n:Nat):Int) 65537)]=_
  rw[show min ((f.n+c.n:Nat):Int) 65537=((min (f.n+c.n) 65537:Nat):Int) by omega]
  rfl
 intro os3 v3 a3
 exact⟨_,_,.refl,rfl,os3,v3.trans (v2.trans v1),a3,by simp⟩
def HdPost (P:Pk) (f:Fm) (c:Ce) (rest:List Fm) (g:Nat) (os:OS) (I:GH) (v:Value) (I':GH) (M':List Blk):Prop:=
 I'=I∧match handleM P f c with
  | .loop=>v=.tuple #[ce0.val,.bool false,.int .i64 43]∧M'=os.blk 126
  | .on f' c' done=>v=.tuple #[c'.val,.bool done,.int .i64 0]∧∃ os':OS,os'.val=os.val∧FrAt os' rest f' g∧M'=os'.blk 126
theorem HdPost.on {P:Pk} {f f':Fm} {c c':Ce} {done:Bool} {rest:List Fm} {g:Nat} {os os':OS} {I:GH} {v:Value} (hh:handleM P f c=.on f' c' done) (hv:v=.tuple #[c'.val,.bool done,.int .i64 0]) (h1:os'.val=os.val) (h2:FrAt os' rest f' g):HdPost P f c rest g os I v I (os'.blk 126):=by
 unfold HdPost
 rw[hh]
 exact⟨rfl,hv,os',h1,h2,rfl⟩
structure HdPre (I:GH) (P:Pk) (f:Fm) (c:Ce) (x:MN) (pn:Addr):Prop where
 rd:∀ M,Rd I M pn 10 x.cells
 pn:P.at_ f.nd=x.pn
 n:x.asks.length=x.n
 pl:f.pl≤4096
 to:f.to≤4096
 times:f.times≤1000000
 fn:f.n≤65537
 cn:c.n≤65537
 cto:c.to≤4096
section
variable {I:GH} {P:Pk} {f:Fm} {c:Ce} {x:MN} {pn:Addr} {os:OS} {rest:List Fm} {g:Nat}
theorem HdPre.kd (h:HdPre I P f c x pn) {j:Int} (hk:x.d.k=j):(P.at_ f.nd).d.k=j:=by rw[h.pn];exact hk
theorem HdPre.ld (h:HdPre I P f c x pn) {off:Nat} (ho:off < 9) (M:List Blk):Rd I M ((pn.add 0).add off) 1 ((x.d.cells.drop off).take 1):=by
 have h1:=(h.rd M).part (k:=0) (m:=9) (by decide)
 exact h1.part (k:=off) (m:=1) (by omega)
theorem hSame_spec (h:HdPre I P f c x pn) (hf:FrAt os rest f g) (hk:x.d.k < 4):Spec Tryz.prog 79 [.pointer (some pn),.pointer (some ⟨g,rest.length * 5,none⟩),c.val] I (os.blk 126) (HdPost P f c rest g os I):=by
 refine spec_of_V [] TryzEOK Tryz.func79 rfl rfl rfl ?_
 intro B h0
 refine⟨_,_,.refl,.on (f':=f) (c':=c) (done:=true) ?_ rfl rfl hf⟩
 have hd:(P.at_ f.nd).d.k < 4:=by rw[h.pn];exact hk
 simp only[handleM,decide_eq_true hd,cond_true]
theorem hAnd_spec (h:HdPre I P f c x pn) (hf:FrAt os rest f g) (hk:x.d.k=7):Spec Tryz.prog 83 [.pointer (some pn),.pointer (some ⟨g,rest.length * 5,none⟩),c.val] I (os.blk 126) (HdPost P f c rest g os I):=by
 refine spec_of_V [] TryzEOK Tryz.func83 rfl rfl rfl ?_
 intro B h0
 have hh:handleM P f c=bif Nat.beq c.st 3 then .on f (ceM f.pl 0) true else .on f c true:=by
  simp only[handleM,h.kd hk]
  rfl
 refine CondOb.mk (fun e=>?_) (fun e=>?_)
 ·have e':c.st=3:=by have:=of_decide_eq_true e;omega
  refine LoadOb.mk _ ((hf.rd fun x hx=>hx).part (k:=1) (m:=1) (by decide)) ?_
  refine CallOb.whole _ (match_spec f.pl 0 h.pl) ?_
  rintro v I' M' - ⟨rfl,rfl,rfl⟩
  exact⟨_,_,.refl,.on (by rw[hh,e'];rfl) rfl rfl hf⟩
 ·have e':Nat.beq c.st 3=false:=by
   rw[Bool.eq_false_iff]
   intro e2
   have:=Nat.eq_of_beq_eq_true e2
   have:=of_decide_eq_false e
   omega
  exact⟨_,_,.refl,.on (by rw[hh,e'];rfl) rfl rfl hf⟩
theorem hNot_spec (h:HdPre I P f c x pn) (hf:FrAt os rest f g) (hk:x.d.k=8):Spec Tryz.prog 84 [.pointer (some pn),.pointer (some ⟨g,rest.length * 5,none⟩),c.val] I (os.blk 126) (HdPost P f c rest g os I):=by
 refine spec_of_V [] TryzEOK Tryz.func84 rfl rfl rfl ?_
 intro B h0
 have hh:handleM P f c=bif Nat.beq c.st 2 then .on f (ceM f.pl 0) true else .on f ceF true:=by
  simp only[handleM,h.kd hk]
  rfl
 refine CondOb.mk (fun e=>?_) (fun e=>?_)
 ·have e':c.st=2:=by have:=of_decide_eq_true e;omega
  refine LoadOb.mk _ ((hf.rd fun x hx=>hx).part (k:=1) (m:=1) (by decide)) ?_
  refine CallOb.whole _ (match_spec f.pl 0 h.pl) ?_
  rintro v I' M' - ⟨rfl,rfl,rfl⟩
  exact⟨_,_,.refl,.on (by rw[hh,e'];rfl) rfl rfl hf⟩
 ·have e':Nat.beq c.st 2=false:=by
   rw[Bool.eq_false_iff]
   intro e2
   have:=Nat.eq_of_beq_eq_true e2
   have:=of_decide_eq_false e
   omega
  exact⟨_,_,.refl,.on (by rw[hh,e'];rfl) rfl rfl hf⟩
theorem hCap_spec (h:HdPre I P f c x pn) (hf:FrAt os rest f g) (hk:x.d.k=9):Spec Tryz.prog 85 [.pointer (some pn),.pointer (some ⟨g,rest.length * 5,none⟩),c.val] I (os.blk 126) (HdPost P f c rest g os I):=by
 refine spec_of_V [] TryzEOK Tryz.func85 rfl rfl rfl ?_
 intro B h0
 have hcn:=h.cn
 have hct:=h.cto
 have hh:handleM P f c=bif Nat.beq c.st 3 then .on f (ceM c.to (c.n+1)) true else .on f c true:=by
  simp only[handleM,h.kd hk]
  rfl
 refine CondOb.mk (fun e=>?_) (fun e=>?_)
 ·have e':c.st=3:=by have:=of_decide_eq_true e;omega
  refine ArithOb.mk (c.to:Int) (wrap_i32 (by omega) (by omega)) ?_
  refine ArithOb.mk ((c.n+1:Nat):Int) (by rw[wrap_i32 (by omega) (by omega)];simp) ?_
  refine CallOb.whole _ (match_spec c.to (c.n+1) hct) ?_
  rintro v I' M' - ⟨rfl,rfl,rfl⟩
  exact⟨_,_,.refl,.on (by rw[hh,e'];rfl) rfl rfl hf⟩
 ·have e':Nat.beq c.st 3=false:=by
   rw[Bool.eq_false_iff]
   intro e2
   have:=Nat.eq_of_beq_eq_true e2
   have:=of_decide_eq_false e
   omega
  exact⟨_,_,.refl,.on (by rw[hh,e'];rfl) rfl rfl hf⟩
theorem hSeq_spec (h:HdPre I P f c x pn) (hf:FrAt os rest f g) (hk:x.d.k=4):Spec Tryz.prog 80 [.pointer (some pn),.pointer (some ⟨g,rest.length * 5,none⟩),c.val] I (os.blk 126) (HdPost P f c rest g os I):=by
 refine spec_of_V [] TryzEOK Tryz.func80 rfl rfl rfl ?_
 intro B h0
 have hcn:=h.cn
 have hct:=h.cto
 have hft:=h.times
 have hn:=h.n
 have hh:handleM P f c=bif Nat.beq c.st 2 then .on f c true else .on (f.add c) (ceM c.to (min (f.n+c.n) 65537)) (decide (f.times+1=x.asks.length)):=by
  simp only[handleM,h.kd hk]
  rw[h.pn]
  rfl
 refine CondOb.mk (fun e=>?_) (fun e=>?_)
 ·have e':c.st=2:=by have:=of_decide_eq_true e;omega
  exact⟨_,_,.refl,.on (by rw[hh,e'];rfl) rfl rfl hf⟩
 ·have e':Nat.beq c.st 2=false:=by
   rw[Bool.eq_false_iff]
   intro e2
   have:=Nat.eq_of_beq_eq_true e2
   have:=of_decide_eq_false e
   omega
  refine CallOb.whole _ (add_spec hf c (by omega) h.fn hcn hct) ?_
  rintro v I' M' - ⟨rfl,os1,v1,a1,rfl⟩
  refine CodeOb.draw TryzEOK rfl rfl rfl ?_
  refine LoadOb.mk _ ((a1.rd fun x hx=>hx).part (k:=3) (m:=1) (by decide)) ?_
  refine LoadOb.mk _ ((a1.rd fun x hx=>hx).part (k:=4) (m:=1) (by decide)) ?_
  refine LoadOb.mk _ ((a1.rd fun x hx=>hx).part (k:=2) (m:=1) (by decide)) ?_
  refine ArithOb.mk ((f.times+1:Nat):Int) (wr_eq rfl (by omega)) ?_
  refine LoadOb.mk _ ((h.rd _).part (k:=9) (m:=1) (by decide)) ?_
  refine PCallOb.whole _ (match_spec c.to (f.add c).n hct) (fun v I' M' h x hx=>by rw[h.2.2];exact hx) ?_
  rintro v I' M' - ⟨rfl,rfl,rfl⟩
  refine⟨_,_,.refl,.on (by rw[hh,e',cond_false]) ?_ v1 a1⟩
  have:decide (((f.times+1:Nat):Int)=(x.n:Int))=decide (f.times+1=x.asks.length):=by
   rw[Bool.eq_iff_iff]
   simp only[decide_eq_true_eq]
   omega
  rw[←this]
  rfl
theorem hChoice_spec (h:HdPre I P f c x pn) (hf:FrAt os rest f g) (hk:x.d.k=5):Spec Tryz.prog 81 [.pointer (some pn),.pointer (some ⟨g,rest.length * 5,none⟩),c.val] I (os.blk 126) (HdPost P f c rest g os I):=by
 refine spec_of_V [] TryzEOK Tryz.func81 rfl rfl rfl ?_
 intro B h0
 have hft:=h.times
 have hn:=h.n
 have hh:handleM P f c=bif Nat.beq c.st 3 then .on f c true else .on { f with times:=f.times+1 } c (decide (f.times+1=x.asks.length)):=by
  simp only[handleM,h.kd hk]
  rw[h.pn]
  rfl
 have e0:os.blk 126=[]++(os.blk 126++[]):=by simp
 refine CondOb.mk (fun e=>?_) (fun e=>?_)
 ·have e':c.st=3:=by have:=of_decide_eq_true e;omega
  exact⟨_,_,.refl,.on (by rw[hh,e'];rfl) rfl rfl hf⟩
 ·have e':Nat.beq c.st 3=false:=by
   rw[Bool.eq_false_iff]
   intro e2
   have:=Nat.eq_of_beq_eq_true e2
   have:=of_decide_eq_false e
   omega
  refine LoadOb.mk _ ((hf.rd fun x hx=>hx).part (k:=2) (m:=1) (by decide)) ?_
  refine ArithOb.mk ((f.times+1:Nat):Int) (by rw[wrap_i32 (by omega) (by omega)];simp) ?_
  refine hf.put [] [] e0 2 (by decide) rfl { f with times:=f.times+1 } rfl ?_
  intro os1 v1 a1
  refine CodeOb.draw TryzEOK rfl rfl rfl ?_
  refine LoadOb.mk _ ((a1.rd fun x hx=>by simpa using hx).part (k:=2) (m:=1) (by decide)) ?_
  refine ArithOb.mk ((f.times+1:Nat):Int) (wr_eq rfl (by omega)) ?_
  refine LoadOb.mk _ ((h.rd _).part (k:=9) (m:=1) (by decide)) ?_
  have:=HdPost.on (P:=P) (f:=f) (c:=c) (I:=I) (v:=.tuple #[c.val,.bool (decide (((f.times+1:Nat):Int)=(x.n:Int))),.int .i64 0]) (rest:=rest) (g:=g) (os:=os) (os':=os1) (f':={ f with times:=f.times+1 }) (c':=c) (done:=decide (f.times+1=x.asks.length)) (by rw[hh,e',cond_false]) (by
   have:decide (((f.times+1:Nat):Int)=(x.n:Int))=decide (f.times+1=x.asks.length):=by
    rw[Bool.eq_iff_iff]
    simp only[decide_eq_true_eq]
    omega
   rw[this]) v1 a1
  exact⟨_,os1.blk 126,.eqM (by simp),this⟩
theorem hRep_spec (h:HdPre I P f c x pn) (hf:FrAt os rest f g) (hk:x.d.k=6):Spec Tryz.prog 82 [.pointer (some pn),.pointer (some ⟨g,rest.length * 5,none⟩),c.val] I (os.blk 126) (HdPost P f c rest g os I):=by
 refine spec_of_V [] TryzEOK Tryz.func82 rfl rfl rfl ?_
 intro B h0
 have hcn:=h.cn
 have hct:=h.cto
 have hft:=h.times
 have hfto:=h.to
 have hh:handleM P f c=bif Nat.beq c.st 2 then (bif decide ((f.times:Int) < x.d.lo) then .on f c true else .on f (ceM f.to f.n) true)
   else bif decide (x.d.hi=-1) && decide (c.to=f.to) then .loop else .on (f.add c) (ceM c.to (min (f.n+c.n) 65537)) (decide (((f.times+1:Nat):Int)=x.d.hi)):=by
  simp only[handleM,h.kd hk]
  rw[h.pn]
  rfl
 refine CondOb.mk (fun e=>?_) (fun e=>?_)
 ·have e':c.st=2:=by have:=of_decide_eq_true e;omega
  refine CodeOb.draw TryzEOK rfl rfl rfl ?_
  refine LoadOb.mk _ ((hf.rd fun x hx=>hx).part (k:=2) (m:=1) (by decide)) ?_
  refine ArithOb.mk (f.times:Int) (wr_eq rfl (by omega)) ?_
  refine LoadOb.mk _ (h.ld (off:=6) (by decide) _) ?_
  refine CondOb.mk (fun e2=>?_) (fun e2=>?_)
  ·exact⟨_,_,.refl,.on (by rw[hh,e',show decide ((f.times:Int) < x.d.lo)=true from e2];rfl) rfl rfl hf⟩
  ·refine CodeOb.draw TryzEOK rfl rfl rfl ?_
   refine LoadOb.mk _ ((hf.rd fun x hx=>hx).part (k:=3) (m:=1) (by decide)) ?_
   refine LoadOb.mk _ ((hf.rd fun x hx=>hx).part (k:=4) (m:=1) (by decide)) ?_
   refine CallOb.whole _ (match_spec f.to f.n hfto) ?_
   rintro v I' M' - ⟨rfl,rfl,rfl⟩
   exact⟨_,_,.refl,.on (by rw[hh,e',show decide ((f.times:Int) < x.d.lo)=false from e2];rfl) rfl rfl hf⟩
 ·have e':Nat.beq c.st 2=false:=by
   rw[Bool.eq_false_iff]
   intro e2
   have:=Nat.eq_of_beq_eq_true e2
   have:=of_decide_eq_false e
   omega
  refine CodeOb.draw TryzEOK rfl rfl rfl ?_
  refine LoadOb.mk _ (h.ld (off:=7) (by decide) _) ?_
  refine GuardOb.mk (fun g1=>?_) (fun g1=>?_)
  ·refine ArithOb.mk (c.to:Int) (wrap_i32 (by omega) (by omega)) ?_
   refine LoadOb.mk _ ((hf.rd fun x hx=>hx).part (k:=3) (m:=1) (by decide)) ?_
   have ec:decide ((c.to:Int)=(f.to:Int))=decide (c.to=f.to):=by
    rw[Bool.eq_iff_iff]
    simp only[decide_eq_true_eq]
    omega
   refine CondOb.mk (fun e2=>?_) (fun e2=>?_)
   ·refine⟨_,_,.refl,rfl,?_⟩
    rw[hh,e',cond_false,show decide (x.d.hi=-1)=true from g1,←ec,show decide ((c.to:Int)=(f.to:Int))=true from e2]
    exact⟨rfl,rfl⟩
   ·have hc:(decide (x.d.hi=-1) && decide (c.to=f.to))=false:=by rw[←ec,show decide ((c.to:Int)=(f.to:Int))=false from e2,Bool.and_false]
    refine CallOb.whole _ (add_spec hf c (by omega) h.fn hcn hct) ?_
    rintro v I' M' - ⟨rfl,os1,v1,a1,rfl⟩
    refine CodeOb.draw TryzEOK rfl rfl rfl ?_
    refine LoadOb.mk _ ((a1.rd fun x hx=>hx).part (k:=3) (m:=1) (by decide)) ?_
    refine LoadOb.mk _ ((a1.rd fun x hx=>hx).part (k:=4) (m:=1) (by decide)) ?_
    refine LoadOb.mk _ ((a1.rd fun x hx=>hx).part (k:=2) (m:=1) (by decide)) ?_
    refine ArithOb.mk ((f.times+1:Nat):Int) (wr_eq rfl (by omega)) ?_
    refine LoadOb.mk _ (h.ld (off:=7) (by decide) _) ?_
    refine PCallOb.whole _ (match_spec c.to (f.add c).n hct) (fun v I' M' h x hx=>by rw[h.2.2];exact hx) ?_
    rintro v I' M' - ⟨rfl,rfl,rfl⟩
    exact⟨_,_,.refl,.on (by rw[hh,e',cond_false,hc,cond_false];rfl) rfl v1 a1⟩
  ·have hc:(decide (x.d.hi=-1) && decide (c.to=f.to))=false:=by rw[show decide (x.d.hi=-1)=false from g1,Bool.false_and]
   refine CallOb.whole _ (add_spec hf c (by omega) h.fn hcn hct) ?_
   rintro v I' M' - ⟨rfl,os1,v1,a1,rfl⟩
   refine CodeOb.draw TryzEOK rfl rfl rfl ?_
   refine LoadOb.mk _ ((a1.rd fun x hx=>hx).part (k:=3) (m:=1) (by decide)) ?_
   refine LoadOb.mk _ ((a1.rd fun x hx=>hx).part (k:=4) (m:=1) (by decide)) ?_
   refine LoadOb.mk _ ((a1.rd fun x hx=>hx).part (k:=2) (m:=1) (by decide)) ?_
   refine ArithOb.mk ((f.times+1:Nat):Int) (wr_eq rfl (by omega)) ?_
   refine LoadOb.mk _ (h.ld (off:=7) (by decide) _) ?_
   refine PCallOb.whole _ (match_spec c.to (f.add c).n hct) (fun v I' M' h x hx=>by rw[h.2.2];exact hx) ?_
   rintro v I' M' - ⟨rfl,rfl,rfl⟩
   exact⟨_,_,.refl,.on (by rw[hh,e',cond_false,hc,cond_false];rfl) rfl v1 a1⟩
def handFs:List Nat:=[79,79,79,79,80,81,82,83,84,85]
def handVs:List Value:=[.func (.func 79) #[] #[],.func (.func 79) #[] #[],.func (.func 79) #[] #[],.func (.func 79) #[] #[],.func (.func 80) #[] #[],.func (.func 81) #[] #[],.func (.func 82) #[] #[],.func (.func 83) #[] #[],.func (.func 84) #[] #[],.func (.func 85) #[] #[]]
theorem handlers_spec {M:List Blk}:Spec Tryz.prog 58 [] I M fun v I' M'=>v=.agg handVs.toArray∧I'=I∧M'=M:=by
 refine spec_of_V [] TryzEOK Tryz.func58 rfl rfl rfl ?_
 intro B h0
 exact⟨_,_,.refl,rfl,rfl,rfl⟩
theorem hand_at (h:HdPre I P f c x pn) (hf:FrAt os rest f g) (j:Nat) (hj:j < 10) (hd:x.d.k=j):Spec Tryz.prog (handFs.getD j 0) [.pointer (some pn),.pointer (some ⟨g,rest.length * 5,none⟩),c.val] I (os.blk 126) (HdPost P f c rest g os I):=by
 match j,hj with
 | 0,_=>exact hSame_spec h hf (by omega)
 | 1,_=>exact hSame_spec h hf (by omega)
 | 2,_=>exact hSame_spec h hf (by omega)
 | 3,_=>exact hSame_spec h hf (by omega)
 | 4,_=>exact hSeq_spec h hf hd
 | 5,_=>exact hChoice_spec h hf hd
 | 6,_=>exact hRep_spec h hf hd
 | 7,_=>exact hAnd_spec h hf hd
 | 8,_=>exact hNot_spec h hf hd
 | 9,_=>exact hCap_spec h hf hd
end
theorem bit_and {w:Int} (hw:u64ok w) (k:Nat):decide (IntKind.u64.wrap ((BitVec.ofInt 64 (w.fdiv (2 ^ k)) &&& BitVec.ofInt 64 1).toNat:Int)=1)=w.toNat.testBit k:=by
 obtain⟨n,rfl⟩:=Int.eq_ofNat_of_zero_le hw.1
 have hn:n < 18446744073709551616:=by have:=hw.2;omega
 have e1:((n:Int)).fdiv (2 ^ k)=((n / 2 ^ k:Nat):Int):=by
  rw[Int.fdiv_eq_ediv_of_nonneg _ (by exact Int.le_of_lt (Int.pow_pos (by decide)))]
  simp
 rw[e1]
 have e2:(BitVec.ofInt 64 ((n / 2 ^ k:Nat):Int) &&& BitVec.ofInt 64 1).toNat=n / 2 ^ k % 2:=by
  have h1:BitVec.ofInt 64 ((n / 2 ^ k:Nat):Int)=BitVec.ofNat 64 (n / 2 ^ k):=(show ∀ m:Nat,BitVec.ofInt 64 (m:Int)=BitVec.ofNat 64 m from fun m=>by simp) _
  have h2:BitVec.ofInt 64 1=BitVec.ofNat 64 1:=by decide
  rw[h1,h2,BitVec.toNat_and,BitVec.toNat_ofNat,BitVec.toNat_ofNat]
  have h3:n / 2 ^ k % 2 ^ 64=n / 2 ^ k:=Nat.mod_eq_of_lt (Nat.lt_of_le_of_lt (Nat.div_le_self _ _) hn)
  rw[h3,show 1 % 2 ^ 64=1 by decide,Nat.and_one_is_mod]
 rw[e2]
 have e3:IntKind.u64.wrap ((n / 2 ^ k % 2:Nat):Int)=((n / 2 ^ k % 2:Nat):Int):=by
  have:n / 2 ^ k % 2 < 2:=Nat.mod_lt _ (by decide)
  unfold IntKind.wrap
  simp only[IntKind.bits,IntKind.signed]
  simp
  omega
 rw[e3,Int.toNat_natCast,Nat.testBit_eq_decide_div_mod_eq,Bool.eq_iff_iff]
 simp only[decide_eq_true_eq]
 omega
theorem Has_spec {I:GH} {M:List Blk} {a b c d:Int} (hws:∀ x∈[a,b,c,d],u64ok x) (x:UInt8):Spec Tryz.prog 87 [.agg #[.int .u64 a,.int .u64 b,.int .u64 c,.int .u64 d],.int .u8 x.toNat] I M
  fun v I' M'=>v=.bool (([a,b,c,d].getD (x.toNat / 64) 0).toNat.testBit (x.toNat % 64))∧I'=I∧M'=M:=by
 refine spec_of_V [] TryzEOK Tryz.func87 rfl rfl rfl ?_
 intro B h0
 have hx:x.toNat < 256:=x.toNat_lt
 refine DivOb.mk (by decide) ?_
 refine ArithOb.mk ((x.toNat / 64:Nat):Int) (by
  have:((x.toNat:Int)).tdiv 64=((x.toNat / 64:Nat):Int):=by simp[Int.tdiv_eq_ediv_of_nonneg]
  rw[this]
  unfold IntKind.wrap
  simp only[IntKind.bits,IntKind.signed]
  simp
  omega) ?_
 have hj:x.toNat / 64=0∨x.toNat / 64=1∨x.toNat / 64=2∨x.toNat / 64=3:=by omega
 have hmod:((x.toNat:Int)).tmod 64=((x.toNat % 64:Nat):Int):=by
  rw[Int.tmod_eq_emod_of_nonneg (by omega)]
  simp
 have hmin:min (x.toNat % 64) 64=x.toNat % 64:=by omega
 have fin:∀ w:Int,u64ok w→Value.bool (decide (IntKind.u64.wrap ((BitVec.ofInt 64 (w.fdiv (2 ^ (min (x.toNat % 64) 64))) &&& BitVec.ofInt 64 1).toNat:Int)=1))=.bool (w.toNat.testBit (x.toNat % 64)):=fun w hw=>by rw[hmin,bit_and hw]
 rcases hj with e | e | e | e<;>rw[e]
 ·refine ArrOb.mk 0 rfl (by decide) ?_
  refine DivOb.mk (by decide) ?_
  refine ShOb.mk _ hmod ?_
  exact⟨_,_,.refl,fin a (hws a (by simp)),rfl,rfl⟩
 ·refine ArrOb.mk 1 rfl (by decide) ?_
  refine DivOb.mk (by decide) ?_
  refine ShOb.mk _ hmod ?_
  exact⟨_,_,.refl,fin b (hws b (by simp)),rfl,rfl⟩
 ·refine ArrOb.mk 2 rfl (by decide) ?_
  refine DivOb.mk (by decide) ?_
  refine ShOb.mk _ hmod ?_
  exact⟨_,_,.refl,fin c (hws c (by simp)),rfl,rfl⟩
 ·refine ArrOb.mk 3 rfl (by decide) ?_
  refine DivOb.mk (by decide) ?_
  refine ShOb.mk _ hmod ?_
  exact⟨_,_,.refl,fin d (hws d (by simp)),rfl,rfl⟩
def prefB (s t:ByteArray):Bool:=decide (t.size≤s.size) && decide (s.extract 0 t.size=t)
theorem HasPrefixL_spec {I:GH} {M:List Blk} (s t:ByteArray):Spec Tryz.prog 103 [.string s,.string t] I M fun v I' M'=>v=.bool (prefB s t)∧I'=I∧M'=M:=by
 refine spec_of_V [] TryzEOK Tryz.func103 rfl rfl rfl ?_
 intro B h0
 have hd:decide ((t.size:Int)≤(s.size:Int))=decide (t.size≤s.size):=by
  rw[Bool.eq_iff_iff]
  simp only[decide_eq_true_eq]
  omega
 refine GuardOb.mk (fun h=>?_) (fun h=>?_)
 ·have h':(t.size:Int)≤(s.size:Int):=of_decide_eq_true h
  refine SliceOb.mk 0 t.size rfl rfl (Nat.zero_le _) (by omega) ?_
  refine⟨_,_,.refl,?_,rfl,rfl⟩
  rw[prefB,←hd,show decide ((t.size:Int)≤(s.size:Int))=true from h,Bool.true_and]
 ·refine⟨_,_,.refl,?_,rfl,rfl⟩
  rw[prefB,←hd,show decide ((t.size:Int)≤(s.size:Int))=false from h,Bool.false_and]
theorem HasPrefix_spec {I:GH} {M:List Blk} (s t:ByteArray):Spec Tryz.prog 88 [.string s,.string t] I M fun v I' M'=>v=.bool (prefB s t)∧I'=I∧M'=M:=by
 refine spec_of_V [] TryzEOK Tryz.func88 rfl rfl rfl ?_
 intro B h0
 refine CallOb.whole _ (HasPrefixL_spec s t) ?_
 rintro v I' M' - ⟨rfl,rfl,rfl⟩
 exact⟨_,_,.refl,rfl,rfl,rfl⟩
theorem preB_eq (s t:ByteArray) {a:Nat} (ha:a≤s.size):prefB (s.extract a s.size) t=preB s t a:=by
 have h1:(s.extract a s.size).size=s.size - a:=by simp[ByteArray.size_extract]
 unfold prefB preB
 rw[h1]
 by_cases h:t.size≤s.size - a
 ·have e2:(s.extract a s.size).extract 0 t.size=s.extract a (a+t.size):=by
   rw[ByteArray.extract_extract]
   congr 1
   omega
  rw[e2,decide_eq_true h,decide_eq_true (by omega:a+t.size≤s.size)]
 ·rw[decide_eq_false h,decide_eq_false (by omega:¬ a+t.size≤s.size)]
  rfl
theorem pk_at {I:GH} {m:Mc} (hns:m.ns.ok I) {k:Nat} (hk:k < m.ns.n):∃ x,∃ h:k < m.ns.xs.length,m.ns.xs[k]=x∧m.pk.at_ k=x.pn∧x.ok I∧∃ ad,m.ns.a=some ad∧∀ M,Rd I M (ad.add (k * 10)) 10 x.cells:=by
 have hn:=hns.n
 have hk':k < m.ns.xs.length:=by omega
 obtain⟨ad,h1,h2⟩:=hns.rs.row MN.cells_len hk hk'
 refine⟨_,hk',rfl,?_,hns.xs _ (List.getElem_mem hk'),ad,h1,h2⟩
 simp[Pk.at_,Mc.pk,List.getD_eq_getElem?_getD,hk']
theorem mn_ld {I:GH} {x:MN} {pn:Addr} (h:∀ M,Rd I M pn 10 x.cells) {off n:Nat} (ho:off+n≤9) (M:List Blk):Rd I M ((pn.add 0).add off) n ((x.d.cells.drop off).take n):=by
 have h1:=(h M).part (k:=0) (m:=9) (by decide)
 exact h1.part (k:=off) (m:=n) ho
set_option maxHeartbeats 4000000 in
theorem alone_spec {I:GH} {Mr:List Blk} (m:Mc) (hns:m.ns.ok I) (hs:m.s.size≤4096) {used N:Nat} {os:OS} {k a:Nat} (hk:k < m.ns.n) (ha:a≤m.s.size) (htx:∀ x∈m.ns.xs,x.d.t.size≤4096):Spec Tryz.prog 61 [ptr m.bm,.int .i64 k,.int .i64 a] I (mcB m used N os::Mr)
  fun v I' M'=>I'=I∧M'=mcB m used N os::Mr∧∃ c:Ce,v=.tuple #[c.val,.bool (aloneM m.pk k a).isSome]∧∀ c',aloneM m.pk k a=some c'→c'=c:=by
 refine spec_of_V [] TryzEOK Tryz.func61 rfl rfl rfl ?_
 intro B h0
 obtain⟨x,hkx,hxe,hpn,hxo,ad,had,hrd⟩:=pk_at hns hk
 have htx':=htx x (by rw[←hxe];exact List.getElem_mem hkx)
 have kd:∀ j:Int,x.d.k=j→(m.pk.at_ k).d.k=j:=fun j e=>by rw[hpn];exact e
 have hps:m.pk.s=m.s:=rfl
 refine LoadOb.mk _ (mc_rd (k:=4) (.head _) (by decide)) ?_
 refine IdxOb.mk ad k had rfl hk ?_
 refine LoadOb.mk _ (mn_ld hrd (off:=0) (n:=1) (by decide) _) ?_
 refine CondOb.mk (fun e=>?_) (fun e0=>?_)
 ·have e':x.d.k=0:=of_decide_eq_true e
  have hal:aloneM m.pk k a=some (ceM a 0):=by simp only[aloneM,kd 0 e'];rfl
  refine ArithOb.mk (a:Int) (wrap_i32 (by omega) (by omega)) ?_
  refine CallOb.whole _ (match_spec a 0 (by omega)) ?_
  rintro v I' M' - ⟨rfl,rfl,rfl⟩
  exact⟨_,_,.refl,rfl,rfl,ceM a 0,by rw[hal];rfl,fun c' h=>by rw[hal] at h;exact(Option.some.inj h).symm⟩
 refine CondOb.mk (fun e=>?_) (fun e1=>?_)
 ·have e':x.d.k=1:=of_decide_eq_true e
  have hal:aloneM m.pk k a=match m.s.data[a]? with
    | some b=>bif hasN x.d b.toNat then some (ceM (a+1) 0) else some ceF
    | none=>some ceF:=by
   simp only[aloneM,kd 1 e',hps]
   rw[hpn]
   rfl
  refine CodeOb.draw TryzEOK rfl rfl rfl ?_
  refine LoadOb.mk _ (mc_rd (k:=0) (.head _) (by decide)) ?_
  refine GuardOb.mk (fun g=>?_) (fun g=>?_)
  ·have hlt:a < m.s.size:=by have:(a:Int) < (m.s.size:Int):=of_decide_eq_true g;omega
   have hal2:aloneM m.pk k a=bif hasN x.d m.s[a].toNat then some (ceM (a+1) 0) else some ceF:=by
    rw[hal,Array.getElem?_eq_getElem hlt]
    rfl
   refine LoadOb.mk _ (mn_ld hrd (off:=1) (n:=4) (by decide) _) ?_
   refine LoadOb.mk _ (mc_rd (k:=0) (.head _) (by decide)) ?_
   refine StrOb.mk a rfl hlt ?_
   refine CallOb.whole _ (Has_spec (a:=x.d.s0) (b:=x.d.s1) (c:=x.d.s2) (d:=x.d.s3) (fun y hy=>by
    simp only[List.mem_cons,List.not_mem_nil,or_false] at hy
    rcases hy with rfl | rfl | rfl | rfl
    ·exact hxo.d.s0
    ·exact hxo.d.s1
    ·exact hxo.d.s2
    ·exact hxo.d.s3) m.s[a]) ?_
   rintro v I' M' - ⟨rfl,rfl,rfl⟩
   refine CondOb.mk (fun e2=>?_) (fun e2=>?_)
   ·have hh:hasN x.d m.s[a].toNat=true:=e2
    rw[hh,cond_true] at hal2
    refine ArithOb.mk ((a+1:Nat):Int) (wr_eq (by simp) (by omega)) ?_
    refine ArithOb.mk ((a+1:Nat):Int) (wrap_i32 (by omega) (by omega)) ?_
    refine CallOb.whole _ (match_spec (a+1) 0 (by omega)) ?_
    rintro v I' M' - ⟨rfl,rfl,rfl⟩
    exact⟨_,_,.refl,rfl,rfl,ceM (a+1) 0,by rw[hal2];rfl,fun c' h=>by rw[hal2] at h;exact(Option.some.inj h).symm⟩
   ·have hh:hasN x.d m.s[a].toNat=false:=e2
    rw[hh,cond_false] at hal2
    exact⟨_,_,.refl,rfl,rfl,ceF,by rw[hal2];rfl,fun c' h=>by rw[hal2] at h;exact(Option.some.inj h).symm⟩
  ·have hge:m.s.data.size≤a:=by have:¬ (a:Int) < (m.s.size:Int):=of_decide_eq_false g;have h2:m.s.size=m.s.data.size:=rfl;omega
   have hal2:aloneM m.pk k a=some ceF:=by rw[hal,Array.getElem?_eq_none hge]
   exact⟨_,_,.refl,rfl,rfl,ceF,by rw[hal2];rfl,fun c' h=>by rw[hal2] at h;exact(Option.some.inj h).symm⟩
 refine CondOb.mk (fun e=>?_) (fun e2=>?_)
 ·have e':x.d.k=2:=of_decide_eq_true e
  have hal:aloneM m.pk k a=bif preB m.s x.d.t a then some (ceM (a+x.d.t.size) 0) else some ceF:=by
   simp only[aloneM,kd 2 e',hps]
   rw[hpn]
   rfl
  refine CodeOb.draw TryzEOK rfl rfl rfl ?_
  refine LoadOb.mk _ (mc_rd (k:=0) (.head _) (by decide)) ?_
  refine SliceOb.mk a m.s.size rfl rfl ha (Nat.le_refl _) ?_
  refine LoadOb.mk _ (mn_ld hrd (off:=5) (n:=1) (by decide) _) ?_
  have hsp:=HasPrefix_spec (I:=I) (M:=mcB m used N os::Mr) (m.s.extract a m.s.size) x.d.t
  rw[preB_eq _ _ ha] at hsp
  refine CallOb.whole _ hsp ?_
  rintro v I' M' - ⟨rfl,rfl,rfl⟩
  refine CondOb.mk (fun e2=>?_) (fun e2=>?_)
  ·have hh:preB m.s x.d.t a=true:=e2
   rw[hh,cond_true] at hal
   have hle:a+x.d.t.size≤m.s.size:=by
    unfold preB at hh
    simp only[Bool.and_eq_true,decide_eq_true_eq] at hh
    exact hh.1
   refine LoadOb.mk _ (mn_ld hrd (off:=5) (n:=1) (by decide) _) ?_
   refine ArithOb.mk ((a+x.d.t.size:Nat):Int) (wr_eq (by simp) (by omega)) ?_
   refine ArithOb.mk ((a+x.d.t.size:Nat):Int) (wrap_i32 (by omega) (by omega)) ?_
   refine CallOb.whole _ (match_spec (a+x.d.t.size) 0 (by omega)) ?_
   rintro v I' M' - ⟨rfl,rfl,rfl⟩
   exact⟨_,_,.refl,rfl,rfl,ceM (a+x.d.t.size) 0,by rw[hal];rfl,fun c' h=>by rw[hal] at h;exact(Option.some.inj h).symm⟩
  ·have hh:preB m.s x.d.t a=false:=e2
   rw[hh,cond_false] at hal
   exact⟨_,_,.refl,rfl,rfl,ceF,by rw[hal];rfl,fun c' h=>by rw[hal] at h;exact(Option.some.inj h).symm⟩
 have n0:¬ x.d.k=0:=of_decide_eq_false e0
 have n1:¬ x.d.k=1:=of_decide_eq_false e1
 have n2:¬ x.d.k=2:=of_decide_eq_false e2
 have hal:aloneM m.pk k a=bif decide (x.d.k=6) && decide (x.d.hi=0) then some (ceM a 0) else none:=by
  simp only[aloneM,hpn]
  rw[show decide (x.pn.d.k=0)=false from e0,show decide (x.pn.d.k=1)=false from e1,show decide (x.pn.d.k=2)=false from e2]
  rfl
 refine CondOb.mk (fun e=>?_) (fun e6=>?_)
 ·refine CodeOb.draw TryzEOK rfl rfl rfl ?_
  refine ArithOb.mk (a:Int) (wrap_i32 (by omega) (by omega)) ?_
  refine LoadOb.mk _ (mn_ld hrd (off:=7) (n:=1) (by decide) _) ?_
  refine PCallOb.whole _ (match_spec a 0 (by omega)) (fun v I' M' h x hx=>by rw[h.2.2];exact hx) ?_
  rintro v I' M' - ⟨rfl,rfl,rfl⟩
  rw[show decide (x.d.k=6)=true from e,Bool.true_and] at hal
  refine⟨_,_,.refl,rfl,rfl,ceM a 0,?_,fun c' h=>?_⟩
  ·have:(aloneM m.pk k a).isSome=decide (x.d.hi=0):=by rw[hal];cases decide (x.d.hi=0)<;>rfl
   rw[this]
   rfl
  ·rw[hal] at h
   cases hd:decide (x.d.hi=0) with
   | true=>rw[hd] at h;exact(Option.some.inj h).symm
   | false=>rw[hd] at h;cases h
 ·rw[show decide (x.d.k=6)=false from e6,Bool.false_and] at hal
  exact⟨_,_,.refl,rfl,rfl,ce0,by rw[hal];rfl,fun c' h=>by rw[hal] at h;cases h⟩
theorem FrAt.rd' {os:OS} {rest:List Fm} {f:Fm} {g:Nat} (h:FrAt os rest f g) {I:GH} {M:List Blk} (hM:∀ x∈os.blk 126,x∈M):Rd I M ((⟨g,0,none⟩:Addr).add (rest.length * 5)) 5 f.cells:=by
 rw[addr_add _ rfl,Nat.zero_add]
 exact h.rd hM
theorem FrAt.n {os:OS} {rest:List Fm} {f:Fm} {g:Nat} (h:FrAt os rest f g):os.n=rest.length+1:=by
 have:=h.ok.len
 rw[flat_len _ 5 Fm.cells_len] at this
 simp at this
 omega
set_option maxHeartbeats 2000000 in
theorem next_spec {I:GH} {M:List Blk} (m:Mc) (hns:m.ns.ok I) (hP:PkOk m.pk) {used N:Nat} {os:OS} {rest:List Fm} {f:Fm} {g:Nat} (hM1:mcB m used N os∈M) (hM2:∀ x∈os.blk 126,x∈M) (hf:FrAt os rest f g) (hfo:FmOk m.pk f) (hrl:rest.length≤1099511627776) :
  Spec Tryz.prog 62 [ptr m.bm] I M fun v I' M'=>v=.tuple #[.int .i64 (nextM m.pk f).1,.int .i64 (nextM m.pk f).2]∧I'=I∧M'=M:=by
 refine spec_of_V [] TryzEOK Tryz.func62 rfl rfl rfl ?_
 intro B h0
 have hfn:=hf.n
 have hnl:m.pk.ns.length=m.ns.n:=by simp[Mc.pk,hns.n]
 have hnd:f.nd < m.ns.n:=by rw[←hnl];exact hfo.nd
 have hto:=hfo.to
 have hpl:=hfo.pl
 have hsz:=hP.size
 obtain⟨x,hkx,hxe,hpn,hxo,ad,had,hrd⟩:=pk_at hns hnd
 have hal:x.asks.length=x.n:=by have:=hxo.rs.len;simpa using this
 have hmany:=hfo.many
 have hone:=(Pk.at_ok hP hfo.nd).one
 have hk3:=hfo.k
 rw[hpn] at hmany hone hk3
 have ask:∀ j (hj:j < x.asks.length),∃ aa,x.a=some aa∧∀ M,Rd I M (aa.add (j * 1)) 1 [Value.int .i64 ((x.asks.getD j 0:Nat):Int)]:=fun j hj=>by
  obtain⟨aa,h1,h2⟩:=hxo.rs.one (f:=fun (k:Nat)=>Value.int .i64 (k:Int)) (j:=j) (by omega) hj
  refine⟨aa,h1,fun M=>?_⟩
  have e:x.asks.getD j 0=x.asks[j]:=by simp[List.getD_eq_getElem?_getD,hj]
  rw[e]
  exact h2 M
 have hga:os.a.map (fun g=>(⟨g,0,none⟩:Addr))=some ⟨g,0,none⟩:=by rw[hf.a];rfl
 refine CodeOb.draw TryzEOK rfl rfl rfl ?_
 refine LoadOb.mk _ (mc_rd (k:=6) hM1 (by decide)) ?_
 refine LoadOb.mk _ (mc_rd (k:=6) hM1 (by decide)) ?_
 refine ArithOb.mk (rest.length:Int) (wr_eq (by omega) (by omega)) ?_
 refine IdxOb.mk ⟨g,0,none⟩ rest.length hga rfl (by omega) ?_
 refine CodeOb.draw TryzEOK rfl rfl rfl ?_
 refine LoadOb.mk _ (mc_rd (k:=4) hM1 (by decide)) ?_
 refine LoadOb.mk _ ((hf.rd' hM2).part (k:=0) (m:=1) (by decide)) ?_
 refine IdxOb.mk ad f.nd had rfl hnd ?_
 refine LoadOb.mk _ (mn_ld hrd (off:=0) (n:=1) (by decide) _) ?_
 refine CondOb.mk (fun e=>?_) (fun e4=>?_)
 ·have e':x.d.k=4:=of_decide_eq_true e
  have hnx:nextM m.pk f=(x.asks.getD f.times 0,f.to):=by
   simp only[nextM,hpn]
   rw[show decide (x.pn.d.k=4)=true from e]
   rfl
  have hti:=hmany (.inl e')
  obtain⟨aa,h1,h2⟩:=ask f.times hti
  rw[hnx]
  refine CodeOb.draw TryzEOK rfl rfl rfl ?_
  refine LoadOb.mk _ ((hrd _).part (k:=9) (m:=1) (by decide)) ?_
  refine LoadOb.mk _ ((hf.rd' hM2).part (k:=2) (m:=1) (by decide)) ?_
  refine IdxOb.mk aa f.times h1 rfl (by rw[←hal];exact hti) ?_
  refine LoadOb.mk _ (h2 _) ?_
  refine LoadOb.mk _ ((hf.rd' hM2).part (k:=3) (m:=1) (by decide)) ?_
  refine ArithOb.mk (f.to:Int) (wr_eq rfl (by omega)) ?_
  exact⟨_,_,.refl,rfl,rfl,rfl⟩
 refine CondOb.mk (fun e=>?_) (fun e5=>?_)
 ·have e':x.d.k=5:=of_decide_eq_true e
  have hnx:nextM m.pk f=(x.asks.getD f.times 0,f.pl):=by
   simp only[nextM,hpn]
   rw[show decide (x.pn.d.k=4)=false from e4,show decide (x.pn.d.k=5)=true from e]
   rfl
  have hti:=hmany (.inr e')
  obtain⟨aa,h1,h2⟩:=ask f.times hti
  rw[hnx]
  refine CodeOb.draw TryzEOK rfl rfl rfl ?_
  refine LoadOb.mk _ ((hrd _).part (k:=9) (m:=1) (by decide)) ?_
  refine LoadOb.mk _ ((hf.rd' hM2).part (k:=2) (m:=1) (by decide)) ?_
  refine IdxOb.mk aa f.times h1 rfl (by rw[←hal];exact hti) ?_
  refine LoadOb.mk _ (h2 _) ?_
  refine LoadOb.mk _ ((hf.rd' hM2).part (k:=1) (m:=1) (by decide)) ?_
  refine ArithOb.mk (f.pl:Int) (wr_eq rfl (by omega)) ?_
  exact⟨_,_,.refl,rfl,rfl,rfl⟩
 have n4:¬ x.d.k=4:=of_decide_eq_false e4
 have n5:¬ x.d.k=5:=of_decide_eq_false e5
 have hnx:nextM m.pk f=(x.asks.getD 0 0,f.to):=by
  simp only[nextM,hpn]
  rw[show decide (x.pn.d.k=4)=false from e4,show decide (x.pn.d.k=5)=false from e5]
  rfl
 have h1l:x.asks.length=1:=hone (by have:3≤x.d.k:=hk3;show x.d.k=3∨6≤x.d.k;omega)
 obtain⟨aa,h1,h2⟩:=ask 0 (by omega)
 rw[hnx]
 refine CodeOb.draw TryzEOK rfl rfl rfl ?_
 refine LoadOb.mk _ ((hrd _).part (k:=9) (m:=1) (by decide)) ?_
 refine IdxOb.mk aa 0 h1 rfl (by omega) ?_
 refine LoadOb.mk _ (h2 _) ?_
 refine LoadOb.mk _ ((hf.rd' hM2).part (k:=3) (m:=1) (by decide)) ?_
 refine ArithOb.mk (f.to:Int) (wr_eq rfl (by omega)) ?_
 exact⟨_,_,.refl,rfl,rfl,rfl⟩
theorem KrOk.rd {m:Mc} {R:List Kr} {kn:Nat→Nat→Ce} (h:KrOk m R kn) (hw:m.w≤9223372036854775807) {k:Nat} (hk:k < R.length) {b:Nat} (hb:R[k].b=some b) {p:Nat} (hp:p < m.w) {I:GH} {M:List Blk} (hM:∀ x∈krB m R,x∈M):Rd I M ⟨b,p * 3,Option.none⟩ 3 (kn k p).cells:=by
 have hl:=h.len _ (List.getElem_mem hk)
 have hok:=Kr.os_ok hl hw hb
 have:=OS.at_ (I:=I) (M:=M) (e:=87) Ce.cells_len (by decide) hok (fun x hx=>hM x (by
  rw[krB_split m hk]
  exact List.mem_append.2 (.inr (List.mem_append.2 (.inl hx))))) hb (i:=p) (by omega)
 rwa [h.at_ k hk p (by omega)] at this
theorem KrOk.put {m:Mc} {R:List Kr} {kn:Nat→Nat→Ce} (h:KrOk m R kn) (hw:m.w≤9223372036854775807) {k:Nat} (hk:k < R.length) {b:Nat} (hb:R[k].b=some b) {p:Nat} (hp:p < m.w) (j:Nat) {vs:List Value} (hj:j+vs.length≤3) (h1:allOne vs=true) (c':Ce) (hc:splice (kn k p).cells j vs=c'.cells)
  {M:List Blk} (pre post:List Blk) (hM:M=pre++(krB m R++post)) {off:Nat} (ho:off=p * 3+j) {K:List Blk→Prop} (kk:∀ R':List Kr,KrOk m R' (setKn kn k p c')→R'.length=R.length→R'.map (Kr.val m.w)=R.map (Kr.val m.w)→K (pre++(krB m R'++post))):StoreOb M ⟨b,off,Option.none⟩ vs K:=by
 have hl:=h.len _ (List.getElem_mem hk)
 have hok:=Kr.os_ok hl hw hb
 refine OS.put (M:=M) Ce.cells 3 Ce.cells_len hok (i:=p) (by omega) j hj h1 c' (by rw[h.at_ k hk p (by omega)];exact hc) (pre++krB m (R.take k)) (krB m (R.drop (k+1))++post) (e:=87) (by
  rw[hM,krB_split m hk]
  simp only[List.append_assoc]
  rfl) hb ho ?_
 intro os' e1 e2 e3 e4
 have hR':=kk (R.set k ⟨some b,R[k].cs.set p c'⟩) ⟨fun r hr=>?_,fun r hr hn=>?_,fun i hi q hq=>?_⟩ (by rw[List.length_set]) ?_
 ·have e5:os'.blk 87=(Kr.blk m.w ⟨some b,R[k].cs.set p c'⟩):=by
   obtain⟨a9,n9,c9,cur9⟩:=os'
   have ea:a9=some b:=e2.trans hb
   subst ea
   have hn9:n9=m.w:=e3
   have hc9:c9=m.w:=by
    unfold OS.val at e1
    injection e1
   subst hn9
   subst hc9
   obtain⟨z1,z2,z3,z4⟩:=e4.cap b rfl
   simp only at z1 z4
   have:cur9=(R[k].cs.set p c').flatMap Ce.cells:=by
    rw[←z4]
    exact(List.take_of_length_le (by omega)).symm
   subst this
   rfl
  rw[krB_set m hk,←e5] at hR'
  simpa only[List.append_assoc] using hR'
 ·rcases List.mem_or_eq_of_mem_set hr with hr | rfl
  ·exact h.len r hr
  ·show (R[k].cs.set p c').length=m.w
   rw[List.length_set]
   exact hl
 ·rcases List.mem_or_eq_of_mem_set hr with hr | rfl
  ·exact h.none r hr hn
  ·cases hn
 ·have hi':i < R.length:=by simpa using hi
  by_cases e:k=i
  ·subst e
   simp only[List.getElem_set_self] at hq ⊢
   rw[List.length_set] at hq
   by_cases e6:p=q
   ·subst e6
    rw[List.getElem_set_self,setKn_self]
   ·rw[List.getElem_set_ne e6,setKn_ne (fun e7=>e6 e7.2.symm)]
    exact h.at_ k hk q hq
  ·simp only[List.getElem_set_ne e] at hq ⊢
   rw[setKn_ne (fun e7=>e e7.1.symm)]
   exact h.at_ i hi' q hq
 ·rw[List.map_set]
  have:(R.map (Kr.val m.w))[k]?=some (Kr.val m.w ⟨some b,R[k].cs.set p c'⟩):=by
   rw[List.getElem?_map,List.getElem?_eq_getElem hk]
   simp[Kr.val,hb]
  apply List.ext_getElem?
  intro i
  rw[List.getElem?_set]
  split
  ·rename_i e
   subst e
   rw[if_pos (by rw[List.length_map];exact hk),this]
  ·rfl
def contG (P:Pk):Nx→Nat→En
 | .stop e,_=>e
 | .more q S,n=>goM P n q S
theorem go_succ (P:Pk) (n:Nat) (q:Rq) (S:Ms):goM P (n+1) q S=contG P (stepM P q S) n:=by
 unfold goM contG
 cases stepM P q S<;>rfl
def runPost (m:Mc) (G:En) (v:Value) (M':List Blk):Prop:=match G with
 | .err e=>v=.tuple #[ce0.val,.int .i64 (errC e)]∧M'=[]
 | .ok c S=>v=.tuple #[c.val,.int .i64 0]∧∃ (R:List Kr) (os:OS),KrOk m R S.kn∧R.length=m.ns.n∧M'=mcB m S.used m.ns.n os::krH m R::krB m R
structure Rn where
 lab:Nat
 k:Nat
 a:Nat
 c:Ce
 S:Ms
 R:List Kr
 os:OS
 left:Nat
def runLP (m:Mc) (I:GH) (y:Rn):LP:={ fl:=[(0,.val (ptr m.bm)),(1,.val (.int .i64 y.k)),(2,.val (.int .i64 y.a)),(6,.ref 6 0),(8,.ref 8 0),(12,.ref 12 0)],cl:=[(6,ce0.cells),(8,y.c.cells),(12,handVs)],gi:=I,mi:=mcB m y.S.used m.ns.n y.os::krH m y.R::(krB m y.R++y.os.blk 126) }
def runMu (y:Rn):Nat:=3 * y.left+(if y.lab=1∨y.lab=2 then 1 else 0)
def labOk (m:Mc) (G:En) (lab k a:Nat) (c:Ce) (S:Ms) (left:Nat):Prop:=
 (lab=0∧MsOk m.pk S∧MgOk m.pk S∧RqOk m.pk S (.begin k a)∧goM m.pk left (.begin k a) S=G) ∨
 (lab=3∧MsOk m.pk S∧MgOk m.pk S∧RqOk m.pk S (.hand c)∧RgOk m.pk S (.hand c)∧goM m.pk left (.hand c) S=G) ∨
 (lab=2∧(∃ f rest,S.op=f::rest∧FmOk m.pk f)∧NxOk m.pk (askM m.pk S)∧NgOk m.pk (askM m.pk S)∧contG m.pk (askM m.pk S) left=G) ∨
 (lab=1∧(∃ f rest,S.op=f::rest∧m.base≤f.pl∧f.pl≤m.s.size∧f.nd < m.ns.n∧(S.kn f.nd (f.pl - m.base)).st=1)∧NxOk m.pk (finishM m.pk c S)∧NgOk m.pk (finishM m.pk c S)∧contG m.pk (finishM m.pk c S) left=G)
structure RunOk (m:Mc) (G:En) (y:Rn):Prop where
 kr:KrOk m y.R y.S.kn
 len:y.R.length=m.ns.n
 os:y.os.ok 5 (y.S.op.reverse.flatMap Fm.cells)
 fuel:y.S.used+y.left=m.fuel
 opl:y.S.op.length≤y.S.used
 lab:labOk m G y.lab y.k y.a y.c y.S y.left
theorem frAt_of {os:OS} {f:Fm} {rest:List Fm} (h:os.ok 5 ((f::rest).reverse.flatMap Fm.cells)):∃ g,FrAt os rest.reverse f g:=by
 rw[List.reverse_cons] at h
 cases ha:os.a with
 | none=>
  have h1:=(h.nil ha).1
  have h2:=h.len
  rw[flat_len _ 5 Fm.cells_len] at h2
  simp at h2
  omega
 | some g=>exact⟨g,ha,h⟩
theorem KrOk.putM {m:Mc} {R:List Kr} {kn:Nat→Nat→Ce} (h:KrOk m R kn) (hw:m.w≤9223372036854775807) {k:Nat} (hk:k < R.length) {b:Nat} (hb:R[k].b=some b) {p:Nat} (hp:p < m.w) (j:Nat) {vs:List Value} (hj:j+vs.length≤3) (h1:allOne vs=true) (c':Ce) (hc:splice (kn k p).cells j vs=c'.cells)
  {A:Blk} {post:List Blk} {K:List Blk→Prop} (kk:∀ R':List Kr,KrOk m R' (setKn kn k p c')→R'.length=R.length→K (A::krH m R'::(krB m R'++post))):StoreOb (A::krH m R::(krB m R++post)) ((⟨b,p * 3,Option.none⟩:Addr).add j) vs K:=by
 rw[addr_add _ rfl]
 refine h.put hw hk hb hp j hj h1 c' hc [A,krH m R] post rfl rfl fun R' e1 e2 e3=>?_
 have e4:krH m R=krH m R':=by unfold krH;rw[e3]
 rw[e4]
 exact kk R' e1 e2
theorem KrOk.putW {m:Mc} {R:List Kr} {kn:Nat→Nat→Ce} (h:KrOk m R kn) (hw:m.w≤9223372036854775807) {k:Nat} (hk:k < R.length) {b:Nat} (hb:R[k].b=some b) {p:Nat} (hp:p < m.w) (c':Ce)
  {A:Blk} {post:List Blk} {K:List Blk→Prop} (kk:∀ R':List Kr,KrOk m R' (setKn kn k p c')→R'.length=R.length→K (A::krH m R'::(krB m R'++post))):StoreOb (A::krH m R::(krB m R++post)) ⟨b,p * 3,Option.none⟩ c'.cells K:=by
 have:=h.putM hw hk hb hp 0 (vs:=c'.cells) (Nat.le_refl 3) rfl c' rfl kk
 rwa [addr_add _ rfl,Nat.add_zero] at this
set_option maxHeartbeats 2000000 in
theorem cell_old {I:GH} {Mr:List Blk} (m:Mc) (hb:m.base≤m.s.size) (hs:m.s.size≤4096) {used N:Nat} {os:OS} {R:List Kr} (hN:R.length=N) {k a:Nat} (hk:k < R.length) {b:Nat} (hbk:R[k].b=some b) (h1:m.base≤a) (h2:a≤m.s.size) :
  Spec Tryz.prog 60 [ptr m.bm,.int .i64 k,.int .i64 a] I (mcB m used N os::krH m R::(krB m R++Mr)) fun v I' M'=>I'=I∧v=.pointer (some ⟨b,(a - m.base) * 3,none⟩)∧M'=mcB m used N os::krH m R::(krB m R++Mr):=by
 refine spec_of_V [] TryzEOK Tryz.func60 rfl rfl rfl ?_
 intro B h0
 have hwd:m.w=m.s.size - m.base+1:=rfl
 refine LoadOb.mk _ (mc_rd (k:=5) (.head _) (by decide)) ?_
 refine IdxOb.mk ⟨m.bk,0,none⟩ k rfl rfl (by omega) ?_
 have hrd:=fun {M:List Blk} (hM:krH m R∈M)=>krH_rd (I:=I) hM hk
 have hv:R[k].val m.w=.slice (some ⟨b,0,none⟩) m.w m.w:=by simp[Kr.val,hbk]
 rw[hv] at hrd
 refine LoadOb.mk _ (hrd (.tail _ (.head _))) ?_
 refine BinOb.sliceNil TryzEOK rfl rfl ?_
 refine CondOb.mk (fun e=>by cases e) (fun _=>?_)
 refine CodeOb.draw TryzEOK rfl rfl rfl ?_
 refine LoadOb.mk _ (mc_rd (k:=5) (.head _) (by decide)) ?_
 refine IdxOb.mk ⟨m.bk,0,none⟩ k rfl rfl (by omega) ?_
 refine LoadOb.mk _ (hrd (.tail _ (.head _))) ?_
 refine LoadOb.mk _ (mc_rd (k:=1) (.head _) (by decide)) ?_
 refine ArithOb.mk ((a - m.base:Nat):Int) (wr_eq (by omega) (by omega)) ?_
 refine IdxOb.mk ⟨b,0,none⟩ (a - m.base) rfl rfl (by omega) ?_
 exact⟨_,_,.refl,rfl,by rw[addr_add _ rfl,Nat.zero_add],rfl⟩
theorem KrOk.there {m:Mc} {R:List Kr} {kn:Nat→Nat→Ce} (h:KrOk m R kn) {k p:Nat} (hk:k < R.length) (hp:p < m.w) (hst:(kn k p).st=1):∃ b,R[k].b=some b:=by
 cases hb:R[k].b with
 | some b=>exact⟨b,rfl⟩
 | none=>
  have h1:=h.none _ (List.getElem_mem hk) hb
  have h2:=h.at_ k hk p (by rw[h1];simpa using hp)
  rw[←h2] at hst
  simp[h1,ce0] at hst
theorem OS.pop5 {os:OS} {rest:List Fm} {f:Fm} {g:Nat} (h:FrAt os rest f g):OS.ok ⟨os.a,os.n - 1,os.c,os.cur⟩ 5 (rest.flatMap Fm.cells):=by
 have hn:=h.n
 obtain⟨q1,q2,q3,q4⟩:=h.ok.cap g h.a
 refine⟨by rw[flat_len _ 5 Fm.cells_len];simp only;omega,fun e=>(by simp only at e;rw[h.a] at e;cases e),fun g' _=>⟨q1,by simp only;omega,q3,?_⟩⟩
 simp only
 have h1:((rest++[f]).flatMap Fm.cells).take (rest.length * 5)=rest.flatMap Fm.cells:=by
  rw[List.flatMap_append,List.take_append_of_le_length (by rw[flat_len _ 5 Fm.cells_len];exact Nat.le_refl _)]
  exact List.take_of_length_le (by rw[flat_len _ 5 Fm.cells_len];exact Nat.le_refl _)
 rw[←h1,←q4,List.take_take]
 congr 1
 omega
theorem begin_fm {P:Pk} (h:PkOk P) {S:Ms} (hS:MsOk P S) {k a:Nat} (hb:RqOk P S (.begin k a)) (hn:aloneM P k a=none):FmOk P ⟨k,a,0,a,0⟩:=by
 obtain⟨b1,b2,b3,b4,b5⟩:=hb
 obtain⟨n0,n1,n2,n6⟩:=alone_none hn
 have ha:=Pk.at_ok h b1
 exact⟨b1,b2,Nat.le_refl _,b3,Nat.zero_le _,by have:=ha.k;show 3≤(P.at_ k).d.k;omega,fun e=>ha.many e,fun e=>⟨n6 e,fun _=>Nat.zero_le _,fun e2=>by
  have e':(P.at_ k).d.k=6:=e
  have e2':¬ (P.at_ k).d.hi=-1:=e2
  have:=ha.rep e'
  have:=n6 e'
  show ((0:Nat):Int) < (P.at_ k).d.hi
  omega⟩,fun _=>⟨rfl,rfl⟩⟩
theorem OtherOb.app1E {X:Ctx} {F:Fr} {C:Bx} {I:GH} {M:List Blk} {o:Oper} {K:KS} (hE:EOK X.P X.E) {s x:Operand} {t:Nat} (ho:o.op=.call { callee:=.builtin .append,args:=#[s,x],argTypes:=#[t,t] }) (hd:∀ d,o.dst=some d→d < X.n)
  {e:Nat} {ti ei:TI} (ht:X.E t=some ti) (hts:ti.sh=.slice e) (he:X.E e=some ei)
  (os:OS) {xs:List Value} (hok:os.ok ei.size xs) (hs:ev F s=.val os.val)
  {b9:Nat} {cs:List Value} {c':Nat} (hx:ev F x=.val (.slice (some ⟨b9,0,none⟩) 1 c')) (hl:cs.length=ei.size) (h1:allOne cs=true)
  (pre:List Blk) (hM:M=⟨b9,.cells cs.toArray e (0,0)⟩::(pre++os.blk e)) (b1:os.n+1≤9223372036854775807) (b2:(os.n+1) * ei.bytes≤140737488355328)
  (k:∀ os':OS,os'.n=os.n+1→(∀ g,os'.a=some g→I g=none)→os'.ok ei.size (xs++cs)→K (put o.dst (.val os'.val) F) C I (pre++os'.blk e)):OtherOb X o F C I M K:=
 .app1 hE ho hd ht hts he os hok hs hx hl h1 pre [] (by rw[List.append_nil];exact hM) b1 b2 fun os' h2 h3 h4=>by
  rw[List.append_nil]
  exact k os' h2 h3 h4
theorem ce_rng {P:Pk} {pl:Nat} {c:Ce} (h:CeOk P pl c) (hs:P.s.size≤4096):c.n≤65537∧c.to≤4096:=by
 by_cases e:c.st=3
 ·have:=h.m e;omega
 ·have:=h.f e;omega
theorem mcB_os {m:Mc} {u N:Nat} {os os':OS} (h:os'.val=os.val):mcB m u N os=mcB m u N os':=by
 unfold mcB mcC
 rw[h]
theorem perm_os {A B:Blk} {C D:List Blk}:(A::B::(C++D)).Perm (D++(A::B::C)):=by
 have:(A::B::(C++D))=(A::B::C)++D:=rfl
 rw[this]
 exact List.perm_append_comm
set_option maxRecDepth 100000 in
set_option maxHeartbeats 16000000 in
theorem run_spec {I:GH} (m:Mc) (hns:m.ns.ok I) (hP:PkOk m.pk) (hfl:m.fuel≤1099511627776) (hnl:m.ns.n≤1000000) (htx:∀ x∈m.ns.xs,x.d.t.size≤4096) {k a:Nat} {S:Ms} {R:List Kr} {os:OS} {G:En} (hR:KrOk m R S.kn) (hN:R.length=m.ns.n) (hos:os.ok 5 (S.op.reverse.flatMap Fm.cells))
  (hop0:S.op=[]) (hu0:S.used=0) (hS:MsOk m.pk S) (hMg:MgOk m.pk S) (hq:RqOk m.pk S (.begin k a)) (hG:goM m.pk m.fuel (.begin k a) S=G) :
  Spec Tryz.prog 35 [ptr m.bm,.int .i64 k,.int .i64 a] I (mcB m S.used m.ns.n os::krH m R::(krB m R++os.blk 126)) fun v I' M'=>I'=I∧runPost m G v M':=by
 refine spec_of_V [] TryzEOK Tryz.func35 rfl rfl rfl ?_
 intro B h0
 have hbs:m.base≤m.s.size:=hP.base
 have hsz:m.s.size≤4096:=hP.size
 have hw:m.w≤9223372036854775807:=by show m.s.size - m.base+1≤_;omega
 have hnN:m.pk.ns.length=m.ns.n:=by simp[Mc.pk,hns.n]
 have hu:S.used+m.fuel=m.fuel:=by omega
 have hopl:S.op.length≤S.used:=by rw[hop0];exact Nat.zero_le _
 refine CodeOb.scope TryzEOK rfl (runLP m I) (fun y=>y.lab) (RunOk m G) runMu (fun l=>labelIn (scopeIn (Tryz.f35.body.getD .skip)) l) (fun y hy=>?_) ?_ ?_
 ·have h1:=hy.lab
  have:y.lab=0∨y.lab=1∨y.lab=2∨y.lab=3:=by
   rcases h1 with h1 | h1 | h1 | h1
   ·exact .inl h1.1
   ·exact .inr (.inr (.inr h1.1))
   ·exact .inr (.inr (.inl h1.1))
   ·exact .inr (.inl h1.1)
  rcases this with e | e | e | e<;>rw[e]<;>exact⟨by kernel_rfl,by kernel_rfl⟩
 ·refine CallOb.whole _ (handlers_spec) ?_
  rintro v I' M' - ⟨rfl,rfl,rfl⟩
  obtain⟨left,hleft⟩:∃ left,m.fuel=left:=⟨_,rfl⟩
  rw[hleft] at hG
  replace hu:S.used+left=m.fuel:=by omega
  refine CallOb.whole _ (burn_spec m S.used m.ns.n os hfl) ?_
  rintro v I' M' - ⟨rfl,⟨hb,rfl,rfl⟩ | ⟨hb,rfl,rfl⟩⟩
  ·refine CondOb.mk (fun _=>?_) (fun e=>by cases e)
   obtain rfl:left=0:=by omega
   have hG3:G=.err 0:=hG.symm
   exact⟨_,[],.sub (List.nil_sublist _) .refl,rfl,by rw[hG3];exact⟨rfl,rfl⟩⟩
  refine CondOb.mk (fun e=>by cases e) (fun _=>?_)
  obtain⟨n,rfl⟩:∃ n,left=n+1:=⟨left - 1,by omega⟩
  have hstep:=step_ok hP hS hq
  have hgstep:=step_g hP hS hMg hq (q:=.begin k a) trivial
  have hq':=hq
  obtain⟨b1,b2,b3,b4,b5⟩:=hq'
  rw[hnN] at b1
  rw[go_succ] at hG
  have hbk:a - m.base < m.w:=by
   have e1:m.pk.base=m.base:=rfl
   have e2:m.pk.s=m.s:=rfl
   rw[e1] at b2
   rw[e2] at b3
   show _ < m.s.size - m.base+1
   omega
  have ha4:a≤4096:=Nat.le_trans b3 hsz
  refine CallOb.whole _ (cell_spec m hbs hsz hR hN b1 b2 b3) ?_
  rintro v I' M' - ⟨rfl,R1,b,hR1,hN1,⟨hk1,hb1⟩,rfl,rfl⟩
  refine hR1.putM hw hk1 hb1 hbk 2 (by decide) rfl { S.kn k (a - m.base) with st:=1 } rfl ?_
  intro R2 hR2 hl2
  have hN2:R2.length=m.ns.n:=by rw[hl2,hN1]
  refine LoadOb.mk _ (mc_rd (k:=6) (.head _) (by decide)) ?_
  refine ArithOb.mk (k:Int) (wrap_i32 (show (-2147483648:Int)≤(k:Int) by omega) (show (k:Int)≤2147483647 by omega)) ?_
  refine ArithOb.mk (a:Int) (wrap_i32 (show (-2147483648:Int)≤(a:Int) by omega) (show (a:Int)≤2147483647 by omega)) ?_
  refine ArithOb.mk (a:Int) (wrap_i32 (show (-2147483648:Int)≤(a:Int) by omega) (show (a:Int)≤2147483647 by omega)) ?_
  have hosn:os.n=S.op.length:=by
   have:=hos.len
   rw[flat_len _ 5 Fm.cells_len,List.length_reverse] at this
   omega
  refine AllocOb.mk fun b9 hb9 hbM9=>?_
  refine OtherOb.app1E TryzEOK rfl (by simp) (e:=126) rfl rfl rfl os hos rfl (cs:=Fm.cells ⟨k,a,0,a,0⟩) rfl rfl rfl (mcB m (S.used+1) m.ns.n os::krH m R2::krB m R2) rfl (by omega) (by show (os.n+1) * 20≤_;omega) ?_
  rintro os1 hn1 - hos1'
  have hos1:os1.ok 5 ((begS m.pk k a S).op.reverse.flatMap Fm.cells):=by
   show os1.ok 5 ((⟨k,a,0,a,0⟩::S.op:List Fm).reverse.flatMap Fm.cells)
   rw[List.reverse_cons,List.flatMap_append]
   simpa using hos1'
  have hfu1:(begS m.pk k a S).used+n=m.fuel:=by show S.used+1+n=_;omega
  have hopl1:(begS m.pk k a S).op.length≤(begS m.pk k a S).used:=by show S.op.length+1≤S.used+1;omega
  refine StoreOb.mk [] (krH m R2::(krB m R2++os1.blk 126)) _ _ rfl rfl (Nat.le_of_ble_eq_true rfl) rfl ?_
  refine CallOb.whole _ (alone_spec m hns hsz (used:=S.used+1) (N:=m.ns.n) (os:=os1) (k:=k) (a:=a) b1 b3 htx) ?_
  rintro v I' M' - ⟨rfl,rfl,c1,rfl,hal⟩
  have hbg:stepM m.pk (.begin k a) S=match aloneM m.pk k a with
    | some c=>finishM m.pk c (begS m.pk k a S)
    | none=>askM m.pk (begS m.pk k a S):=rfl
  refine CondOb.mk (fun e=>?_) (fun e=>?_)
  ·obtain⟨c2,hc2⟩:=Option.isSome_iff_exists.1 e
   obtain rfl:=hal c2 hc2
   rw[hc2] at hbg
   simp only at hbg
   rw[hbg] at hstep hgstep hG
   have hst1:((begS m.pk k a S).kn k (a - m.base)).st=1:=by
    show (setKn S.kn k (a - m.base) _ k (a - m.base)).st=1
    rw[setKn_self]
   exact⟨⟨1,k,a,c2,begS m.pk k a S,R2,os1,n⟩,⟨⟨hR2,hN2,hos1,hfu1,hopl1,.inr (.inr (.inr ⟨rfl,⟨⟨k,a,0,a,0⟩,S.op,rfl,b2,b3,b1,hst1⟩,hstep,hgstep,hG⟩))⟩,rfl⟩,.refl,aF6,.cons rfl (.cons rfl (.cons rfl (.nil)))⟩
  have hc2:aloneM m.pk k a=none:=by
   cases h9:aloneM m.pk k a with
   | none=>rfl
   | some c=>rw[h9] at e;cases e
  rw[hc2] at hbg
  simp only at hbg
  rw[hbg] at hstep hgstep hG
  have hfo:FmOk m.pk ⟨k,a,0,a,0⟩:=begin_fm hP hS hq hc2
  have hop:(begS m.pk k a S).op=⟨k,a,0,a,0⟩::S.op:=rfl
  have hnx:=hstep
  have hng:=hgstep
  have hG2:=hG
  have hR2:KrOk m R2 (begS m.pk k a S).kn:=hR2
  refine LabOb.weak (runLP m I' ⟨2,k,a,c1,begS m.pk k a S,R2,os1,n⟩) .refl (aF6) (.cons rfl (.cons rfl (.cons rfl (.nil)))) ?_
  obtain⟨g2,hFr2⟩:=frAt_of (by rw[hop] at hos1;exact hos1)
  obtain⟨x1,x2,x3,x4⟩:=nextM_ok hP hfo
  have hrl2:S.op.reverse.length≤1099511627776:=by
   rw[hop] at hopl1
   simp only[List.length_cons,List.length_reverse] at hopl1 ⊢
   omega
  refine CallOb.whole _ (next_spec m hns hP (used:=(begS m.pk k a S).used) (N:=m.ns.n) (.head _) (fun x hx=>.tail _ (.tail _ (List.mem_append.2 (.inr hx)))) hFr2 hfo hrl2) ?_
  rintro v I' M' - ⟨rfl,rfl,rfl⟩
  refine CallOb.whole _ (cell_spec m hbs hsz (used:=(begS m.pk k a S).used) (os:=os1) hR2 hN2 (k:=(nextM m.pk (⟨k,a,0,a,0⟩:Fm)).1) (a:=(nextM m.pk (⟨k,a,0,a,0⟩:Fm)).2) (by rw[←hnN];exact x1) x2 x3) ?_
  rintro v I' M' - ⟨rfl,R3,b3,hR3,hN3,⟨hk3,hb3⟩,rfl,rfl⟩
  have hp3:(nextM m.pk (⟨k,a,0,a,0⟩:Fm)).2 - m.base < m.w:=by
   have e1:m.pk.base=m.base:=rfl
   have e2:m.pk.s=m.s:=rfl
   rw[e1] at x2
   rw[e2] at x3
   show _ < m.s.size - m.base+1
   omega
  refine LoadOb.mk _ (hR3.rd hw hk3 hb3 hp3 (fun x hx=>.tail _ (.tail _ (List.mem_append.2 (.inl hx))))) ?_
  have hask:askM m.pk (begS m.pk k a S)=bif Nat.beq ((begS m.pk k a S).kn (nextM m.pk (⟨k,a,0,a,0⟩:Fm)).1 ((nextM m.pk (⟨k,a,0,a,0⟩:Fm)).2 - m.base)).st 0 then .more (.begin (nextM m.pk (⟨k,a,0,a,0⟩:Fm)).1 (nextM m.pk (⟨k,a,0,a,0⟩:Fm)).2) (begS m.pk k a S) else
    bif Nat.beq ((begS m.pk k a S).kn (nextM m.pk (⟨k,a,0,a,0⟩:Fm)).1 ((nextM m.pk (⟨k,a,0,a,0⟩:Fm)).2 - m.base)).st 1 then .stop (.err 1) else .more (.hand ((begS m.pk k a S).kn (nextM m.pk (⟨k,a,0,a,0⟩:Fm)).1 ((nextM m.pk (⟨k,a,0,a,0⟩:Fm)).2 - m.base))) (begS m.pk k a S):=by
   unfold askM
   rw[hop]
   rfl
  refine CondOb.mk (fun e=>?_) (fun e0=>?_)
  ·have e':((begS m.pk k a S).kn (nextM m.pk (⟨k,a,0,a,0⟩:Fm)).1 ((nextM m.pk (⟨k,a,0,a,0⟩:Fm)).2 - m.base)).st=0:=by have:=of_decide_eq_true e;omega
   rw[e'] at hask
   have hask':askM m.pk (begS m.pk k a S)=.more (.begin (nextM m.pk (⟨k,a,0,a,0⟩:Fm)).1 (nextM m.pk (⟨k,a,0,a,0⟩:Fm)).2) (begS m.pk k a S):=hask
   rw[hask'] at hnx hng hG2
   exact⟨⟨0,(nextM m.pk (⟨k,a,0,a,0⟩:Fm)).1,(nextM m.pk (⟨k,a,0,a,0⟩:Fm)).2,(begS m.pk k a S).kn (nextM m.pk (⟨k,a,0,a,0⟩:Fm)).1 ((nextM m.pk (⟨k,a,0,a,0⟩:Fm)).2 - m.base),(begS m.pk k a S),R3,os1,n⟩,⟨⟨hR3,hN3,hos1,hfu1,hopl1,.inl ⟨rfl,hnx.1,hng.1,hnx.2,hG2⟩⟩,rfl⟩,.refl,aF6,.cons rfl (.cons rfl (.cons rfl (.nil)))⟩
  have e0':Nat.beq ((begS m.pk k a S).kn (nextM m.pk (⟨k,a,0,a,0⟩:Fm)).1 ((nextM m.pk (⟨k,a,0,a,0⟩:Fm)).2 - m.base)).st 0=false:=by
   rw[Bool.eq_false_iff]
   intro e2
   have:=Nat.eq_of_beq_eq_true e2
   have:=of_decide_eq_false e0
   omega
  rw[e0',cond_false] at hask
  refine CondOb.mk (fun e=>?_) (fun e1=>?_)
  ·have e':((begS m.pk k a S).kn (nextM m.pk (⟨k,a,0,a,0⟩:Fm)).1 ((nextM m.pk (⟨k,a,0,a,0⟩:Fm)).2 - m.base)).st=1:=by have:=of_decide_eq_true e;omega
   rw[e'] at hask
   have hask':askM m.pk (begS m.pk k a S)=.stop (.err 1):=hask
   rw[hask'] at hG2
   have hG3:G=.err 1:=hG2.symm
   exact⟨_,[],.sub (List.nil_sublist _) .refl,rfl,by rw[hG3];exact⟨rfl,rfl⟩⟩
  have e1':Nat.beq ((begS m.pk k a S).kn (nextM m.pk (⟨k,a,0,a,0⟩:Fm)).1 ((nextM m.pk (⟨k,a,0,a,0⟩:Fm)).2 - m.base)).st 1=false:=by
   rw[Bool.eq_false_iff]
   intro e2
   have:=Nat.eq_of_beq_eq_true e2
   have:=of_decide_eq_false e1
   omega
  rw[e1',cond_false] at hask
  rw[hask] at hnx hng hG2
  exact⟨⟨3,(nextM m.pk (⟨k,a,0,a,0⟩:Fm)).1,(nextM m.pk (⟨k,a,0,a,0⟩:Fm)).2,(begS m.pk k a S).kn (nextM m.pk (⟨k,a,0,a,0⟩:Fm)).1 ((nextM m.pk (⟨k,a,0,a,0⟩:Fm)).2 - m.base),(begS m.pk k a S),R3,os1,n⟩,⟨⟨hR3,hN3,hos1,hfu1,hopl1,.inr (.inl ⟨rfl,hnx.1,hng.1,hnx.2,hng.2,hG2⟩)⟩,rfl⟩,.refl,aF6,.cons rfl (.cons rfl (.cons rfl (.nil)))⟩
 ·rintro⟨lab,k,a,c,S,R,os,left⟩ ⟨hR,hN,hos,hu,hopl,hlab⟩
  simp only at hR hN hos hu hopl hlab
  rcases hlab with ⟨rfl,hS,hMg,hq,hG⟩ | ⟨rfl,hS,hMg,hq,hrg,hG⟩ | ⟨rfl,⟨f,rest,hop,hfo⟩,hnx,hng,hG2⟩ | ⟨rfl,⟨f1,rest1,hop,hlo,hps,hnd,hst1⟩,hnx,hng,hG2⟩
  ·
   refine CallOb.whole _ (burn_spec m S.used m.ns.n os hfl) ?_
   rintro v I' M' - ⟨rfl,⟨hb,rfl,rfl⟩ | ⟨hb,rfl,rfl⟩⟩
   ·refine CondOb.mk (fun _=>?_) (fun e=>by cases e)
    obtain rfl:left=0:=by omega
    have hG3:G=.err 0:=hG.symm
    exact⟨_,[],.sub (List.nil_sublist _) .refl,rfl,by rw[hG3];exact⟨rfl,rfl⟩⟩
   refine CondOb.mk (fun e=>by cases e) (fun _=>?_)
   obtain⟨n,rfl⟩:∃ n,left=n+1:=⟨left - 1,by omega⟩
   have hstep:=step_ok hP hS hq
   have hgstep:=step_g hP hS hMg hq (q:=.begin k a) trivial
   have hq':=hq
   obtain⟨b1,b2,b3,b4,b5⟩:=hq'
   rw[hnN] at b1
   rw[go_succ] at hG
   have hbk:a - m.base < m.w:=by
    have e1:m.pk.base=m.base:=rfl
    have e2:m.pk.s=m.s:=rfl
    rw[e1] at b2
    rw[e2] at b3
    show _ < m.s.size - m.base+1
    omega
   have ha4:a≤4096:=Nat.le_trans b3 hsz
   refine CallOb.whole _ (cell_spec m hbs hsz hR hN b1 b2 b3) ?_
   rintro v I' M' - ⟨rfl,R1,b,hR1,hN1,⟨hk1,hb1⟩,rfl,rfl⟩
   refine hR1.putM hw hk1 hb1 hbk 2 (by decide) rfl { S.kn k (a - m.base) with st:=1 } rfl ?_
   intro R2 hR2 hl2
   have hN2:R2.length=m.ns.n:=by rw[hl2,hN1]
   refine LoadOb.mk _ (mc_rd (k:=6) (.head _) (by decide)) ?_
   refine ArithOb.mk (k:Int) (wrap_i32 (show (-2147483648:Int)≤(k:Int) by omega) (show (k:Int)≤2147483647 by omega)) ?_
   refine ArithOb.mk (a:Int) (wrap_i32 (show (-2147483648:Int)≤(a:Int) by omega) (show (a:Int)≤2147483647 by omega)) ?_
   refine ArithOb.mk (a:Int) (wrap_i32 (show (-2147483648:Int)≤(a:Int) by omega) (show (a:Int)≤2147483647 by omega)) ?_
   have hosn:os.n=S.op.length:=by
    have:=hos.len
    rw[flat_len _ 5 Fm.cells_len,List.length_reverse] at this
    omega
   refine AllocOb.mk fun b9 hb9 hbM9=>?_
   refine OtherOb.app1E TryzEOK rfl (by simp) (e:=126) rfl rfl rfl os hos rfl (cs:=Fm.cells ⟨k,a,0,a,0⟩) rfl rfl rfl (mcB m (S.used+1) m.ns.n os::krH m R2::krB m R2) rfl (by omega) (by show (os.n+1) * 20≤_;omega) ?_
   rintro os1 hn1 - hos1'
   have hos1:os1.ok 5 ((begS m.pk k a S).op.reverse.flatMap Fm.cells):=by
    show os1.ok 5 ((⟨k,a,0,a,0⟩::S.op:List Fm).reverse.flatMap Fm.cells)
    rw[List.reverse_cons,List.flatMap_append]
    simpa using hos1'
   have hfu1:(begS m.pk k a S).used+n=m.fuel:=by show S.used+1+n=_;omega
   have hopl1:(begS m.pk k a S).op.length≤(begS m.pk k a S).used:=by show S.op.length+1≤S.used+1;omega
   refine StoreOb.mk [] (krH m R2::(krB m R2++os1.blk 126)) _ _ rfl rfl (Nat.le_of_ble_eq_true rfl) rfl ?_
   refine CallOb.whole _ (alone_spec m hns hsz (used:=S.used+1) (N:=m.ns.n) (os:=os1) (k:=k) (a:=a) b1 b3 htx) ?_
   rintro v I' M' - ⟨rfl,rfl,c1,rfl,hal⟩
   have hbg:stepM m.pk (.begin k a) S=match aloneM m.pk k a with
     | some c=>finishM m.pk c (begS m.pk k a S)
     | none=>askM m.pk (begS m.pk k a S):=rfl
   refine CondOb.mk (fun e=>?_) (fun e=>?_)
   ·obtain⟨c2,hc2⟩:=Option.isSome_iff_exists.1 e
    obtain rfl:=hal c2 hc2
    rw[hc2] at hbg
    simp only at hbg
    rw[hbg] at hstep hgstep hG
    have hst1:((begS m.pk k a S).kn k (a - m.base)).st=1:=by
     show (setKn S.kn k (a - m.base) _ k (a - m.base)).st=1
     rw[setKn_self]
    exact⟨⟨1,k,a,c2,begS m.pk k a S,R2,os1,n⟩,⟨⟨⟨hR2,hN2,hos1,hfu1,hopl1,.inr (.inr (.inr ⟨rfl,⟨⟨k,a,0,a,0⟩,S.op,rfl,b2,b3,b1,hst1⟩,hstep,hgstep,hG⟩))⟩,rfl⟩,by simp[runMu]<;>omega⟩,.refl,aF6,.cons rfl (.cons rfl (.cons rfl (.nil)))⟩
   have hc2:aloneM m.pk k a=none:=by
    cases h9:aloneM m.pk k a with
    | none=>rfl
    | some c=>rw[h9] at e;cases e
   rw[hc2] at hbg
   simp only at hbg
   rw[hbg] at hstep hgstep hG
   have hfo:FmOk m.pk ⟨k,a,0,a,0⟩:=begin_fm hP hS hq hc2
   have hop:(begS m.pk k a S).op=⟨k,a,0,a,0⟩::S.op:=rfl
   have hnx:=hstep
   have hng:=hgstep
   have hG2:=hG
   have hR2:KrOk m R2 (begS m.pk k a S).kn:=hR2
   refine LabOb.weak (runLP m I' ⟨2,k,a,c1,begS m.pk k a S,R2,os1,n⟩) .refl (aF6) (.cons rfl (.cons rfl (.cons rfl (.nil)))) ?_
   obtain⟨g2,hFr2⟩:=frAt_of (by rw[hop] at hos1;exact hos1)
   obtain⟨x1,x2,x3,x4⟩:=nextM_ok hP hfo
   have hrl2:S.op.reverse.length≤1099511627776:=by
    rw[hop] at hopl1
    simp only[List.length_cons,List.length_reverse] at hopl1 ⊢
    omega
   refine CallOb.whole _ (next_spec m hns hP (used:=(begS m.pk k a S).used) (N:=m.ns.n) (.head _) (fun x hx=>.tail _ (.tail _ (List.mem_append.2 (.inr hx)))) hFr2 hfo hrl2) ?_
   rintro v I' M' - ⟨rfl,rfl,rfl⟩
   refine CallOb.whole _ (cell_spec m hbs hsz (used:=(begS m.pk k a S).used) (os:=os1) hR2 hN2 (k:=(nextM m.pk (⟨k,a,0,a,0⟩:Fm)).1) (a:=(nextM m.pk (⟨k,a,0,a,0⟩:Fm)).2) (by rw[←hnN];exact x1) x2 x3) ?_
   rintro v I' M' - ⟨rfl,R3,b3,hR3,hN3,⟨hk3,hb3⟩,rfl,rfl⟩
   have hp3:(nextM m.pk (⟨k,a,0,a,0⟩:Fm)).2 - m.base < m.w:=by
    have e1:m.pk.base=m.base:=rfl
    have e2:m.pk.s=m.s:=rfl
    rw[e1] at x2
    rw[e2] at x3
    show _ < m.s.size - m.base+1
    omega
   refine LoadOb.mk _ (hR3.rd hw hk3 hb3 hp3 (fun x hx=>.tail _ (.tail _ (List.mem_append.2 (.inl hx))))) ?_
   have hask:askM m.pk (begS m.pk k a S)=bif Nat.beq ((begS m.pk k a S).kn (nextM m.pk (⟨k,a,0,a,0⟩:Fm)).1 ((nextM m.pk (⟨k,a,0,a,0⟩:Fm)).2 - m.base)).st 0 then .more (.begin (nextM m.pk (⟨k,a,0,a,0⟩:Fm)).1 (nextM m.pk (⟨k,a,0,a,0⟩:Fm)).2) (begS m.pk k a S) else
     bif Nat.beq ((begS m.pk k a S).kn (nextM m.pk (⟨k,a,0,a,0⟩:Fm)).1 ((nextM m.pk (⟨k,a,0,a,0⟩:Fm)).2 - m.base)).st 1 then .stop (.err 1) else .more (.hand ((begS m.pk k a S).kn (nextM m.pk (⟨k,a,0,a,0⟩:Fm)).1 ((nextM m.pk (⟨k,a,0,a,0⟩:Fm)).2 - m.base))) (begS m.pk k a S):=by
    unfold askM
    rw[hop]
    rfl
   refine CondOb.mk (fun e=>?_) (fun e0=>?_)
   ·have e':((begS m.pk k a S).kn (nextM m.pk (⟨k,a,0,a,0⟩:Fm)).1 ((nextM m.pk (⟨k,a,0,a,0⟩:Fm)).2 - m.base)).st=0:=by have:=of_decide_eq_true e;omega
    rw[e'] at hask
    have hask':askM m.pk (begS m.pk k a S)=.more (.begin (nextM m.pk (⟨k,a,0,a,0⟩:Fm)).1 (nextM m.pk (⟨k,a,0,a,0⟩:Fm)).2) (begS m.pk k a S):=hask
    rw[hask'] at hnx hng hG2
    exact⟨⟨0,(nextM m.pk (⟨k,a,0,a,0⟩:Fm)).1,(nextM m.pk (⟨k,a,0,a,0⟩:Fm)).2,(begS m.pk k a S).kn (nextM m.pk (⟨k,a,0,a,0⟩:Fm)).1 ((nextM m.pk (⟨k,a,0,a,0⟩:Fm)).2 - m.base),(begS m.pk k a S),R3,os1,n⟩,⟨⟨⟨hR3,hN3,hos1,hfu1,hopl1,.inl ⟨rfl,hnx.1,hng.1,hnx.2,hG2⟩⟩,rfl⟩,by simp[runMu]<;>omega⟩,.refl,aF6,.cons rfl (.cons rfl (.cons rfl (.nil)))⟩
   have e0':Nat.beq ((begS m.pk k a S).kn (nextM m.pk (⟨k,a,0,a,0⟩:Fm)).1 ((nextM m.pk (⟨k,a,0,a,0⟩:Fm)).2 - m.base)).st 0=false:=by
    rw[Bool.eq_false_iff]
    intro e2
    have:=Nat.eq_of_beq_eq_true e2
    have:=of_decide_eq_false e0
    omega
   rw[e0',cond_false] at hask
   refine CondOb.mk (fun e=>?_) (fun e1=>?_)
   ·have e':((begS m.pk k a S).kn (nextM m.pk (⟨k,a,0,a,0⟩:Fm)).1 ((nextM m.pk (⟨k,a,0,a,0⟩:Fm)).2 - m.base)).st=1:=by have:=of_decide_eq_true e;omega
    rw[e'] at hask
    have hask':askM m.pk (begS m.pk k a S)=.stop (.err 1):=hask
    rw[hask'] at hG2
    have hG3:G=.err 1:=hG2.symm
    exact⟨_,[],.sub (List.nil_sublist _) .refl,rfl,by rw[hG3];exact⟨rfl,rfl⟩⟩
   have e1':Nat.beq ((begS m.pk k a S).kn (nextM m.pk (⟨k,a,0,a,0⟩:Fm)).1 ((nextM m.pk (⟨k,a,0,a,0⟩:Fm)).2 - m.base)).st 1=false:=by
    rw[Bool.eq_false_iff]
    intro e2
    have:=Nat.eq_of_beq_eq_true e2
    have:=of_decide_eq_false e1
    omega
   rw[e1',cond_false] at hask
   rw[hask] at hnx hng hG2
   exact⟨⟨3,(nextM m.pk (⟨k,a,0,a,0⟩:Fm)).1,(nextM m.pk (⟨k,a,0,a,0⟩:Fm)).2,(begS m.pk k a S).kn (nextM m.pk (⟨k,a,0,a,0⟩:Fm)).1 ((nextM m.pk (⟨k,a,0,a,0⟩:Fm)).2 - m.base),(begS m.pk k a S),R3,os1,n⟩,⟨⟨⟨hR3,hN3,hos1,hfu1,hopl1,.inr (.inl ⟨rfl,hnx.1,hng.1,hnx.2,hng.2,hG2⟩)⟩,rfl⟩,by simp[runMu]<;>omega⟩,.refl,aF6,.cons rfl (.cons rfl (.cons rfl (.nil)))⟩
  ·
   refine CallOb.whole _ (burn_spec m S.used m.ns.n os hfl) ?_
   rintro v I' M' - ⟨rfl,⟨hb,rfl,rfl⟩ | ⟨hb,rfl,rfl⟩⟩
   ·refine CondOb.mk (fun _=>?_) (fun e=>by cases e)
    obtain rfl:left=0:=by omega
    have hG3:G=.err 0:=hG.symm
    exact⟨_,[],.sub (List.nil_sublist _) .refl,rfl,by rw[hG3];exact⟨rfl,rfl⟩⟩
   refine CondOb.mk (fun e=>by cases e) (fun _=>?_)
   obtain⟨n,rfl⟩:∃ n,left=n+1:=⟨left - 1,by omega⟩
   have hstep:=step_ok hP hS hq
   have hgstep:=step_g hP hS hMg hq hrg
   rw[go_succ] at hG
   obtain⟨f,rest,hop,hd,hc⟩:=hq
   have hfo:=hS.op f (by rw[hop];exact .head _)
   have hsw:=(hMg.hs f (by rw[hop];exact .head _)).w
   obtain⟨g,hFr⟩:=frAt_of (by rw[hop] at hos;exact hos)
   have hfn:=hFr.n
   have hga:os.a.map (fun g=>(⟨g,0,none⟩:Addr))=some ⟨g,0,none⟩:=by rw[hFr.a];rfl
   have hrl:rest.reverse.length≤1099511627776:=by
    rw[hop] at hopl
    simp only[List.length_cons,List.length_reverse] at hopl ⊢
    omega
   refine CodeOb.draw TryzEOK rfl rfl rfl ?_
   refine LoadOb.mk _ (mc_rd (used:=S.used+1) (N:=m.ns.n) (os:=os) (k:=6) (.head _) (by decide)) ?_
   refine LoadOb.mk _ (mc_rd (used:=S.used+1) (N:=m.ns.n) (os:=os) (k:=6) (.head _) (by decide)) ?_
   refine ArithOb.mk (rest.reverse.length:Int) (wr_eq (by omega) (by omega)) ?_
   refine IdxOb.mk ⟨g,0,none⟩ rest.reverse.length hga rfl (by omega) ?_
   have hnd:f.nd < m.ns.n:=by rw[←hnN];exact hfo.nd
   obtain⟨x,hkx,hxe,hpn,hxo,ad,had,hrd⟩:=pk_at hns hnd
   have hce:=ce_rng hc hsz
   have hpre:HdPre I' m.pk f c x (ad.add (f.nd * 10)):=⟨hrd,hpn,by have:=hxo.rs.len;simpa using this,by have h1:=hfo.pl;have h2:=hfo.to;have h3:m.pk.s.size≤4096:=hsz;omega,Nat.le_trans hfo.to hsz,times_le hP hfo,hfo.n,hce.1,hce.2⟩
   have hM2:∀ y∈os.blk 126,y∈mcB m (S.used+1) m.ns.n os::krH m R::(krB m R++os.blk 126):=fun y hy=>.tail _ (.tail _ (List.mem_append.2 (.inr hy)))
   have hadr:(⟨g,rest.reverse.length * 5,none⟩:Addr)=(⟨g,0,none⟩:Addr).add (rest.reverse.length * 5):=by rw[addr_add _ rfl,Nat.zero_add]
   have hk10:=(Pk.at_ok hP hfo.nd).k
   have hk3:=hfo.k
   rw[hpn] at hk10 hk3
   have hfin:∀ (f':Fm) (c':Ce) (done:Bool),handleM m.pk f c=.on f' c' done→handM m.pk c S=bif done then finishM m.pk c' ⟨S.kn,f'::rest,S.used+1⟩ else askM m.pk ⟨S.kn,f'::rest,S.used+1⟩:=fun f' c' done e=>by
    unfold handM
    rw[hop]
    simp only
    rw[e]
   have hstep':NxOk m.pk (handM m.pk c S):=hstep
   have hgstep':NgOk m.pk (handM m.pk c S):=hgstep
   have hG':contG m.pk (handM m.pk c S) n=G:=hG
   have hlp:handleM m.pk f c=.loop→G=.err 2:=fun e=>by
    have:handM m.pk c S=.stop (.err 2):=by
     unfold handM
     rw[hop]
     simp only
     rw[e]
    rw[this] at hG'
    exact hG'.symm
   have hho:=fun (f':Fm) (c':Ce) (done:Bool) (e:handleM m.pk f c=.on f' c' done)=>handle_ok hP hfo hd hc e
   have hopl3:rest.length+1≤S.used+1:=by
    rw[hop] at hopl
    simp only[List.length_cons] at hopl
    omega
   have hlo:=hfo.lo
   have hfpl:f.pl≤m.s.size:=Nat.le_trans hfo.pl hfo.to
   clear hstep hgstep hG hxe hxo hop hos hopl
   refine CodeOb.draw TryzEOK rfl rfl rfl ?_
   refine LoadOb.mk _ (mc_rd (used:=S.used+1) (N:=m.ns.n) (os:=os) (k:=4) (.head _) (by decide)) ?_
   refine LoadOb.mk _ ((hFr.rd' hM2).part (k:=0) (m:=1) (by decide)) ?_
   refine IdxOb.mk ad f.nd had rfl hnd ?_
   refine LoadOb.mk _ (mn_ld hrd (off:=0) (n:=1) (by decide) _) ?_
   obtain⟨⟨dk,s0,s1,s2,s3,dt,dlo,dhi,dka,dkn,dkc,dkids⟩,xa,xn,xc,xasks⟩:=x
   have hcases:dk=3∨dk=4∨dk=5∨dk=6∨dk=7∨dk=8∨dk=9:=by
    have h1:(0:Int)≤dk∧dk < 10:=hk10
    have h2:3≤dk:=hk3
    omega
   rcases hcases with rfl | rfl | rfl | rfl | rfl | rfl | rfl
   ·refine ArrOb.mk 3 rfl (by decide) ?_
    refine LoadOb.mk _ (mc_rd (used:=S.used+1) (N:=m.ns.n) (os:=os) (k:=4) (.head _) (by decide)) ?_
    refine LoadOb.mk _ ((hFr.rd' hM2).part (k:=0) (m:=1) (by decide)) ?_
    refine IdxOb.mk ad f.nd had rfl hnd ?_
    have hsp:=hand_at hpre hFr 3 (by decide) rfl
    rw[hadr] at hsp
    refine CallOb.mk (os.blk 126) (mcB m (S.used+1) m.ns.n os::krH m R::krB m R) _ perm_os hsp ?_
    rintro v I' M' - ⟨rfl,hpost⟩
    cases hh:handleM m.pk f c with
    | loop=>
     rw[hh] at hpost
     obtain⟨rfl,rfl⟩:=hpost
     refine CondOb.mk (fun _=>?_) (fun e=>by cases e)
     exact⟨_,[],.sub (List.nil_sublist _) .refl,rfl,by rw[hlp hh];exact⟨rfl,rfl⟩⟩
    | on f' c' done=>
     rw[hh] at hpost
     obtain⟨rfl,os2,hv2,hFr2,rfl⟩:=hpost
     have hf9:=hfin f' c' done hh
     have ho9:=hho f' c' done hh
     rw[hf9] at hstep' hgstep' hG'
     have hos2:os2.ok 5 ((f'::rest).reverse.flatMap Fm.cells):=by rw[List.reverse_cons];exact hFr2.ok
     have hwk:(os2.blk 126++(mcB m (S.used+1) m.ns.n os::krH m R::krB m R)).Perm (mcB m (S.used+1) m.ns.n os2::krH m R::(krB m R++os2.blk 126)):=by
      rw[mcB_os hv2]
      exact perm_os.symm
     refine CondOb.mk (fun e=>by cases e) (fun _=>?_)
     refine CondOb.mk (fun e=>?_) (fun e=>?_)
     ·have e':done=true:=e
      subst e'
      rw[cond_true] at hstep' hgstep' hG'
      exact⟨⟨1,k,a,c',⟨S.kn,f'::rest,S.used+1⟩,R,os2,n⟩,⟨⟨⟨hR,hN,hos2,by show S.used+1+n=_;omega,hopl3,.inr (.inr (.inr ⟨rfl,⟨f',rest,rfl,by rw[ho9.same.2];exact hlo,by rw[ho9.same.2];exact hfpl,by rw[ho9.same.1];exact hnd,by rw[ho9.same.1,ho9.same.2];exact hsw⟩,hstep',hgstep',hG'⟩))⟩,rfl⟩,by simp[runMu]<;>omega⟩,.perm hwk .refl,aF6,.cons rfl (.cons rfl (.cons rfl (.nil)))⟩
     ·have e':done=false:=e
      subst e'
      rw[cond_false] at hstep' hgstep' hG'
      exact⟨⟨2,k,a,c',⟨S.kn,f'::rest,S.used+1⟩,R,os2,n⟩,⟨⟨⟨hR,hN,hos2,by show S.used+1+n=_;omega,hopl3,.inr (.inr (.inl ⟨rfl,⟨f',rest,rfl,ho9.on rfl⟩,hstep',hgstep',hG'⟩))⟩,rfl⟩,by simp[runMu]<;>omega⟩,.perm hwk .refl,aF6,.cons rfl (.cons rfl (.cons rfl (.nil)))⟩
   ·refine ArrOb.mk 4 rfl (by decide) ?_
    refine LoadOb.mk _ (mc_rd (used:=S.used+1) (N:=m.ns.n) (os:=os) (k:=4) (.head _) (by decide)) ?_
    refine LoadOb.mk _ ((hFr.rd' hM2).part (k:=0) (m:=1) (by decide)) ?_
    refine IdxOb.mk ad f.nd had rfl hnd ?_
    have hsp:=hand_at hpre hFr 4 (by decide) rfl
    rw[hadr] at hsp
    refine CallOb.mk (os.blk 126) (mcB m (S.used+1) m.ns.n os::krH m R::krB m R) _ perm_os hsp ?_
    rintro v I' M' - ⟨rfl,hpost⟩
    cases hh:handleM m.pk f c with
    | loop=>
     rw[hh] at hpost
     obtain⟨rfl,rfl⟩:=hpost
     refine CondOb.mk (fun _=>?_) (fun e=>by cases e)
     exact⟨_,[],.sub (List.nil_sublist _) .refl,rfl,by rw[hlp hh];exact⟨rfl,rfl⟩⟩
    | on f' c' done=>
     rw[hh] at hpost
     obtain⟨rfl,os2,hv2,hFr2,rfl⟩:=hpost
     have hf9:=hfin f' c' done hh
     have ho9:=hho f' c' done hh
     rw[hf9] at hstep' hgstep' hG'
     have hos2:os2.ok 5 ((f'::rest).reverse.flatMap Fm.cells):=by rw[List.reverse_cons];exact hFr2.ok
     have hwk:(os2.blk 126++(mcB m (S.used+1) m.ns.n os::krH m R::krB m R)).Perm (mcB m (S.used+1) m.ns.n os2::krH m R::(krB m R++os2.blk 126)):=by
      rw[mcB_os hv2]
      exact perm_os.symm
     refine CondOb.mk (fun e=>by cases e) (fun _=>?_)
     refine CondOb.mk (fun e=>?_) (fun e=>?_)
     ·have e':done=true:=e
      subst e'
      rw[cond_true] at hstep' hgstep' hG'
      exact⟨⟨1,k,a,c',⟨S.kn,f'::rest,S.used+1⟩,R,os2,n⟩,⟨⟨⟨hR,hN,hos2,by show S.used+1+n=_;omega,hopl3,.inr (.inr (.inr ⟨rfl,⟨f',rest,rfl,by rw[ho9.same.2];exact hlo,by rw[ho9.same.2];exact hfpl,by rw[ho9.same.1];exact hnd,by rw[ho9.same.1,ho9.same.2];exact hsw⟩,hstep',hgstep',hG'⟩))⟩,rfl⟩,by simp[runMu]<;>omega⟩,.perm hwk .refl,aF6,.cons rfl (.cons rfl (.cons rfl (.nil)))⟩
     ·have e':done=false:=e
      subst e'
      rw[cond_false] at hstep' hgstep' hG'
      exact⟨⟨2,k,a,c',⟨S.kn,f'::rest,S.used+1⟩,R,os2,n⟩,⟨⟨⟨hR,hN,hos2,by show S.used+1+n=_;omega,hopl3,.inr (.inr (.inl ⟨rfl,⟨f',rest,rfl,ho9.on rfl⟩,hstep',hgstep',hG'⟩))⟩,rfl⟩,by simp[runMu]<;>omega⟩,.perm hwk .refl,aF6,.cons rfl (.cons rfl (.cons rfl (.nil)))⟩
   ·refine ArrOb.mk 5 rfl (by decide) ?_
    refine LoadOb.mk _ (mc_rd (used:=S.used+1) (N:=m.ns.n) (os:=os) (k:=4) (.head _) (by decide)) ?_
    refine LoadOb.mk _ ((hFr.rd' hM2).part (k:=0) (m:=1) (by decide)) ?_
    refine IdxOb.mk ad f.nd had rfl hnd ?_
    have hsp:=hand_at hpre hFr 5 (by decide) rfl
    rw[hadr] at hsp
    refine CallOb.mk (os.blk 126) (mcB m (S.used+1) m.ns.n os::krH m R::krB m R) _ perm_os hsp ?_
    rintro v I' M' - ⟨rfl,hpost⟩
    cases hh:handleM m.pk f c with
    | loop=>
     rw[hh] at hpost
     obtain⟨rfl,rfl⟩:=hpost
     refine CondOb.mk (fun _=>?_) (fun e=>by cases e)
     exact⟨_,[],.sub (List.nil_sublist _) .refl,rfl,by rw[hlp hh];exact⟨rfl,rfl⟩⟩
    | on f' c' done=>
     rw[hh] at hpost
     obtain⟨rfl,os2,hv2,hFr2,rfl⟩:=hpost
     have hf9:=hfin f' c' done hh
     have ho9:=hho f' c' done hh
     rw[hf9] at hstep' hgstep' hG'
     have hos2:os2.ok 5 ((f'::rest).reverse.flatMap Fm.cells):=by rw[List.reverse_cons];exact hFr2.ok
     have hwk:(os2.blk 126++(mcB m (S.used+1) m.ns.n os::krH m R::krB m R)).Perm (mcB m (S.used+1) m.ns.n os2::krH m R::(krB m R++os2.blk 126)):=by
      rw[mcB_os hv2]
      exact perm_os.symm
     refine CondOb.mk (fun e=>by cases e) (fun _=>?_)
     refine CondOb.mk (fun e=>?_) (fun e=>?_)
     ·have e':done=true:=e
      subst e'
      rw[cond_true] at hstep' hgstep' hG'
      exact⟨⟨1,k,a,c',⟨S.kn,f'::rest,S.used+1⟩,R,os2,n⟩,⟨⟨⟨hR,hN,hos2,by show S.used+1+n=_;omega,hopl3,.inr (.inr (.inr ⟨rfl,⟨f',rest,rfl,by rw[ho9.same.2];exact hlo,by rw[ho9.same.2];exact hfpl,by rw[ho9.same.1];exact hnd,by rw[ho9.same.1,ho9.same.2];exact hsw⟩,hstep',hgstep',hG'⟩))⟩,rfl⟩,by simp[runMu]<;>omega⟩,.perm hwk .refl,aF6,.cons rfl (.cons rfl (.cons rfl (.nil)))⟩
     ·have e':done=false:=e
      subst e'
      rw[cond_false] at hstep' hgstep' hG'
      exact⟨⟨2,k,a,c',⟨S.kn,f'::rest,S.used+1⟩,R,os2,n⟩,⟨⟨⟨hR,hN,hos2,by show S.used+1+n=_;omega,hopl3,.inr (.inr (.inl ⟨rfl,⟨f',rest,rfl,ho9.on rfl⟩,hstep',hgstep',hG'⟩))⟩,rfl⟩,by simp[runMu]<;>omega⟩,.perm hwk .refl,aF6,.cons rfl (.cons rfl (.cons rfl (.nil)))⟩
   ·refine ArrOb.mk 6 rfl (by decide) ?_
    refine LoadOb.mk _ (mc_rd (used:=S.used+1) (N:=m.ns.n) (os:=os) (k:=4) (.head _) (by decide)) ?_
    refine LoadOb.mk _ ((hFr.rd' hM2).part (k:=0) (m:=1) (by decide)) ?_
    refine IdxOb.mk ad f.nd had rfl hnd ?_
    have hsp:=hand_at hpre hFr 6 (by decide) rfl
    rw[hadr] at hsp
    refine CallOb.mk (os.blk 126) (mcB m (S.used+1) m.ns.n os::krH m R::krB m R) _ perm_os hsp ?_
    rintro v I' M' - ⟨rfl,hpost⟩
    cases hh:handleM m.pk f c with
    | loop=>
     rw[hh] at hpost
     obtain⟨rfl,rfl⟩:=hpost
     refine CondOb.mk (fun _=>?_) (fun e=>by cases e)
     exact⟨_,[],.sub (List.nil_sublist _) .refl,rfl,by rw[hlp hh];exact⟨rfl,rfl⟩⟩
    | on f' c' done=>
     rw[hh] at hpost
     obtain⟨rfl,os2,hv2,hFr2,rfl⟩:=hpost
     have hf9:=hfin f' c' done hh
     have ho9:=hho f' c' done hh
     rw[hf9] at hstep' hgstep' hG'
     have hos2:os2.ok 5 ((f'::rest).reverse.flatMap Fm.cells):=by rw[List.reverse_cons];exact hFr2.ok
     have hwk:(os2.blk 126++(mcB m (S.used+1) m.ns.n os::krH m R::krB m R)).Perm (mcB m (S.used+1) m.ns.n os2::krH m R::(krB m R++os2.blk 126)):=by
      rw[mcB_os hv2]
      exact perm_os.symm
     refine CondOb.mk (fun e=>by cases e) (fun _=>?_)
     refine CondOb.mk (fun e=>?_) (fun e=>?_)
     ·have e':done=true:=e
      subst e'
      rw[cond_true] at hstep' hgstep' hG'
      exact⟨⟨1,k,a,c',⟨S.kn,f'::rest,S.used+1⟩,R,os2,n⟩,⟨⟨⟨hR,hN,hos2,by show S.used+1+n=_;omega,hopl3,.inr (.inr (.inr ⟨rfl,⟨f',rest,rfl,by rw[ho9.same.2];exact hlo,by rw[ho9.same.2];exact hfpl,by rw[ho9.same.1];exact hnd,by rw[ho9.same.1,ho9.same.2];exact hsw⟩,hstep',hgstep',hG'⟩))⟩,rfl⟩,by simp[runMu]<;>omega⟩,.perm hwk .refl,aF6,.cons rfl (.cons rfl (.cons rfl (.nil)))⟩
     ·have e':done=false:=e
      subst e'
      rw[cond_false] at hstep' hgstep' hG'
      exact⟨⟨2,k,a,c',⟨S.kn,f'::rest,S.used+1⟩,R,os2,n⟩,⟨⟨⟨hR,hN,hos2,by show S.used+1+n=_;omega,hopl3,.inr (.inr (.inl ⟨rfl,⟨f',rest,rfl,ho9.on rfl⟩,hstep',hgstep',hG'⟩))⟩,rfl⟩,by simp[runMu]<;>omega⟩,.perm hwk .refl,aF6,.cons rfl (.cons rfl (.cons rfl (.nil)))⟩
   ·refine ArrOb.mk 7 rfl (by decide) ?_
    refine LoadOb.mk _ (mc_rd (used:=S.used+1) (N:=m.ns.n) (os:=os) (k:=4) (.head _) (by decide)) ?_
    refine LoadOb.mk _ ((hFr.rd' hM2).part (k:=0) (m:=1) (by decide)) ?_
    refine IdxOb.mk ad f.nd had rfl hnd ?_
    have hsp:=hand_at hpre hFr 7 (by decide) rfl
    rw[hadr] at hsp
    refine CallOb.mk (os.blk 126) (mcB m (S.used+1) m.ns.n os::krH m R::krB m R) _ perm_os hsp ?_
    rintro v I' M' - ⟨rfl,hpost⟩
    cases hh:handleM m.pk f c with
    | loop=>
     rw[hh] at hpost
     obtain⟨rfl,rfl⟩:=hpost
     refine CondOb.mk (fun _=>?_) (fun e=>by cases e)
     exact⟨_,[],.sub (List.nil_sublist _) .refl,rfl,by rw[hlp hh];exact⟨rfl,rfl⟩⟩
    | on f' c' done=>
     rw[hh] at hpost
     obtain⟨rfl,os2,hv2,hFr2,rfl⟩:=hpost
     have hf9:=hfin f' c' done hh
     have ho9:=hho f' c' done hh
     rw[hf9] at hstep' hgstep' hG'
     have hos2:os2.ok 5 ((f'::rest).reverse.flatMap Fm.cells):=by rw[List.reverse_cons];exact hFr2.ok
     have hwk:(os2.blk 126++(mcB m (S.used+1) m.ns.n os::krH m R::krB m R)).Perm (mcB m (S.used+1) m.ns.n os2::krH m R::(krB m R++os2.blk 126)):=by
      rw[mcB_os hv2]
      exact perm_os.symm
     refine CondOb.mk (fun e=>by cases e) (fun _=>?_)
     refine CondOb.mk (fun e=>?_) (fun e=>?_)
     ·have e':done=true:=e
      subst e'
      rw[cond_true] at hstep' hgstep' hG'
      exact⟨⟨1,k,a,c',⟨S.kn,f'::rest,S.used+1⟩,R,os2,n⟩,⟨⟨⟨hR,hN,hos2,by show S.used+1+n=_;omega,hopl3,.inr (.inr (.inr ⟨rfl,⟨f',rest,rfl,by rw[ho9.same.2];exact hlo,by rw[ho9.same.2];exact hfpl,by rw[ho9.same.1];exact hnd,by rw[ho9.same.1,ho9.same.2];exact hsw⟩,hstep',hgstep',hG'⟩))⟩,rfl⟩,by simp[runMu]<;>omega⟩,.perm hwk .refl,aF6,.cons rfl (.cons rfl (.cons rfl (.nil)))⟩
     ·have e':done=false:=e
      subst e'
      rw[cond_false] at hstep' hgstep' hG'
      exact⟨⟨2,k,a,c',⟨S.kn,f'::rest,S.used+1⟩,R,os2,n⟩,⟨⟨⟨hR,hN,hos2,by show S.used+1+n=_;omega,hopl3,.inr (.inr (.inl ⟨rfl,⟨f',rest,rfl,ho9.on rfl⟩,hstep',hgstep',hG'⟩))⟩,rfl⟩,by simp[runMu]<;>omega⟩,.perm hwk .refl,aF6,.cons rfl (.cons rfl (.cons rfl (.nil)))⟩
   ·refine ArrOb.mk 8 rfl (by decide) ?_
    refine LoadOb.mk _ (mc_rd (used:=S.used+1) (N:=m.ns.n) (os:=os) (k:=4) (.head _) (by decide)) ?_
    refine LoadOb.mk _ ((hFr.rd' hM2).part (k:=0) (m:=1) (by decide)) ?_
    refine IdxOb.mk ad f.nd had rfl hnd ?_
    have hsp:=hand_at hpre hFr 8 (by decide) rfl
    rw[hadr] at hsp
    refine CallOb.mk (os.blk 126) (mcB m (S.used+1) m.ns.n os::krH m R::krB m R) _ perm_os hsp ?_
    rintro v I' M' - ⟨rfl,hpost⟩
    cases hh:handleM m.pk f c with
    | loop=>
     rw[hh] at hpost
     obtain⟨rfl,rfl⟩:=hpost
     refine CondOb.mk (fun _=>?_) (fun e=>by cases e)
     exact⟨_,[],.sub (List.nil_sublist _) .refl,rfl,by rw[hlp hh];exact⟨rfl,rfl⟩⟩
    | on f' c' done=>
     rw[hh] at hpost
     obtain⟨rfl,os2,hv2,hFr2,rfl⟩:=hpost
     have hf9:=hfin f' c' done hh
     have ho9:=hho f' c' done hh
     rw[hf9] at hstep' hgstep' hG'
     have hos2:os2.ok 5 ((f'::rest).reverse.flatMap Fm.cells):=by rw[List.reverse_cons];exact hFr2.ok
     have hwk:(os2.blk 126++(mcB m (S.used+1) m.ns.n os::krH m R::krB m R)).Perm (mcB m (S.used+1) m.ns.n os2::krH m R::(krB m R++os2.blk 126)):=by
      rw[mcB_os hv2]
      exact perm_os.symm
     refine CondOb.mk (fun e=>by cases e) (fun _=>?_)
     refine CondOb.mk (fun e=>?_) (fun e=>?_)
     ·have e':done=true:=e
      subst e'
      rw[cond_true] at hstep' hgstep' hG'
      exact⟨⟨1,k,a,c',⟨S.kn,f'::rest,S.used+1⟩,R,os2,n⟩,⟨⟨⟨hR,hN,hos2,by show S.used+1+n=_;omega,hopl3,.inr (.inr (.inr ⟨rfl,⟨f',rest,rfl,by rw[ho9.same.2];exact hlo,by rw[ho9.same.2];exact hfpl,by rw[ho9.same.1];exact hnd,by rw[ho9.same.1,ho9.same.2];exact hsw⟩,hstep',hgstep',hG'⟩))⟩,rfl⟩,by simp[runMu]<;>omega⟩,.perm hwk .refl,aF6,.cons rfl (.cons rfl (.cons rfl (.nil)))⟩
     ·have e':done=false:=e
      subst e'
      rw[cond_false] at hstep' hgstep' hG'
      exact⟨⟨2,k,a,c',⟨S.kn,f'::rest,S.used+1⟩,R,os2,n⟩,⟨⟨⟨hR,hN,hos2,by show S.used+1+n=_;omega,hopl3,.inr (.inr (.inl ⟨rfl,⟨f',rest,rfl,ho9.on rfl⟩,hstep',hgstep',hG'⟩))⟩,rfl⟩,by simp[runMu]<;>omega⟩,.perm hwk .refl,aF6,.cons rfl (.cons rfl (.cons rfl (.nil)))⟩
   ·refine ArrOb.mk 9 rfl (by decide) ?_
    refine LoadOb.mk _ (mc_rd (used:=S.used+1) (N:=m.ns.n) (os:=os) (k:=4) (.head _) (by decide)) ?_
    refine LoadOb.mk _ ((hFr.rd' hM2).part (k:=0) (m:=1) (by decide)) ?_
    refine IdxOb.mk ad f.nd had rfl hnd ?_
    have hsp:=hand_at hpre hFr 9 (by decide) rfl
    rw[hadr] at hsp
    refine CallOb.mk (os.blk 126) (mcB m (S.used+1) m.ns.n os::krH m R::krB m R) _ perm_os hsp ?_
    rintro v I' M' - ⟨rfl,hpost⟩
    cases hh:handleM m.pk f c with
    | loop=>
     rw[hh] at hpost
     obtain⟨rfl,rfl⟩:=hpost
     refine CondOb.mk (fun _=>?_) (fun e=>by cases e)
     exact⟨_,[],.sub (List.nil_sublist _) .refl,rfl,by rw[hlp hh];exact⟨rfl,rfl⟩⟩
    | on f' c' done=>
     rw[hh] at hpost
     obtain⟨rfl,os2,hv2,hFr2,rfl⟩:=hpost
     have hf9:=hfin f' c' done hh
     have ho9:=hho f' c' done hh
     rw[hf9] at hstep' hgstep' hG'
     have hos2:os2.ok 5 ((f'::rest).reverse.flatMap Fm.cells):=by rw[List.reverse_cons];exact hFr2.ok
     have hwk:(os2.blk 126++(mcB m (S.used+1) m.ns.n os::krH m R::krB m R)).Perm (mcB m (S.used+1) m.ns.n os2::krH m R::(krB m R++os2.blk 126)):=by
      rw[mcB_os hv2]
      exact perm_os.symm
     refine CondOb.mk (fun e=>by cases e) (fun _=>?_)
     refine CondOb.mk (fun e=>?_) (fun e=>?_)
     ·have e':done=true:=e
      subst e'
      rw[cond_true] at hstep' hgstep' hG'
      exact⟨⟨1,k,a,c',⟨S.kn,f'::rest,S.used+1⟩,R,os2,n⟩,⟨⟨⟨hR,hN,hos2,by show S.used+1+n=_;omega,hopl3,.inr (.inr (.inr ⟨rfl,⟨f',rest,rfl,by rw[ho9.same.2];exact hlo,by rw[ho9.same.2];exact hfpl,by rw[ho9.same.1];exact hnd,by rw[ho9.same.1,ho9.same.2];exact hsw⟩,hstep',hgstep',hG'⟩))⟩,rfl⟩,by simp[runMu]<;>omega⟩,.perm hwk .refl,aF6,.cons rfl (.cons rfl (.cons rfl (.nil)))⟩
     ·have e':done=false:=e
      subst e'
      rw[cond_false] at hstep' hgstep' hG'
      exact⟨⟨2,k,a,c',⟨S.kn,f'::rest,S.used+1⟩,R,os2,n⟩,⟨⟨⟨hR,hN,hos2,by show S.used+1+n=_;omega,hopl3,.inr (.inr (.inl ⟨rfl,⟨f',rest,rfl,ho9.on rfl⟩,hstep',hgstep',hG'⟩))⟩,rfl⟩,by simp[runMu]<;>omega⟩,.perm hwk .refl,aF6,.cons rfl (.cons rfl (.cons rfl (.nil)))⟩
  ·
   have hR2:=hR
   have hN2:=hN
   have hfu1:=hu
   obtain⟨g2,hFr2⟩:=frAt_of (by rw[hop] at hos;exact hos)
   obtain⟨x1,x2,x3,x4⟩:=nextM_ok hP hfo
   have hrl2:rest.reverse.length≤1099511627776:=by
    rw[hop] at hopl
    simp only[List.length_cons,List.length_reverse] at hopl ⊢
    omega
   refine CallOb.whole _ (next_spec m hns hP (used:=S.used) (N:=m.ns.n) (.head _) (fun x hx=>.tail _ (.tail _ (List.mem_append.2 (.inr hx)))) hFr2 hfo hrl2) ?_
   rintro v I' M' - ⟨rfl,rfl,rfl⟩
   refine CallOb.whole _ (cell_spec m hbs hsz (used:=S.used) (os:=os) hR2 hN2 (k:=(nextM m.pk f).1) (a:=(nextM m.pk f).2) (by rw[←hnN];exact x1) x2 x3) ?_
   rintro v I' M' - ⟨rfl,R3,b3,hR3,hN3,⟨hk3,hb3⟩,rfl,rfl⟩
   have hp3:(nextM m.pk f).2 - m.base < m.w:=by
    have e1:m.pk.base=m.base:=rfl
    have e2:m.pk.s=m.s:=rfl
    rw[e1] at x2
    rw[e2] at x3
    show _ < m.s.size - m.base+1
    omega
   refine LoadOb.mk _ (hR3.rd hw hk3 hb3 hp3 (fun x hx=>.tail _ (.tail _ (List.mem_append.2 (.inl hx))))) ?_
   have hask:askM m.pk S=bif Nat.beq (S.kn (nextM m.pk f).1 ((nextM m.pk f).2 - m.base)).st 0 then .more (.begin (nextM m.pk f).1 (nextM m.pk f).2) S else
     bif Nat.beq (S.kn (nextM m.pk f).1 ((nextM m.pk f).2 - m.base)).st 1 then .stop (.err 1) else .more (.hand (S.kn (nextM m.pk f).1 ((nextM m.pk f).2 - m.base))) S:=by
    unfold askM
    rw[hop]
    rfl
   refine CondOb.mk (fun e=>?_) (fun e0=>?_)
   ·have e':(S.kn (nextM m.pk f).1 ((nextM m.pk f).2 - m.base)).st=0:=by have:=of_decide_eq_true e;omega
    rw[e'] at hask
    have hask':askM m.pk S=.more (.begin (nextM m.pk f).1 (nextM m.pk f).2) S:=hask
    rw[hask'] at hnx hng hG2
    exact⟨⟨0,(nextM m.pk f).1,(nextM m.pk f).2,S.kn (nextM m.pk f).1 ((nextM m.pk f).2 - m.base),S,R3,os,left⟩,⟨⟨⟨hR3,hN3,hos,hfu1,hopl,.inl ⟨rfl,hnx.1,hng.1,hnx.2,hG2⟩⟩,rfl⟩,by simp[runMu]<;>omega⟩,.refl,aF6,.cons rfl (.cons rfl (.cons rfl (.nil)))⟩
   have e0':Nat.beq (S.kn (nextM m.pk f).1 ((nextM m.pk f).2 - m.base)).st 0=false:=by
    rw[Bool.eq_false_iff]
    intro e2
    have:=Nat.eq_of_beq_eq_true e2
    have:=of_decide_eq_false e0
    omega
   rw[e0',cond_false] at hask
   refine CondOb.mk (fun e=>?_) (fun e1=>?_)
   ·have e':(S.kn (nextM m.pk f).1 ((nextM m.pk f).2 - m.base)).st=1:=by have:=of_decide_eq_true e;omega
    rw[e'] at hask
    have hask':askM m.pk S=.stop (.err 1):=hask
    rw[hask'] at hG2
    have hG3:G=.err 1:=hG2.symm
    exact⟨_,[],.sub (List.nil_sublist _) .refl,rfl,by rw[hG3];exact⟨rfl,rfl⟩⟩
   have e1':Nat.beq (S.kn (nextM m.pk f).1 ((nextM m.pk f).2 - m.base)).st 1=false:=by
    rw[Bool.eq_false_iff]
    intro e2
    have:=Nat.eq_of_beq_eq_true e2
    have:=of_decide_eq_false e1
    omega
   rw[e1',cond_false] at hask
   rw[hask] at hnx hng hG2
   exact⟨⟨3,(nextM m.pk f).1,(nextM m.pk f).2,S.kn (nextM m.pk f).1 ((nextM m.pk f).2 - m.base),S,R3,os,left⟩,⟨⟨⟨hR3,hN3,hos,hfu1,hopl,.inr (.inl ⟨rfl,hnx.1,hng.1,hnx.2,hng.2,hG2⟩)⟩,rfl⟩,by simp[runMu]<;>omega⟩,.refl,aF6,.cons rfl (.cons rfl (.cons rfl (.nil)))⟩
  ·
   obtain⟨g1,hFr⟩:=frAt_of (by rw[hop] at hos;exact hos)
   have hfn:=hFr.n
   have hga:os.a.map (fun z=>(⟨z,0,none⟩:Addr))=some ⟨g1,0,none⟩:=by rw[hFr.a];rfl
   have hcap:=hFr.ok.cap g1 hFr.a
   have hrl:rest1.reverse.length≤1099511627776:=by
    rw[hop] at hopl
    simp only[List.length_cons,List.length_reverse] at hopl ⊢
    omega
   have hfp:f1.pl - m.base < m.w:=by show _ < m.s.size - m.base+1;omega
   obtain⟨b,hbk⟩:=hR.there (k:=f1.nd) (p:=f1.pl - m.base) (by omega) hfp hst1
   have hM2:∀ y∈os.blk 126,y∈mcB m S.used m.ns.n os::krH m R::(krB m R++os.blk 126):=fun y hy=>.tail _ (.tail _ (List.mem_append.2 (.inr hy)))
   refine CodeOb.draw TryzEOK rfl rfl rfl ?_
   refine LoadOb.mk _ (mc_rd (used:=S.used) (N:=m.ns.n) (os:=os) (k:=6) (.head _) (by decide)) ?_
   refine LoadOb.mk _ (mc_rd (used:=S.used) (N:=m.ns.n) (os:=os) (k:=6) (.head _) (by decide)) ?_
   refine ArithOb.mk (rest1.reverse.length:Int) (wr_eq (show ((os.n:Int) - 1)=_ by omega) (by omega)) ?_
   refine IdxOb.mk ⟨g1,0,none⟩ rest1.reverse.length hga rfl (show rest1.reverse.length < os.n by omega) ?_
   refine CodeOb.draw TryzEOK rfl rfl rfl ?_
   refine LoadOb.mk _ ((hFr.rd' hM2).part (k:=0) (m:=1) (by decide)) ?_
   refine ArithOb.mk (f1.nd:Int) (wr_eq rfl (by omega)) ?_
   refine LoadOb.mk _ ((hFr.rd' hM2).part (k:=1) (m:=1) (by decide)) ?_
   refine ArithOb.mk (f1.pl:Int) (wr_eq rfl (by omega)) ?_
   refine PCallOb.whole _ (cell_old m hbs hsz (used:=S.used) (N:=m.ns.n) (os:=os) (Mr:=os.blk 126) hN (by omega) hbk hlo hps) (fun v I' M' h x hx=>by rw[h.2.2];exact hx) ?_
   rintro v I' M' - ⟨rfl,rfl,rfl⟩
   refine hR.putW hw (k:=f1.nd) (by omega) hbk hfp c ?_
   intro R2 hR2 hl2
   have hN2:R2.length=m.ns.n:=by rw[hl2,hN]
   have hM3:∀ y∈os.blk 126,y∈mcB m S.used m.ns.n os::krH m R2::(krB m R2++os.blk 126):=fun y hy=>.tail _ (.tail _ (List.mem_append.2 (.inr hy)))
   refine CodeOb.draw TryzEOK rfl rfl rfl ?_
   refine LoadOb.mk _ (mc_rd (used:=S.used) (N:=m.ns.n) (os:=os) (k:=6) (.head _) (by decide)) ?_
   refine LoadOb.mk _ (mc_rd (used:=S.used) (N:=m.ns.n) (os:=os) (k:=6) (.head _) (by decide)) ?_
   refine ArithOb.mk (rest1.reverse.length:Int) (wr_eq (show ((os.n:Int) - 1)=_ by omega) (by omega)) ?_
   refine SliceOb.mk 0 rest1.reverse.length rfl rfl (Nat.zero_le _) (show rest1.reverse.length≤os.c by omega) ?_
   have hpop:OS.ok ⟨os.a,rest1.reverse.length,os.c,os.cur⟩ 5 (rest1.reverse.flatMap Fm.cells):=by
    have:=OS.pop5 hFr
    rwa [show os.n - 1=rest1.reverse.length by omega] at this
   refine StoreOb.mk [] (krH m R2::(krB m R2++os.blk 126)) _ _ rfl rfl (Nat.le_of_ble_eq_true rfl) rfl ?_
   refine LoadOb.mk _ (mc_rd (used:=S.used) (N:=m.ns.n) (os:=⟨os.a,rest1.reverse.length,os.c,os.cur⟩) (k:=6) (.head _) (by decide)) ?_
   have hb9:m.pk.base=m.base:=rfl
   refine CondOb.mk (fun e=>?_) (fun e=>?_)
   ·have e':rest1=[]:=by
     have h1:((rest1.reverse.length:Nat):Int)=0:=of_decide_eq_true e
     have h2:rest1.reverse.length=0:=by omega
     exact List.eq_nil_of_length_eq_zero (by simpa using h2)
    have hfi:finishM m.pk c S=.stop (.ok c { S with kn:=setKn S.kn f1.nd (f1.pl - m.base) c,op:=[] }):=by
     unfold finishM
     rw[hop,e']
     rfl
    rw[hfi] at hG2
    have hG3:G=.ok c { S with kn:=setKn S.kn f1.nd (f1.pl - m.base) c,op:=[] }:=hG2.symm
    refine⟨_,mcB m S.used m.ns.n ⟨os.a,rest1.reverse.length,os.c,os.cur⟩::krH m R2::krB m R2,.sub (.cons_cons _ (.cons_cons _ (List.sublist_append_left _ _))) .refl,rfl,?_⟩
    rw[hG3]
    exact⟨rfl,R2,_,hR2,hN2,rfl⟩
   have e':∃ r rs,rest1=r::rs:=by
    cases rest1 with
    | nil=>exact absurd (of_decide_eq_false e) (by simp)
    | cons r rs=>exact⟨r,rs,rfl⟩
   have hfi:finishM m.pk c S=.more (.hand c) ⟨setKn S.kn f1.nd (f1.pl - m.base) c,rest1,S.used⟩:=by
    obtain⟨r,rs,rfl⟩:=e'
    unfold finishM
    rw[hop]
    rfl
   rw[hfi] at hnx hng hG2
   obtain⟨hS,hq⟩:=hnx
   obtain⟨hMg,hrg⟩:=hng
   have hG:goM m.pk left (.hand c) ⟨setKn S.kn f1.nd (f1.pl - m.base) c,rest1,S.used⟩=G:=hG2
   have hopl':rest1.length≤S.used:=by
    rw[hop] at hopl
    simp only[List.length_cons] at hopl
    omega
   obtain⟨T,hT⟩:∃ T:Ms,T=⟨setKn S.kn f1.nd (f1.pl - m.base) c,rest1,S.used⟩:=⟨_,rfl⟩
   obtain⟨os2,hOS⟩:∃ o:OS,o=⟨os.a,rest1.reverse.length,os.c,os.cur⟩:=⟨_,rfl⟩
   refine LabOb.weak (runLP m I' ⟨3,k,a,c,T,R2,os2,left⟩) (.eqM (by rw[hT,hOS];rfl)) (aF6) (.cons rfl (.cons rfl (.cons rfl (.nil)))) ?_
   rw[←hT] at hS hMg hq hrg hG
   have hos:os2.ok 5 (T.op.reverse.flatMap Fm.cells):=by rw[hOS,hT];exact hpop
   have hR:KrOk m R2 T.kn:=by rw[hT];exact hR2
   have hN:=hN2
   have hu:T.used+left=m.fuel:=by rw[hT];exact hu
   have hopl:T.op.length≤T.used:=by rw[hT];exact hopl'
   clear hpop hR2 hM2 hM3 hFr hga hfn hop hnd hst1 hbk hOS hT hcap hl2 hN2
   refine CallOb.whole _ (burn_spec m T.used m.ns.n os2 hfl) ?_
   rintro v I' M' - ⟨rfl,⟨hb,rfl,rfl⟩ | ⟨hb,rfl,rfl⟩⟩
   ·refine CondOb.mk (fun _=>?_) (fun e=>by cases e)
    obtain rfl:left=0:=by omega
    have hG3:G=.err 0:=hG.symm
    exact⟨_,[],.sub (List.nil_sublist _) .refl,rfl,by rw[hG3];exact⟨rfl,rfl⟩⟩
   refine CondOb.mk (fun e=>by cases e) (fun _=>?_)
   obtain⟨n,rfl⟩:∃ n,left=n+1:=⟨left - 1,by omega⟩
   have hstep:=step_ok hP hS hq
   have hgstep:=step_g hP hS hMg hq hrg
   rw[go_succ] at hG
   obtain⟨f,rest,hop,hd,hc⟩:=hq
   have hfo:=hS.op f (by rw[hop];exact .head _)
   have hsw:=(hMg.hs f (by rw[hop];exact .head _)).w
   obtain⟨g,hFr⟩:=frAt_of (by rw[hop] at hos;exact hos)
   have hfn:=hFr.n
   have hga:os2.a.map (fun g=>(⟨g,0,none⟩:Addr))=some ⟨g,0,none⟩:=by rw[hFr.a];rfl
   have hrl:rest.reverse.length≤1099511627776:=by
    rw[hop] at hopl
    simp only[List.length_cons,List.length_reverse] at hopl ⊢
    omega
   refine CodeOb.draw TryzEOK rfl rfl rfl ?_
   refine LoadOb.mk _ (mc_rd (used:=T.used+1) (N:=m.ns.n) (os:=os2) (k:=6) (.head _) (by decide)) ?_
   refine LoadOb.mk _ (mc_rd (used:=T.used+1) (N:=m.ns.n) (os:=os2) (k:=6) (.head _) (by decide)) ?_
   refine ArithOb.mk (rest.reverse.length:Int) (wr_eq (by omega) (by omega)) ?_
   refine IdxOb.mk ⟨g,0,none⟩ rest.reverse.length hga rfl (by omega) ?_
   have hnd:f.nd < m.ns.n:=by rw[←hnN];exact hfo.nd
   obtain⟨x,hkx,hxe,hpn,hxo,ad,had,hrd⟩:=pk_at hns hnd
   have hce:=ce_rng hc hsz
   have hpre:HdPre I' m.pk f c x (ad.add (f.nd * 10)):=⟨hrd,hpn,by have:=hxo.rs.len;simpa using this,by have h1:=hfo.pl;have h2:=hfo.to;have h3:m.pk.s.size≤4096:=hsz;omega,Nat.le_trans hfo.to hsz,times_le hP hfo,hfo.n,hce.1,hce.2⟩
   have hM2:∀ y∈os2.blk 126,y∈mcB m (T.used+1) m.ns.n os2::krH m R2::(krB m R2++os2.blk 126):=fun y hy=>.tail _ (.tail _ (List.mem_append.2 (.inr hy)))
   have hadr:(⟨g,rest.reverse.length * 5,none⟩:Addr)=(⟨g,0,none⟩:Addr).add (rest.reverse.length * 5):=by rw[addr_add _ rfl,Nat.zero_add]
   have hk10:=(Pk.at_ok hP hfo.nd).k
   have hk3:=hfo.k
   rw[hpn] at hk10 hk3
   have hfin:∀ (f':Fm) (c':Ce) (done:Bool),handleM m.pk f c=.on f' c' done→handM m.pk c T=bif done then finishM m.pk c' ⟨T.kn,f'::rest,T.used+1⟩ else askM m.pk ⟨T.kn,f'::rest,T.used+1⟩:=fun f' c' done e=>by
    unfold handM
    rw[hop]
    simp only
    rw[e]
   have hstep':NxOk m.pk (handM m.pk c T):=hstep
   have hgstep':NgOk m.pk (handM m.pk c T):=hgstep
   have hG':contG m.pk (handM m.pk c T) n=G:=hG
   have hlp:handleM m.pk f c=.loop→G=.err 2:=fun e=>by
    have:handM m.pk c T=.stop (.err 2):=by
     unfold handM
     rw[hop]
     simp only
     rw[e]
    rw[this] at hG'
    exact hG'.symm
   have hho:=fun (f':Fm) (c':Ce) (done:Bool) (e:handleM m.pk f c=.on f' c' done)=>handle_ok hP hfo hd hc e
   have hopl3:rest.length+1≤T.used+1:=by
    rw[hop] at hopl
    simp only[List.length_cons] at hopl
    omega
   have hlo:=hfo.lo
   have hfpl:f.pl≤m.s.size:=Nat.le_trans hfo.pl hfo.to
   clear hstep hgstep hG hxe hxo hop hos hopl
   refine CodeOb.draw TryzEOK rfl rfl rfl ?_
   refine LoadOb.mk _ (mc_rd (used:=T.used+1) (N:=m.ns.n) (os:=os2) (k:=4) (.head _) (by decide)) ?_
   refine LoadOb.mk _ ((hFr.rd' hM2).part (k:=0) (m:=1) (by decide)) ?_
   refine IdxOb.mk ad f.nd had rfl hnd ?_
   refine LoadOb.mk _ (mn_ld hrd (off:=0) (n:=1) (by decide) _) ?_
   obtain⟨⟨dk,s0,s1,s2,s3,dt,dlo,dhi,dka,dkn,dkc,dkids⟩,xa,xn,xc,xasks⟩:=x
   have hcases:dk=3∨dk=4∨dk=5∨dk=6∨dk=7∨dk=8∨dk=9:=by
    have h1:(0:Int)≤dk∧dk < 10:=hk10
    have h2:3≤dk:=hk3
    omega
   rcases hcases with rfl | rfl | rfl | rfl | rfl | rfl | rfl
   ·refine ArrOb.mk 3 rfl (by decide) ?_
    refine LoadOb.mk _ (mc_rd (used:=T.used+1) (N:=m.ns.n) (os:=os2) (k:=4) (.head _) (by decide)) ?_
    refine LoadOb.mk _ ((hFr.rd' hM2).part (k:=0) (m:=1) (by decide)) ?_
    refine IdxOb.mk ad f.nd had rfl hnd ?_
    have hsp:=hand_at hpre hFr 3 (by decide) rfl
    rw[hadr] at hsp
    refine CallOb.mk (os2.blk 126) (mcB m (T.used+1) m.ns.n os2::krH m R2::krB m R2) _ perm_os hsp ?_
    rintro v I' M' - ⟨rfl,hpost⟩
    cases hh:handleM m.pk f c with
    | loop=>
     rw[hh] at hpost
     obtain⟨rfl,rfl⟩:=hpost
     refine CondOb.mk (fun _=>?_) (fun e=>by cases e)
     exact⟨_,[],.sub (List.nil_sublist _) .refl,rfl,by rw[hlp hh];exact⟨rfl,rfl⟩⟩
    | on f' c' done=>
     rw[hh] at hpost
     obtain⟨rfl,os9,hv2,hFr2,rfl⟩:=hpost
     have hf9:=hfin f' c' done hh
     have ho9:=hho f' c' done hh
     rw[hf9] at hstep' hgstep' hG'
     have hos2:os9.ok 5 ((f'::rest).reverse.flatMap Fm.cells):=by rw[List.reverse_cons];exact hFr2.ok
     have hwk:(os9.blk 126++(mcB m (T.used+1) m.ns.n os2::krH m R2::krB m R2)).Perm (mcB m (T.used+1) m.ns.n os9::krH m R2::(krB m R2++os9.blk 126)):=by
      rw[mcB_os hv2]
      exact perm_os.symm
     refine CondOb.mk (fun e=>by cases e) (fun _=>?_)
     refine CondOb.mk (fun e=>?_) (fun e=>?_)
     ·have e':done=true:=e
      subst e'
      rw[cond_true] at hstep' hgstep' hG'
      exact⟨⟨1,k,a,c',⟨T.kn,f'::rest,T.used+1⟩,R2,os9,n⟩,⟨⟨⟨hR,hN,hos2,by show T.used+1+n=_;omega,hopl3,.inr (.inr (.inr ⟨rfl,⟨f',rest,rfl,by rw[ho9.same.2];exact hlo,by rw[ho9.same.2];exact hfpl,by rw[ho9.same.1];exact hnd,by rw[ho9.same.1,ho9.same.2];exact hsw⟩,hstep',hgstep',hG'⟩))⟩,rfl⟩,by simp[runMu]<;>omega⟩,.perm hwk .refl,aF6,.cons rfl (.cons rfl (.cons rfl (.nil)))⟩
     ·have e':done=false:=e
      subst e'
      rw[cond_false] at hstep' hgstep' hG'
      exact⟨⟨2,k,a,c',⟨T.kn,f'::rest,T.used+1⟩,R2,os9,n⟩,⟨⟨⟨hR,hN,hos2,by show T.used+1+n=_;omega,hopl3,.inr (.inr (.inl ⟨rfl,⟨f',rest,rfl,ho9.on rfl⟩,hstep',hgstep',hG'⟩))⟩,rfl⟩,by simp[runMu]<;>omega⟩,.perm hwk .refl,aF6,.cons rfl (.cons rfl (.cons rfl (.nil)))⟩
   ·refine ArrOb.mk 4 rfl (by decide) ?_
    refine LoadOb.mk _ (mc_rd (used:=T.used+1) (N:=m.ns.n) (os:=os2) (k:=4) (.head _) (by decide)) ?_
    refine LoadOb.mk _ ((hFr.rd' hM2).part (k:=0) (m:=1) (by decide)) ?_
    refine IdxOb.mk ad f.nd had rfl hnd ?_
    have hsp:=hand_at hpre hFr 4 (by decide) rfl
    rw[hadr] at hsp
    refine CallOb.mk (os2.blk 126) (mcB m (T.used+1) m.ns.n os2::krH m R2::krB m R2) _ perm_os hsp ?_
    rintro v I' M' - ⟨rfl,hpost⟩
    cases hh:handleM m.pk f c with
    | loop=>
     rw[hh] at hpost
     obtain⟨rfl,rfl⟩:=hpost
     refine CondOb.mk (fun _=>?_) (fun e=>by cases e)
     exact⟨_,[],.sub (List.nil_sublist _) .refl,rfl,by rw[hlp hh];exact⟨rfl,rfl⟩⟩
    | on f' c' done=>
     rw[hh] at hpost
     obtain⟨rfl,os9,hv2,hFr2,rfl⟩:=hpost
     have hf9:=hfin f' c' done hh
     have ho9:=hho f' c' done hh
     rw[hf9] at hstep' hgstep' hG'
     have hos2:os9.ok 5 ((f'::rest).reverse.flatMap Fm.cells):=by rw[List.reverse_cons];exact hFr2.ok
     have hwk:(os9.blk 126++(mcB m (T.used+1) m.ns.n os2::krH m R2::krB m R2)).Perm (mcB m (T.used+1) m.ns.n os9::krH m R2::(krB m R2++os9.blk 126)):=by
      rw[mcB_os hv2]
      exact perm_os.symm
     refine CondOb.mk (fun e=>by cases e) (fun _=>?_)
     refine CondOb.mk (fun e=>?_) (fun e=>?_)
     ·have e':done=true:=e
      subst e'
      rw[cond_true] at hstep' hgstep' hG'
      exact⟨⟨1,k,a,c',⟨T.kn,f'::rest,T.used+1⟩,R2,os9,n⟩,⟨⟨⟨hR,hN,hos2,by show T.used+1+n=_;omega,hopl3,.inr (.inr (.inr ⟨rfl,⟨f',rest,rfl,by rw[ho9.same.2];exact hlo,by rw[ho9.same.2];exact hfpl,by rw[ho9.same.1];exact hnd,by rw[ho9.same.1,ho9.same.2];exact hsw⟩,hstep',hgstep',hG'⟩))⟩,rfl⟩,by simp[runMu]<;>omega⟩,.perm hwk .refl,aF6,.cons rfl (.cons rfl (.cons rfl (.nil)))⟩
     ·have e':done=false:=e
      subst e'
      rw[cond_false] at hstep' hgstep' hG'
      exact⟨⟨2,k,a,c',⟨T.kn,f'::rest,T.used+1⟩,R2,os9,n⟩,⟨⟨⟨hR,hN,hos2,by show T.used+1+n=_;omega,hopl3,.inr (.inr (.inl ⟨rfl,⟨f',rest,rfl,ho9.on rfl⟩,hstep',hgstep',hG'⟩))⟩,rfl⟩,by simp[runMu]<;>omega⟩,.perm hwk .refl,aF6,.cons rfl (.cons rfl (.cons rfl (.nil)))⟩
   ·refine ArrOb.mk 5 rfl (by decide) ?_
    refine LoadOb.mk _ (mc_rd (used:=T.used+1) (N:=m.ns.n) (os:=os2) (k:=4) (.head _) (by decide)) ?_
    refine LoadOb.mk _ ((hFr.rd' hM2).part (k:=0) (m:=1) (by decide)) ?_
    refine IdxOb.mk ad f.nd had rfl hnd ?_
    have hsp:=hand_at hpre hFr 5 (by decide) rfl
    rw[hadr] at hsp
    refine CallOb.mk (os2.blk 126) (mcB m (T.used+1) m.ns.n os2::krH m R2::krB m R2) _ perm_os hsp ?_
    rintro v I' M' - ⟨rfl,hpost⟩
    cases hh:handleM m.pk f c with
    | loop=>
     rw[hh] at hpost
     obtain⟨rfl,rfl⟩:=hpost
     refine CondOb.mk (fun _=>?_) (fun e=>by cases e)
     exact⟨_,[],.sub (List.nil_sublist _) .refl,rfl,by rw[hlp hh];exact⟨rfl,rfl⟩⟩
    | on f' c' done=>
     rw[hh] at hpost
     obtain⟨rfl,os9,hv2,hFr2,rfl⟩:=hpost
     have hf9:=hfin f' c' done hh
     have ho9:=hho f' c' done hh
     rw[hf9] at hstep' hgstep' hG'
     have hos2:os9.ok 5 ((f'::rest).reverse.flatMap Fm.cells):=by rw[List.reverse_cons];exact hFr2.ok
     have hwk:(os9.blk 126++(mcB m (T.used+1) m.ns.n os2::krH m R2::krB m R2)).Perm (mcB m (T.used+1) m.ns.n os9::krH m R2::(krB m R2++os9.blk 126)):=by
      rw[mcB_os hv2]
      exact perm_os.symm
     refine CondOb.mk (fun e=>by cases e) (fun _=>?_)
     refine CondOb.mk (fun e=>?_) (fun e=>?_)
     ·have e':done=true:=e
      subst e'
      rw[cond_true] at hstep' hgstep' hG'
      exact⟨⟨1,k,a,c',⟨T.kn,f'::rest,T.used+1⟩,R2,os9,n⟩,⟨⟨⟨hR,hN,hos2,by show T.used+1+n=_;omega,hopl3,.inr (.inr (.inr ⟨rfl,⟨f',rest,rfl,by rw[ho9.same.2];exact hlo,by rw[ho9.same.2];exact hfpl,by rw[ho9.same.1];exact hnd,by rw[ho9.same.1,ho9.same.2];exact hsw⟩,hstep',hgstep',hG'⟩))⟩,rfl⟩,by simp[runMu]<;>omega⟩,.perm hwk .refl,aF6,.cons rfl (.cons rfl (.cons rfl (.nil)))⟩
     ·have e':done=false:=e
      subst e'
      rw[cond_false] at hstep' hgstep' hG'
      exact⟨⟨2,k,a,c',⟨T.kn,f'::rest,T.used+1⟩,R2,os9,n⟩,⟨⟨⟨hR,hN,hos2,by show T.used+1+n=_;omega,hopl3,.inr (.inr (.inl ⟨rfl,⟨f',rest,rfl,ho9.on rfl⟩,hstep',hgstep',hG'⟩))⟩,rfl⟩,by simp[runMu]<;>omega⟩,.perm hwk .refl,aF6,.cons rfl (.cons rfl (.cons rfl (.nil)))⟩
   ·refine ArrOb.mk 6 rfl (by decide) ?_
    refine LoadOb.mk _ (mc_rd (used:=T.used+1) (N:=m.ns.n) (os:=os2) (k:=4) (.head _) (by decide)) ?_
    refine LoadOb.mk _ ((hFr.rd' hM2).part (k:=0) (m:=1) (by decide)) ?_
    refine IdxOb.mk ad f.nd had rfl hnd ?_
    have hsp:=hand_at hpre hFr 6 (by decide) rfl
    rw[hadr] at hsp
    refine CallOb.mk (os2.blk 126) (mcB m (T.used+1) m.ns.n os2::krH m R2::krB m R2) _ perm_os hsp ?_
    rintro v I' M' - ⟨rfl,hpost⟩
    cases hh:handleM m.pk f c with
    | loop=>
     rw[hh] at hpost
     obtain⟨rfl,rfl⟩:=hpost
     refine CondOb.mk (fun _=>?_) (fun e=>by cases e)
     exact⟨_,[],.sub (List.nil_sublist _) .refl,rfl,by rw[hlp hh];exact⟨rfl,rfl⟩⟩
    | on f' c' done=>
     rw[hh] at hpost
     obtain⟨rfl,os9,hv2,hFr2,rfl⟩:=hpost
     have hf9:=hfin f' c' done hh
     have ho9:=hho f' c' done hh
     rw[hf9] at hstep' hgstep' hG'
     have hos2:os9.ok 5 ((f'::rest).reverse.flatMap Fm.cells):=by rw[List.reverse_cons];exact hFr2.ok
     have hwk:(os9.blk 126++(mcB m (T.used+1) m.ns.n os2::krH m R2::krB m R2)).Perm (mcB m (T.used+1) m.ns.n os9::krH m R2::(krB m R2++os9.blk 126)):=by
      rw[mcB_os hv2]
      exact perm_os.symm
     refine CondOb.mk (fun e=>by cases e) (fun _=>?_)
     refine CondOb.mk (fun e=>?_) (fun e=>?_)
     ·have e':done=true:=e
      subst e'
      rw[cond_true] at hstep' hgstep' hG'
      exact⟨⟨1,k,a,c',⟨T.kn,f'::rest,T.used+1⟩,R2,os9,n⟩,⟨⟨⟨hR,hN,hos2,by show T.used+1+n=_;omega,hopl3,.inr (.inr (.inr ⟨rfl,⟨f',rest,rfl,by rw[ho9.same.2];exact hlo,by rw[ho9.same.2];exact hfpl,by rw[ho9.same.1];exact hnd,by rw[ho9.same.1,ho9.same.2];exact hsw⟩,hstep',hgstep',hG'⟩))⟩,rfl⟩,by simp[runMu]<;>omega⟩,.perm hwk .refl,aF6,.cons rfl (.cons rfl (.cons rfl (.nil)))⟩
     ·have e':done=false:=e
      subst e'
      rw[cond_false] at hstep' hgstep' hG'
      exact⟨⟨2,k,a,c',⟨T.kn,f'::rest,T.used+1⟩,R2,os9,n⟩,⟨⟨⟨hR,hN,hos2,by show T.used+1+n=_;omega,hopl3,.inr (.inr (.inl ⟨rfl,⟨f',rest,rfl,ho9.on rfl⟩,hstep',hgstep',hG'⟩))⟩,rfl⟩,by simp[runMu]<;>omega⟩,.perm hwk .refl,aF6,.cons rfl (.cons rfl (.cons rfl (.nil)))⟩
   ·refine ArrOb.mk 7 rfl (by decide) ?_
    refine LoadOb.mk _ (mc_rd (used:=T.used+1) (N:=m.ns.n) (os:=os2) (k:=4) (.head _) (by decide)) ?_
    refine LoadOb.mk _ ((hFr.rd' hM2).part (k:=0) (m:=1) (by decide)) ?_
    refine IdxOb.mk ad f.nd had rfl hnd ?_
    have hsp:=hand_at hpre hFr 7 (by decide) rfl
    rw[hadr] at hsp
    refine CallOb.mk (os2.blk 126) (mcB m (T.used+1) m.ns.n os2::krH m R2::krB m R2) _ perm_os hsp ?_
    rintro v I' M' - ⟨rfl,hpost⟩
    cases hh:handleM m.pk f c with
    | loop=>
     rw[hh] at hpost
     obtain⟨rfl,rfl⟩:=hpost
     refine CondOb.mk (fun _=>?_) (fun e=>by cases e)
     exact⟨_,[],.sub (List.nil_sublist _) .refl,rfl,by rw[hlp hh];exact⟨rfl,rfl⟩⟩
    | on f' c' done=>
     rw[hh] at hpost
     obtain⟨rfl,os9,hv2,hFr2,rfl⟩:=hpost
     have hf9:=hfin f' c' done hh
     have ho9:=hho f' c' done hh
     rw[hf9] at hstep' hgstep' hG'
     have hos2:os9.ok 5 ((f'::rest).reverse.flatMap Fm.cells):=by rw[List.reverse_cons];exact hFr2.ok
     have hwk:(os9.blk 126++(mcB m (T.used+1) m.ns.n os2::krH m R2::krB m R2)).Perm (mcB m (T.used+1) m.ns.n os9::krH m R2::(krB m R2++os9.blk 126)):=by
      rw[mcB_os hv2]
      exact perm_os.symm
     refine CondOb.mk (fun e=>by cases e) (fun _=>?_)
     refine CondOb.mk (fun e=>?_) (fun e=>?_)
     ·have e':done=true:=e
      subst e'
      rw[cond_true] at hstep' hgstep' hG'
      exact⟨⟨1,k,a,c',⟨T.kn,f'::rest,T.used+1⟩,R2,os9,n⟩,⟨⟨⟨hR,hN,hos2,by show T.used+1+n=_;omega,hopl3,.inr (.inr (.inr ⟨rfl,⟨f',rest,rfl,by rw[ho9.same.2];exact hlo,by rw[ho9.same.2];exact hfpl,by rw[ho9.same.1];exact hnd,by rw[ho9.same.1,ho9.same.2];exact hsw⟩,hstep',hgstep',hG'⟩))⟩,rfl⟩,by simp[runMu]<;>omega⟩,.perm hwk .refl,aF6,.cons rfl (.cons rfl (.cons rfl (.nil)))⟩
     ·have e':done=false:=e
      subst e'
      rw[cond_false] at hstep' hgstep' hG'
      exact⟨⟨2,k,a,c',⟨T.kn,f'::rest,T.used+1⟩,R2,os9,n⟩,⟨⟨⟨hR,hN,hos2,by show T.used+1+n=_;omega,hopl3,.inr (.inr (.inl ⟨rfl,⟨f',rest,rfl,ho9.on rfl⟩,hstep',hgstep',hG'⟩))⟩,rfl⟩,by simp[runMu]<;>omega⟩,.perm hwk .refl,aF6,.cons rfl (.cons rfl (.cons rfl (.nil)))⟩
   ·refine ArrOb.mk 8 rfl (by decide) ?_
    refine LoadOb.mk _ (mc_rd (used:=T.used+1) (N:=m.ns.n) (os:=os2) (k:=4) (.head _) (by decide)) ?_
    refine LoadOb.mk _ ((hFr.rd' hM2).part (k:=0) (m:=1) (by decide)) ?_
    refine IdxOb.mk ad f.nd had rfl hnd ?_
    have hsp:=hand_at hpre hFr 8 (by decide) rfl
    rw[hadr] at hsp
    refine CallOb.mk (os2.blk 126) (mcB m (T.used+1) m.ns.n os2::krH m R2::krB m R2) _ perm_os hsp ?_
    rintro v I' M' - ⟨rfl,hpost⟩
    cases hh:handleM m.pk f c with
    | loop=>
     rw[hh] at hpost
     obtain⟨rfl,rfl⟩:=hpost
     refine CondOb.mk (fun _=>?_) (fun e=>by cases e)
     exact⟨_,[],.sub (List.nil_sublist _) .refl,rfl,by rw[hlp hh];exact⟨rfl,rfl⟩⟩
    | on f' c' done=>
     rw[hh] at hpost
     obtain⟨rfl,os9,hv2,hFr2,rfl⟩:=hpost
     have hf9:=hfin f' c' done hh
     have ho9:=hho f' c' done hh
     rw[hf9] at hstep' hgstep' hG'
     have hos2:os9.ok 5 ((f'::rest).reverse.flatMap Fm.cells):=by rw[List.reverse_cons];exact hFr2.ok
     have hwk:(os9.blk 126++(mcB m (T.used+1) m.ns.n os2::krH m R2::krB m R2)).Perm (mcB m (T.used+1) m.ns.n os9::krH m R2::(krB m R2++os9.blk 126)):=by
      rw[mcB_os hv2]
      exact perm_os.symm
     refine CondOb.mk (fun e=>by cases e) (fun _=>?_)
     refine CondOb.mk (fun e=>?_) (fun e=>?_)
     ·have e':done=true:=e
      subst e'
      rw[cond_true] at hstep' hgstep' hG'
      exact⟨⟨1,k,a,c',⟨T.kn,f'::rest,T.used+1⟩,R2,os9,n⟩,⟨⟨⟨hR,hN,hos2,by show T.used+1+n=_;omega,hopl3,.inr (.inr (.inr ⟨rfl,⟨f',rest,rfl,by rw[ho9.same.2];exact hlo,by rw[ho9.same.2];exact hfpl,by rw[ho9.same.1];exact hnd,by rw[ho9.same.1,ho9.same.2];exact hsw⟩,hstep',hgstep',hG'⟩))⟩,rfl⟩,by simp[runMu]<;>omega⟩,.perm hwk .refl,aF6,.cons rfl (.cons rfl (.cons rfl (.nil)))⟩
     ·have e':done=false:=e
      subst e'
      rw[cond_false] at hstep' hgstep' hG'
      exact⟨⟨2,k,a,c',⟨T.kn,f'::rest,T.used+1⟩,R2,os9,n⟩,⟨⟨⟨hR,hN,hos2,by show T.used+1+n=_;omega,hopl3,.inr (.inr (.inl ⟨rfl,⟨f',rest,rfl,ho9.on rfl⟩,hstep',hgstep',hG'⟩))⟩,rfl⟩,by simp[runMu]<;>omega⟩,.perm hwk .refl,aF6,.cons rfl (.cons rfl (.cons rfl (.nil)))⟩
   ·refine ArrOb.mk 9 rfl (by decide) ?_
    refine LoadOb.mk _ (mc_rd (used:=T.used+1) (N:=m.ns.n) (os:=os2) (k:=4) (.head _) (by decide)) ?_
    refine LoadOb.mk _ ((hFr.rd' hM2).part (k:=0) (m:=1) (by decide)) ?_
    refine IdxOb.mk ad f.nd had rfl hnd ?_
    have hsp:=hand_at hpre hFr 9 (by decide) rfl
    rw[hadr] at hsp
    refine CallOb.mk (os2.blk 126) (mcB m (T.used+1) m.ns.n os2::krH m R2::krB m R2) _ perm_os hsp ?_
    rintro v I' M' - ⟨rfl,hpost⟩
    cases hh:handleM m.pk f c with
    | loop=>
     rw[hh] at hpost
     obtain⟨rfl,rfl⟩:=hpost
     refine CondOb.mk (fun _=>?_) (fun e=>by cases e)
     exact⟨_,[],.sub (List.nil_sublist _) .refl,rfl,by rw[hlp hh];exact⟨rfl,rfl⟩⟩
    | on f' c' done=>
     rw[hh] at hpost
     obtain⟨rfl,os9,hv2,hFr2,rfl⟩:=hpost
     have hf9:=hfin f' c' done hh
     have ho9:=hho f' c' done hh
     rw[hf9] at hstep' hgstep' hG'
     have hos2:os9.ok 5 ((f'::rest).reverse.flatMap Fm.cells):=by rw[List.reverse_cons];exact hFr2.ok
     have hwk:(os9.blk 126++(mcB m (T.used+1) m.ns.n os2::krH m R2::krB m R2)).Perm (mcB m (T.used+1) m.ns.n os9::krH m R2::(krB m R2++os9.blk 126)):=by
      rw[mcB_os hv2]
      exact perm_os.symm
     refine CondOb.mk (fun e=>by cases e) (fun _=>?_)
     refine CondOb.mk (fun e=>?_) (fun e=>?_)
     ·have e':done=true:=e
      subst e'
      rw[cond_true] at hstep' hgstep' hG'
      exact⟨⟨1,k,a,c',⟨T.kn,f'::rest,T.used+1⟩,R2,os9,n⟩,⟨⟨⟨hR,hN,hos2,by show T.used+1+n=_;omega,hopl3,.inr (.inr (.inr ⟨rfl,⟨f',rest,rfl,by rw[ho9.same.2];exact hlo,by rw[ho9.same.2];exact hfpl,by rw[ho9.same.1];exact hnd,by rw[ho9.same.1,ho9.same.2];exact hsw⟩,hstep',hgstep',hG'⟩))⟩,rfl⟩,by simp[runMu]<;>omega⟩,.perm hwk .refl,aF6,.cons rfl (.cons rfl (.cons rfl (.nil)))⟩
     ·have e':done=false:=e
      subst e'
      rw[cond_false] at hstep' hgstep' hG'
      exact⟨⟨2,k,a,c',⟨T.kn,f'::rest,T.used+1⟩,R2,os9,n⟩,⟨⟨⟨hR,hN,hos2,by show T.used+1+n=_;omega,hopl3,.inr (.inr (.inl ⟨rfl,⟨f',rest,rfl,ho9.on rfl⟩,hstep',hgstep',hG'⟩))⟩,rfl⟩,by simp[runMu]<;>omega⟩,.perm hwk .refl,aF6,.cons rfl (.cons rfl (.cons rfl (.nil)))⟩
theorem findAt_shift (nm:ByteArray):∀ (ds:List Df) (i:Nat),findAt nm ds i=bif decide (findAt nm ds 0 < 0) then -1 else findAt nm ds 0+i
 | [],i=>rfl
 | d::ds,i=>by
  unfold findAt
  cases h:decide (d.name=nm) with
  | true=>
   have:decide ((((0:Nat):Int)) < 0)=false:=by decide
   simp[this]
  | false=>
   rw[cond_false,cond_false,findAt_shift nm ds (i+1),findAt_shift nm ds (0+1)]
   have hr:findAt nm ds 0 < 0∨0≤findAt nm ds 0:=by omega
   rcases hr with hr | hr
   ·rw[decide_eq_true hr]
    rfl
   ·have e:decide (findAt nm ds 0 < 0)=false:=decide_eq_false (by omega)
    rw[e,cond_false,cond_false]
    have e2:decide (findAt nm ds 0+((0+1:Nat):Int) < 0)=false:=decide_eq_false (by omega)
    rw[e2,cond_false]
    omega
theorem findAt_split (nm:ByteArray) (hs bs:List Df):findAt nm (hs++bs) 0=bif decide (findAt nm hs 0 < 0) then findAt nm bs hs.length else findAt nm hs 0:=by
 have key:∀ (hs:List Df) (i:Nat),findAt nm (hs++bs) i=bif decide (findAt nm hs i < 0) then findAt nm bs (i+hs.length) else findAt nm hs i:=by
  intro hs
  induction hs with
  | nil=>intro i;simp[findAt]
  | cons d hs ih=>
   intro i
   rw[List.cons_append,findAt,findAt]
   cases decide (d.name=nm) with
   | true=>
    have:decide ((i:Int) < 0)=false:=decide_eq_false (by omega)
    rw[cond_true,cond_true,this,cond_false]
   | false=>
    rw[cond_false,cond_false,ih (i+1),List.length_cons]
    rw[show i+1+hs.length=i+(hs.length+1) from by omega]
 have:=key hs 0
 rwa [Nat.zero_add] at this
structure SeenAs (hs:List Df) (acc:List (ByteArray×Int)):Prop where
 look:∀ nm,(lookM nm acc).isSome=decide (0≤findAt nm hs 0)
theorem lookM_app (nm:ByteArray) (p:ByteArray×Int):∀ acc:List (ByteArray×Int),(lookM nm (acc++[p])).isSome=((lookM nm acc).isSome || decide (nm=p.1))
 | []=>by
  show (bif decide (nm=p.1) then some p.2 else none:Option Int).isSome=_
  cases decide (nm=p.1)<;>rfl
 | q::acc=>by
  rw[List.cons_append,lookM,lookM]
  cases decide (nm=q.1) with
  | true=>rfl
  | false=>rw[cond_false,cond_false,lookM_app nm p acc]
theorem SeenAs.snoc {hs:List Df} {acc:List (ByteArray×Int)} (h:SeenAs hs acc) (d:Df) (v:Int):SeenAs (hs++[d]) (acc++[(d.name,v)]):=by
 refine⟨fun nm=>?_⟩
 rw[lookM_app,h.look,findAt_split]
 by_cases hr:findAt nm hs 0 < 0
 ·rw[decide_eq_true hr,cond_true,decide_eq_false (by omega:¬ 0≤findAt nm hs 0),Bool.false_or]
  unfold findAt
  have:decide (d.name=nm)=decide (nm=d.name):=decide_eq_decide.2 ⟨Eq.symm,Eq.symm⟩
  rw[this]
  cases decide (nm=d.name) with
  | true=>simp
  | false=>
   rw[cond_false]
   rfl
 ·rw[decide_eq_false hr,cond_false,decide_eq_true (by omega:0≤findAt nm hs 0),Bool.true_or]
def firstOf (ds:List Df) (i:Nat):Bool:=match ds[i]? with
 | some d=>decide (findAt d.name ds 0=i)
 | none=>true
theorem findAt_self (d:Df) (bs:List Df) (i:Nat):findAt d.name (d::bs) i=i:=by
 rw[findAt,decide_eq_true rfl]
 rfl
theorem dups_spec (bs:List Df):∀ (hs:List Df) (acc:List (ByteArray×Int)),SeenAs hs acc→(∀ i,i < hs.length→firstOf (hs++bs) i=true) →
  match dups acc hs.length bs with
  | none=>∃ i,i < (hs++bs).length∧firstOf (hs++bs) i=false∧∀ k,k < i→firstOf (hs++bs) k=true
  | some r=>SeenAs (hs++bs) r∧∀ i,i < (hs++bs).length→firstOf (hs++bs) i=true:=by
 induction bs with
 | nil=>
  intro hs acc h hf
  rw[List.append_nil] at *
  exact⟨h,hf⟩
 | cons d bs ih=>
  intro hs acc h hf
  have hat:(hs++d::bs)[hs.length]?=some d:=by simp
  have hfi:firstOf (hs++d::bs) hs.length=!(lookM d.name acc).isSome:=by
   unfold firstOf
   rw[hat,h.look]
   simp only
   rw[findAt_split]
   by_cases hr:findAt d.name hs 0 < 0
   ·rw[decide_eq_true hr,cond_true,findAt_self]
    simp;omega
   ·rw[decide_eq_false hr,cond_false]
    have hlt:findAt d.name hs 0 < hs.length:=by
     have:∀ (hs:List Df) (i:Nat),0≤findAt d.name hs i→findAt d.name hs i < i+hs.length:=by
      intro hs
      induction hs with
      | nil=>intro i h;simp[findAt] at h
      | cons e hs ih2=>
       intro i h
       unfold findAt at h ⊢
       cases hc:decide (e.name=d.name) with
       | true=>simp;omega
       | false=>
        rw[hc,cond_false] at h
        rw[cond_false]
        have:=ih2 (i+1) h
        simp
        omega
     have:=this hs 0 (by omega)
     omega
    have e1:decide (findAt d.name hs 0=(hs.length:Int))=false:=decide_eq_false (by omega)
    have e2:decide (0≤findAt d.name hs 0)=true:=decide_eq_true (by omega)
    rw[e1,e2]
    rfl
  rw[dups]
  cases hl:(lookM d.name acc).isSome with
  | true=>
   rw[hl] at hfi
   exact⟨hs.length,by simp,hfi,hf⟩
  | false=>
   rw[hl] at hfi
   have:=ih (hs++[d]) (acc++[(d.name,(hs.length:Int))]) (h.snoc d _) (fun i hi=>by
    rw[List.append_assoc]
    simp at hi
    rcases Nat.lt_or_eq_of_le (Nat.lt_succ_iff.1 (by omega:i < hs.length+1)) with h1 | h1
    ·exact hf i h1
    ·rw[h1];exact hfi)
   rw[List.length_append,List.append_assoc] at this
   exact this
theorem seen0:SeenAs [] []:=⟨fun nm=>by simp[lookM,findAt]⟩
def nodeOk2 (ds:List Df) (n:Nd):Bool:=!decide (n.k=3) || decide (0≤findAt n.t ds 0)
theorem nodePairs_all (p:Nd→Bool):∀ (ds:List Df) (i:Nat),((nodePairs i ds).all fun x=>p x.2)=ds.all fun d=>d.t.ns.all p
 | [],i=>rfl
 | d::ds,i=>by
  rw[nodePairs,List.all_append,List.all_cons,nodePairs_all p ds (i+1),List.all_map]
  rfl
def mayR (deb:List Int) (g:Gr):Int:=
 bif decide ((g.n:Int)=0) then 4 else bif !okDefs g.ds then 4 else bif largeG deb g then 40 else
 bif !(List.range g.ds.length).all (firstOf g.ds) then 6 else bif g.ds.all fun d=>d.t.ns.all (nodeOk2 g.ds) then 0 else 41
theorem mayR_eq (deb:List Int) (g:Gr):mayR deb g=mayG deb g:=by
 unfold mayR mayG
 have h:=dups_spec g.ds [] [] seen0 (fun i hi=>by simp at hi)
 simp only[List.length_nil,List.nil_append] at h
 cases hd:dups [] 0 g.ds with
 | none=>
  rw[hd] at h
  obtain⟨i,h1,h2,_⟩:=h
  have:(List.range g.ds.length).all (firstOf g.ds)=false:=by
   rw[Bool.eq_false_iff]
   intro hall
   rw[List.all_eq_true] at hall
   have:=hall i (List.mem_range.2 h1)
   rw[h2] at this
   cases this
  rw[this]
  rfl
 | some acc=>
  rw[hd] at h
  obtain⟨h1,h2⟩:=h
  have h3:(List.range g.ds.length).all (firstOf g.ds)=true:=by
   rw[List.all_eq_true]
   intro i hi
   exact h2 i (List.mem_range.1 hi)
  rw[h3]
  have h4:(g.ds.all fun d=>d.t.ns.all (nodeOk2 g.ds))=allNamed acc g.ds:=by
   unfold allNamed
   rw[nodePairs_all]
   congr 1
   funext d
   congr 1
   funext n
   unfold nodeOk nodeOk2
   rw[h1.look]
  rw[h4]
  rfl
theorem i0:i64ok 0:=⟨by decide,by decide⟩
def leafNd (k:Int) (s:ByteArray):Nd:=⟨k,0,0,0,0,s,0,0,none,0,0,[]⟩
def plainR (d:Nd):Bool:=decide (d.t=⟨#[]⟩) && (decide (d.lo=0) && decide (d.hi=0))
def fitsR (d:Nd) (n:Int):Bool:=
 bif decide (d.k=0) then plainR d && decide (n=0) else
 bif decide (d.k=1) then plainR d && decide (n=0) else
 bif decide (d.k=2) then decide (d.lo=0) && (decide (d.hi=0) && (decide (n=0) && (decide ((1:Int)≤d.t.size) && decide ((d.t.size:Int)≤255)))) else
 bif decide (d.k=3) then decide (d.lo=0) && (decide (d.hi=0) && (decide (n=0) && mayName d.t)) else
 bif decide (d.k=4) || decide (d.k=5) then plainR d && decide (2≤n) else
 bif decide (d.k=6) then decide (d.t=⟨#[]⟩) && (decide (n=1) && (decide (0≤d.lo) && (decide (d.lo≤99) && (decide (d.hi=-1) || (decide (d.lo≤d.hi) && decide (d.hi≤99)))))) else
 bif decide (d.k=7) || decide (d.k=8) then plainR d && decide (n=1) else
 bif decide (d.k=9) then decide (d.lo=0) && (decide (d.hi=0) && (decide (n=1) && mayName d.t)) else false
theorem rootOk_false {root:Int}:∀ {s:List Bool} {i j:Nat},j < s.length→(s.getD j false == decide (((i+j:Nat):Int)=root))=true→rootOk root i s=false
 | b::s,i,0,_,h=>by
  unfold rootOk
  rw[show (b == decide ((i:Int)=root))=true by simpa using h]
  rfl
 | b::s,i,j+1,hj,h=>by
  unfold rootOk
  cases b == decide ((i:Int)=root) with
  | true=>rfl
  | false=>
   simp only[cond_false]
   refine rootOk_false (j:=j) (by simpa using hj) ?_
   rw[show i+1+j=i+(j+1) by omega]
   simpa using h
theorem rootOk_true {root:Int}:∀ {s:List Bool} {i:Nat},(∀ j,j < s.length→(s.getD j false == decide (((i+j:Nat):Int)=root))=false)→rootOk root i s=true
 | [],i,h=>rfl
 | b::s,i,h=>by
  unfold rootOk
  have h0:=h 0 (by simp)
  rw[show (b == decide ((i:Int)=root))=false by simpa using h0]
  simp only[cond_false]
  refine rootOk_true fun j hj=>?_
  have:=h (j+1) (by simpa using hj)
  rw[show i+1+j=i+(j+1) by omega]
  simpa using this
structure LeafAt (I:GH) (a:Option Addr) (c:Nat) (k:Int) (s:ByteArray):Prop where
 rs:RS I a 1 c 9 96 (leafNd k s).cells
theorem LeafAt.rd {I:GH} {a:Option Addr} {c:Nat} {k:Int} {s:ByteArray} (h:LeafAt I a c k s):∃ ad,a=some ad∧∀ M,Rd I M (ad.add (0 * 9)) 9 (leafNd k s).cells:=by
 have:=RS.row (f:=Nd.cells) (l:=[leafNd k s]) Nd.cells_len (size:=9) (j:=0) (by simpa using h.rs) (by decide) (Nat.le_refl 1)
 simpa using this
theorem OtherOb.nd {X:Ctx} {o:Oper} {F:Fr} {C:Bx} {I:GH} {M:List Blk} {K:KS} (h:OtherOb X o F C I M (fun F C I M=>(M.map (·.num)).Nodup→(∀ x∈M,I x.num=none)→K F C I M)):OtherOb X o F C I M K:=
 ⟨fun a w Q hR=>Oper.wpIn_mono (fun a' w'=>fun ⟨F',C',I',M',⟨β,hr⟩,hk⟩=>⟨F',C',I',M',⟨β,hr⟩,hk hr.holds.nd hr.holds.d⟩) (h.1 a w Q hR)⟩
abbrev Lf:=Tr×Int×ByteArray
def Lf.nd (x:Lf):Nd:=leafNd x.2.1 x.2.2
structure Lf.ok (I:GH) (x:Lf):Prop where
 t:x.1.ok I
 ns:x.1.ns=[x.nd]
 root:x.1.root=0
 fits:fitsR x.nd 0=true
def backGo (ns:List Nd):Nat→List Int→List Int→List Int
 | 0,_,b=>b
 | f+1,todo,b=>match todo.getLast? with
  | none=>b
  | some n=>backGo ns f (todo.dropLast++(nodeAt ns n.toNat).kids) (b++[n])
def backOf (ns:List Nd) (node:Int):List Int:=backGo ns (ns.length+1) [node] []
def Nd.ct (d:Nd):Nd:=⟨d.k,d.s0,d.s1,d.s2,d.s3,d.t,d.lo,d.hi,none,0,0,d.kids⟩
def Nd.withKids (d:Nd) (l:List Int):Nd:=⟨d.k,d.s0,d.s1,d.s2,d.s3,d.t,d.lo,d.hi,none,0,0,l⟩
def subStep (ns:List Nd) (st:List Int×List Nd) (b:Int):List Int×List Nd:=
 (st.1.set b.toNat st.2.length,st.2++[(nodeAt ns b.toNat).withKids ((nodeAt ns b.toNat).kids.map fun k=>(st.1.set b.toNat st.2.length).getD k.toNat 0)])
def subC (ns:List Nd) (node:Int):List Nd:=((backOf ns node).reverse.foldl (subStep ns) (List.replicate ns.length 0,[])).2
theorem appm_ok {os:OS} {xs ys:List Value} {size m:Nat} (hos:os.ok size xs) {g c:Nat} {cur:List Value} (hy:ys.length=m * size) (h1:cur.length=c * size) (h2:os.n+m≤c) (h3:c≤maxLen) (h4:cur.take ((os.n+m) * size)=xs++ys) :
  OS.ok ⟨some g,os.n+m,c,cur⟩ size (xs++ys):=by
 have hl:=hos.len
 refine⟨?_,(fun h=>by cases h),fun g3 hg3=>⟨h1,h2,h3,h4⟩⟩
 rw[List.length_append,hl,hy]
 simp only
 rw[Nat.add_mul]
structure Fl where
 z:Bool
 s:Bool
 f:Bool
 deriving DecidableEq
def Fl.cells (x:Fl):List Value:=[.bool x.z,.bool x.s,.bool x.f]
def Fl.val (x:Fl):Value:=.agg #[.bool x.z,.bool x.s,.bool x.f]
theorem Fl.cells_len (x:Fl):x.cells.length=3:=rfl
structure FsAt (I:GH) (M:List Blk) (a:Option Addr) (n:Nat) (ks:List Fl):Prop where
 n:ks.length=n
 rd:∀ j (h:j < ks.length),∃ ad,a=some ad∧Rd I M (ad.add (j * 3)) 3 ks[j].cells
def fl0:Fl:=⟨false,false,false⟩
section
variable {I:GH} {M:List Blk} {d:Nd} {a:Option Addr} {n c:Nat} {ks:List Fl}
theorem FsAt.head (hk:FsAt I M a n ks) (h0:0 < n):∃ ad,a=some ad∧Rd I M (ad.add (0 * 3)) 3 (ks.headD fl0).cells:=by
 have h1:0 < ks.length:=by rw[hk.n];exact h0
 obtain⟨ad,h2,h3⟩:=hk.rd 0 h1
 refine⟨ad,h2,?_⟩
 cases ks with
 | nil=>simp at h1
 | cons k ks=>exact h3
end
def ofStep (st:List Nd×List Int) (l:List Nd):List Nd×List Int:=
 (st.1++l.map (fun x=>x.withKids (x.kids.map fun k=>(st.1.length:Int)+k)),st.2++[((st.1.length+l.length:Nat):Int) - 1])
def ofNds (d:Nd) (ls:List (List Nd)):List Nd:=(ls.foldl ofStep ([],[])).1++[d.withKids (ls.foldl ofStep ([],[])).2]
section
variable {X:Ctx} {β:Nat→Nat} {a:Act} {w:World} {F:Fr} {C:Bx} {I:GH} {M:List Blk} {o:Oper} {Q:Exit→Act→World→Prop} {K:KS}
end
structure Fl.le (a b:Fl):Prop where
 z:a.z=true→b.z=true
 s:a.s=true→b.s=true
 f:a.f=true→b.f=true
theorem Fl.le_refl (a:Fl):a.le a:=⟨id,id,id⟩
def within (a b:Fl):Bool:=(!a.z || b.z) && ((!a.s || b.s) && (!a.f || b.f))
inductive LeL:List Fl→List Fl→Prop
 | nil:LeL [] []
 | cons {a b l m} (h:Fl.le a b) (t:LeL l m):LeL (a::l) (b::m)
theorem LeL.len:∀ {a b},LeL a b→a.length=b.length
 | _,_,.nil=>rfl
 | _,_,.cons h t=>by simp[t.len]
theorem LeL.getD:∀ {a b},LeL a b→∀ i,(a.getD i fl0).le (b.getD i fl0)
 | _,_,.nil,i=>by simp;exact Fl.le_refl _
 | _,_,.cons h t,0=>h
 | _,_,.cons h t,i+1=>by simpa using t.getD i
theorem LeL.of:∀ {a b:List Fl},a.length=b.length→(∀ i,i < a.length→(a.getD i fl0).le (b.getD i fl0))→LeL a b
 | [],[],_,_=>.nil
 | x::a,y::b,hl,h=>.cons (by simpa using h 0 (by simp)) (LeL.of (by simpa using hl) fun i hi=>by simpa using h (i+1) (by simpa using hi))
theorem LeL.map {α:Type} {f g:α→Fl}:∀ {l:List α},(∀ x∈l,(f x).le (g x))→LeL (l.map f) (l.map g)
 | [],_=>.nil
 | x::l,h=>.cons (h x (.head _)) (LeL.map fun y hy=>h y (.tail _ hy))
theorem LeL.head {a b:List Fl} (h:LeL a b):(a.headD fl0).le (b.headD fl0):=by
 cases h with
 | nil=>exact Fl.le_refl _
 | cons h _=>exact h
def Tr.ct (t:Tr):Tr:=⟨t.ns.map Nd.ct,none,t.n,0,t.root⟩
def Df.ct (d:Df):Df:=⟨d.name,d.t.ct⟩
def Gr.ct (g:Gr):Gr:=⟨g.ds.map Df.ct,none,g.n,0⟩
structure TC (I:GH) (t:Tr) (l:List Nd):Prop where
 ok:t.ok I
 ct:t.ns.map Nd.ct=l
 root:t.root=(l.length:Int) - 1
theorem TC.len {I:GH} {t:Tr} {l:List Nd} (h:TC I t l):t.n=l.length:=by
 rw[←h.ok.n,←h.ct,List.length_map]
theorem TC.leaf {I:GH} {t:Tr} {d:Nd} (ht:t.ok I) (h1:t.ns=[d]) (h2:t.root=0) (hd:d.ct=d):TC I t [d]:=⟨ht,by rw[h1];simp[hd],by rw[h2];rfl⟩
def cleanL (l:List Nd):List Nd:=subC l ((l.length:Int) - 1)
def allKids (ns:List Nd):List Int:=ns.flatMap (·.kids)
def DiffL (l:List Int):Prop:=l.Pairwise (·≠·)
def MarksAre (s:List Bool) (l:List Int):Prop:=∀ j,s.getD j false=true ↔ ((j:Int)∈l∧j < s.length)
theorem kidsOk_iff {i:Nat}:∀ {ks seen:List Int} {s:List Bool},i≤s.length→MarksAre s seen→DiffL seen →
  ((∃ s',kidsOk i ks s=some s') ↔ ((∀ k∈ks,0≤k∧k < i)∧DiffL (seen++ks)))∧∀ s',kidsOk i ks s=some s'→s'.length=s.length∧MarksAre s' (seen++ks)
 | [],seen,s,hi,hm,hd=>by
  refine⟨⟨fun _=>⟨fun k hk=>by (cases hk),by simpa using hd⟩,fun _=>⟨s,rfl⟩⟩,fun s' h=>?_⟩
  simp only[kidsOk,Option.some.injEq] at h
  subst h
  exact⟨rfl,by simpa using hm⟩
 | k::ks,seen,s,hi,hm,hd=>by
  unfold kidsOk
  cases hb:decide (k < 0) || (decide ((i:Int)≤k) || s.getD k.toNat false) with
  | true=>
   refine⟨⟨fun ⟨s',h⟩=>(by cases h),fun ⟨h1,h2⟩=>?_⟩,fun s' h=>by cases h⟩
   exfalso
   have h3:=h1 k (.head _)
   simp only[Bool.or_eq_true,decide_eq_true_eq] at hb
   rcases hb with hb | hb | hb
   ·omega
   ·omega
   ·have:=(hm _).1 hb
    rw[Int.toNat_of_nonneg h3.1] at this
    exact(List.pairwise_append.1 h2).2.2 k this.1 k (.head _) rfl
  | false=>
   simp only[Bool.or_eq_false_iff,decide_eq_false_iff_not] at hb
   obtain⟨b1,b2,b3⟩:=hb
   have hk:k.toNat < s.length:=by omega
   have hks:k ∉ seen:=fun h=>by
    have:=(hm k.toNat).2 ⟨by rw[Int.toNat_of_nonneg (by omega)];exact h,hk⟩
    rw[b3] at this
    cases this
   have hm':MarksAre (s.set k.toNat true) (seen++[k]):=fun j=>by
    have:=hm j
    simp only[List.getD_eq_getElem?_getD,List.getElem?_set,List.length_set,List.mem_append,List.mem_singleton] at this ⊢
    by_cases e:k.toNat=j
    ·subst e
     rw[if_pos rfl,if_pos hk]
     simp only[Option.getD_some,true_iff]
     exact⟨.inr (by omega),hk⟩
    ·rw[if_neg e,this]
     constructor
     ·rintro⟨h1,h2⟩
      exact⟨.inl h1,h2⟩
     ·rintro⟨h1 | h1,h2⟩
      ·exact⟨h1,h2⟩
      ·omega
   have hd':DiffL (seen++[k]):=List.pairwise_append.2 ⟨hd,by simp,fun a ha b hb e=>by
    simp only[List.mem_singleton] at hb
    subst hb
    subst e
    exact hks ha⟩
   have ih:=kidsOk_iff (i:=i) (ks:=ks) (seen:=seen++[k]) (s:=s.set k.toNat true) (by simpa using hi) hm' hd'
   simp only[cond_false]
   rw[List.append_assoc,List.singleton_append] at ih
   refine⟨ih.1.trans ⟨fun ⟨h1,h2⟩=>⟨fun x hx=>?_,h2⟩,fun ⟨h1,h2⟩=>⟨fun x hx=>h1 x (.tail _ hx),h2⟩⟩,fun s' h=>?_⟩
   ·rcases List.mem_cons.1 hx with rfl | hx
    ·omega
    ·exact h1 x hx
   ·have:=ih.2 s' h
    simpa using this
theorem nodesOk_iff:∀ {ds:List Nd} {i:Nat} {seen:List Int} {s:List Bool},i+ds.length≤s.length→MarksAre s seen→DiffL seen →
  ((∃ s',nodesOk i ds s=some s') ↔ ((∀ j (h:j < ds.length),fits ds[j] ds[j].kids.length=true∧∀ k∈ds[j].kids,0≤k∧k < i+j)∧DiffL (seen++allKids ds)))∧∀ s',nodesOk i ds s=some s'→s'.length=s.length∧MarksAre s' (seen++allKids ds)
 | [],i,seen,s,hi,hm,hd=>by
  refine⟨⟨fun _=>⟨fun j hj=>by simp at hj,by simpa[allKids] using hd⟩,fun _=>⟨s,rfl⟩⟩,fun s' h=>?_⟩
  simp only[nodesOk,Option.some.injEq] at h
  subst h
  exact⟨rfl,by simpa[allKids] using hm⟩
 | d::ds,i,seen,s,hi,hm,hd=>by
  unfold nodesOk
  have hk:=kidsOk_iff (i:=i) (ks:=d.kids) (by simp at hi;omega) hm hd
  have hall:allKids (d::ds)=d.kids++allKids ds:=rfl
  cases hf:fits d d.kids.length with
  | false=>
   refine⟨⟨fun ⟨s',h⟩=>(by cases h),fun ⟨h1,h2⟩=>?_⟩,fun s' h=>by cases h⟩
   have:=(h1 0 (by simp)).1
   simp only[List.getElem_cons_zero] at this
   rw[hf] at this
   cases this
  | true=>
   simp only[cond_true]
   cases hq:kidsOk i d.kids s with
   | none=>
    refine⟨⟨fun ⟨s',h⟩=>(by cases h),fun ⟨h1,h2⟩=>?_⟩,fun s' h=>by cases h⟩
    exfalso
    have:∃ s',kidsOk i d.kids s=some s':=hk.1.2 ⟨fun k hk=>by
     have:=(h1 0 (by simp)).2 k hk
     omega,by
     rw[hall,←List.append_assoc] at h2
     exact(List.pairwise_append.1 h2).1⟩
    obtain⟨s',h⟩:=this
    rw[hq] at h
    cases h
   | some s1=>
    obtain⟨l1,m1⟩:=hk.2 s1 hq
    obtain⟨r1,d1⟩:=hk.1.1 ⟨s1,hq⟩
    have ih:=nodesOk_iff (ds:=ds) (i:=i+1) (seen:=seen++d.kids) (s:=s1) (by simp at hi;omega) m1 d1
    rw[List.append_assoc,←hall] at ih
    simp only
    refine⟨ih.1.trans ⟨fun ⟨h1,h2⟩=>⟨fun j hj=>?_,h2⟩,fun ⟨h1,h2⟩=>⟨fun j hj=>?_,h2⟩⟩,fun s' h=>?_⟩
    ·cases j with
     | zero=>exact⟨hf,fun k hk=>by have:=r1 k hk;omega⟩
     | succ j=>
      have:=h1 j (by simpa using hj)
      refine⟨this.1,fun k hk=>?_⟩
      have:=this.2 k hk
      omega
    ·have:=h1 (j+1) (by simpa using hj)
     refine⟨this.1,fun k hk=>?_⟩
     have:=this.2 k hk
     omega
    ·have:=ih.2 s' h
     exact⟨this.1.trans l1,this.2⟩
theorem marks_none (n:Nat):MarksAre (List.replicate n false) []:=fun j=>by
 by_cases h:j < n<;>simp[List.getD_eq_getElem?_getD,List.getElem?_replicate,h]
structure Right (t:Tr):Prop where
 root:0≤t.root∧t.root < t.ns.length
 fits:∀ j (h:j < t.ns.length),fits t.ns[j] t.ns[j].kids.length=true
 kids:∀ j (h:j < t.ns.length),∀ k∈t.ns[j].kids,0≤k∧k < j
 diff:DiffL (allKids t.ns)
 all:∀ j:Nat,j < t.ns.length→((j:Int)∈allKids t.ns ↔ (j:Int)≠t.root)
theorem right_iff {t:Tr}:right t=true ↔ Right t:=by
 have h:=nodesOk_iff (ds:=t.ns) (i:=0) (seen:=[]) (s:=List.replicate t.ns.length false) (by simp) (marks_none _) (by simp[DiffL])
 simp only[List.nil_append,Nat.zero_add,List.length_replicate] at h
 unfold right
 constructor
 ·intro hr
  simp only[Bool.and_eq_true,decide_eq_true_eq] at hr
  obtain⟨r1,r2,r3⟩:=hr
  split at r3
  ·rename_i s hs
   obtain⟨q1,q2⟩:=h.1.1 ⟨s,hs⟩
   obtain⟨m1,m2⟩:=h.2 s hs
   refine⟨⟨r1,r2⟩,fun j hj=>(q1 j hj).1,fun j hj k hk=>(by have:=(q1 j hj).2 k hk;omega),q2,fun j hj=>?_⟩
   have hb:(s.getD j false == decide (((0+j:Nat):Int)=t.root))=false:=by
    cases hb:(s.getD j false == decide (((0+j:Nat):Int)=t.root)) with
    | false=>rfl
    | true=>
     have:=rootOk_false (by omega) hb
     rw[this] at r3
     cases r3
   rw[Nat.zero_add] at hb
   have hm:=m2 j
   constructor
   ·intro hx e
    have:=hm.2 ⟨hx,by omega⟩
    rw[this,decide_eq_true e] at hb
    cases hb
   ·intro hne
    rw[decide_eq_false hne] at hb
    have:s.getD j false=true:=by
     revert hb
     cases s.getD j false<;>simp
    exact(hm.1 this).1
  ·cases r3
 ·intro hr
  obtain⟨s,hs⟩:=h.1.2 ⟨fun j hj=>⟨hr.fits j hj,fun k hk=>by have:=hr.kids j hj k hk;omega⟩,hr.diff⟩
  obtain⟨m1,m2⟩:=h.2 s hs
  rw[hs]
  simp only[Bool.and_eq_true,decide_eq_true_eq]
  refine⟨hr.root.1,hr.root.2,rootOk_true fun j hj=>?_⟩
  rw[Nat.zero_add]
  have ha:=hr.all j (by omega)
  have hm:=m2 j
  by_cases e:(j:Int)=t.root
  ·have hf:s.getD j false=false:=by
    cases hb:s.getD j false with
    | false=>rfl
    | true=>exact absurd e (ha.1 (hm.1 hb).1)
   rw[hf,decide_eq_true e]
   rfl
  ·have:=hm.2 ⟨ha.2 e,by omega⟩
   rw[this,decide_eq_false e]
   rfl
section
variable {t:Tr} (hr:Right t)
include hr
end
def bodyP:Nat→List Df→List (Nat×Nd)
 | _,[]=>[]
 | b,d::ds=>d.t.ns.map (fun n=>(b,n))++bodyP (b+d.t.ns.length) ds
def rootsP:Nat→List Df→List Nat
 | _,[]=>[]
 | b,d::ds=>(b+d.t.root.toNat)::rootsP (b+d.t.ns.length) ds
def totP (ds:List Df):Nat:=(ds.map fun d=>d.t.ns.length).sum
def asksP (ds:List Df) (b:Nat) (n:Nd):List Nat:=bif decide (n.k=3) then [(rootsP 0 ds).getD (findAt n.t ds 0).toNat 0] else n.kids.map fun k=>b+k.toNat
def nodesQ (ds:List Df):List PN:=(bodyP 0 ds).map fun p=>⟨p.2,asksP ds p.1 p.2⟩
def pkG (g:Gr) (s:ByteArray) (at_:Nat):Pk:=⟨nodesQ g.ds,s,at_⟩
theorem bodyP_len:∀ (b:Nat) (ds:List Df),(bodyP b ds).length=totP ds
 | b,[]=>rfl
 | b,d::ds=>by
  have:=bodyP_len (b+d.t.ns.length) ds
  simp only[bodyP,totP,List.length_append,List.length_map,List.map_cons,List.sum_cons] at this ⊢
  omega
theorem rootsP_len:∀ (b:Nat) (ds:List Df),(rootsP b ds).length=ds.length
 | b,[]=>rfl
 | b,d::ds=>by simp only[rootsP,List.length_cons,rootsP_len _ ds]
theorem rootsP_lt:∀ (b:Nat) (ds:List Df),(∀ d∈ds,0≤d.t.root∧d.t.root < d.t.ns.length)→∀ x∈rootsP b ds,x < b+totP ds
 | b,[],_,x,hx=>by cases hx
 | b,d::ds,h,x,hx=>by
  have hd:=h d (.head _)
  have e:totP (d::ds)=d.t.ns.length+totP ds:=by simp[totP]
  rcases List.mem_cons.1 hx with rfl | hx
  ·omega
  ·have:=rootsP_lt (b+d.t.ns.length) ds (fun d hd=>h d (.tail _ hd)) x hx
   omega
theorem bodyP_mem:∀ (b:Nat) (ds:List Df) (p:Nat×Nd),p∈bodyP b ds→∃ d∈ds,p.2∈d.t.ns∧p.1+d.t.ns.length≤b+totP ds
 | b,[],p,h=>by cases h
 | b,d::ds,p,h=>by
  have e:totP (d::ds)=d.t.ns.length+totP ds:=by simp[totP]
  rcases List.mem_append.1 h with h | h
  ·obtain⟨n,hn,rfl⟩:=List.mem_map.1 h
   exact⟨d,.head _,hn,by show b+d.t.ns.length≤_;omega⟩
  ·obtain⟨d',h1,h2,h3⟩:=bodyP_mem _ ds p h
   exact⟨d',.tail _ h1,h2,by omega⟩
theorem diff_le:∀ (n:Nat) (l:List Int),DiffL l→(∀ k∈l,0≤k∧k < n)→l.length≤n
 | 0,[],_,_=>Nat.le_refl _
 | 0,k::l,_,h=>by have:=h k (.head _);omega
 | n+1,l,hd,h=>by
  have h1:=diff_le n (l.filter fun k=>decide (k≠(n:Int))) (hd.filter _) fun k hk=>by
   have h2:=List.mem_filter.1 hk
   have h3:=of_decide_eq_true h2.2
   have h4:=h k h2.1
   omega
  have h2:∀ l:List Int,DiffL l→l.length≤(l.filter fun k=>decide (k≠(n:Int))).length+1:=by
   intro l
   induction l with
   | nil=>intro _;simp
   | cons a l ih=>
    intro hd
    obtain⟨d1,d2⟩:=List.pairwise_cons.1 hd
    by_cases e:a=(n:Int)
    ·have:l.filter (fun k=>decide (k≠(n:Int)))=l:=List.filter_eq_self.2 fun k hk=>decide_eq_true fun e2=>d1 k hk (e.trans e2.symm)
     rw[List.filter_cons_of_neg (by simp[e]),this,List.length_cons]
     exact Nat.le_refl _
    ·have:=ih d2
     rw[List.filter_cons_of_pos (by simp[e]),List.length_cons,List.length_cons]
     omega
  have:=h2 l hd
  omega
theorem findAt_lt {nm:ByteArray}:∀ (ds:List Df) (i:Nat),0≤findAt nm ds i→findAt nm ds i < ((i+ds.length:Nat):Int)
 | [],i,h=>by simp[findAt] at h
 | d::ds,i,h=>by
  unfold findAt at h ⊢
  cases hc:decide (d.name=nm) with
  | true=>simp only[cond_true,List.length_cons];omega
  | false=>
   rw[hc,cond_false] at h
   have:=findAt_lt ds (i+1) h
   simp only[cond_false,List.length_cons]
   omega
structure GMay (g:Gr):Prop where
 n:g.n≠0
 r:∀ d∈g.ds,Right d.t
 find:∀ d∈g.ds,∀ n∈d.t.ns,n.k=3→0≤findAt n.t g.ds 0
 tot:totP g.ds≤1024
 n64:g.n≤64
theorem gmay {deb:List Int} {g:Gr} (h:mayG deb g=0) (hn:∀ d∈g.ds,d.t.ns.length=d.t.n):GMay g:=by
 rw[←mayR_eq] at h
 unfold mayR at h
 cases h1:decide ((g.n:Int)=0) with
 | true=>rw[h1] at h;cases h
 | false=>
  rw[h1,cond_false] at h
  cases h2:okDefs g.ds with
  | false=>rw[h2] at h;cases h
  | true=>
   rw[h2,Bool.not_true,cond_false] at h
   cases h3:largeG deb g with
   | true=>rw[h3] at h;cases h
   | false=>
    rw[h3,cond_false] at h
    cases h4:!(List.range g.ds.length).all (firstOf g.ds) with
    | true=>rw[h4] at h;cases h
    | false=>
     rw[h4,cond_false] at h
     cases h5:g.ds.all fun d=>d.t.ns.all (nodeOk2 g.ds) with
     | false=>rw[h5] at h;cases h
     | true=>
      have hr:∀ d∈g.ds,right d.t=true:=fun d hd=>by
       have:=List.all_eq_true.1 h2 d hd
       simp only[normal,Bool.and_eq_true] at this
       exact this.2.1
      refine⟨fun e=>by have:=of_decide_eq_false h1;omega,fun d hd=>right_iff.1 (hr d hd),fun d hd n hn h3=>?_,?_,?_⟩
      ·have:=List.all_eq_true.1 (List.all_eq_true.1 h5 d hd) n hn
       simp only[nodeOk2,h3,decide_true,Bool.not_true,Bool.false_or,decide_eq_true_eq] at this
       exact this
      ·have e:totP g.ds=nodesG g:=by
        unfold totP nodesG
        congr 1
        refine List.map_congr_left fun d hd=>?_
        rw[sizeT,hr d hd,cond_true]
        exact hn d hd
       unfold largeG at h3
       simp only[Bool.or_eq_false_iff,decide_eq_false_iff_not] at h3
       omega
      ·unfold largeG at h3
       simp only[Bool.or_eq_false_iff,decide_eq_false_iff_not] at h3
       omega
theorem fits_kQ {d:Nd} (h0:0≤d.k) {n:Nat} (h:fits d n=true):d.k < 10∧(d.k=4∨d.k=5→2≤n)∧(6≤d.k→n=1)∧(d.k=6→0≤d.lo∧d.lo≤99∧(d.hi=-1∨(d.lo≤d.hi∧d.hi≤99)))∧(d.k=9→mayName d.t=true)∧(d.k=2→d.t.size≤255):=by
 unfold fits at h
 cases h1:decide (10≤d.k) with
 | true=>rw[h1] at h;cases h
 | false=>
  have h10:d.k < 10:=by have:=of_decide_eq_false h1;omega
  rw[h1,cond_false] at h
  cases h2:decide ((n:Int) < cntLo d.k.toNat) || (decide (0≤cntHi d.k.toNat) && decide (cntHi d.k.toNat < (n:Int))) with
  | true=>rw[h2] at h;cases h
  | false=>
   rw[h2,cond_false] at h
   simp only[Bool.or_eq_false_iff,Bool.and_eq_false_iff,decide_eq_false_iff_not] at h2
   refine⟨h10,fun hk=>?_,fun hk=>?_,fun hk=>?_,fun hk=>?_,fun hk=>?_⟩
   ·have:cntLo d.k.toNat=2:=by rcases hk with e | e<;>rw[e]<;>rfl
    omega
   ·have hk':d.k=6∨d.k=7∨d.k=8∨d.k=9:=by omega
    have e1:cntLo d.k.toNat=1:=by rcases hk' with e | e | e | e<;>rw[e]<;>rfl
    have e2:cntHi d.k.toNat=1:=by rcases hk' with e | e | e | e<;>rw[e]<;>rfl
    omega
   ·rw[hk] at h
    have h':((!(decide (d.lo < 0) || (decide (99 < d.lo) || (decide (d.hi≠-1) && (decide (d.hi < d.lo) || decide (99 < d.hi)))))) && (d.setZ && decide (d.t=⟨#[]⟩)))=true:=h
    simp only[Bool.and_eq_true,Bool.not_eq_true',Bool.or_eq_false_iff,Bool.and_eq_false_iff,decide_eq_false_iff_not,Decidable.not_not] at h'
    omega
   ·rw[hk] at h
    have h':(mayName d.t && (d.setZ && (decide (d.lo=0) && decide (d.hi=0))))=true:=h
    simp only[Bool.and_eq_true] at h'
    exact h'.1
   ·rw[hk] at h
    have h':((!(decide (d.t=⟨#[]⟩) || decide (255 < d.t.size))) && (d.setZ && (decide (d.lo=0) && decide (d.hi=0))))=true:=h
    simp only[Bool.and_eq_true,Bool.not_eq_true',Bool.or_eq_false_iff,decide_eq_false_iff_not] at h'
    omega
theorem allKids_sub:∀ {ns:List Nd} {n:Nd},n∈ns→n.kids.Sublist (allKids ns)
 | d::ns,n,h=>by
  unfold allKids
  rw[List.flatMap_cons]
  rcases List.mem_cons.1 h with rfl | h
  ·exact List.sublist_append_left _ _
  ·exact(allKids_sub h).trans (List.sublist_append_right _ _)
theorem pn_ok {g:Gr} (hm:GMay g) (hk0:∀ d∈g.ds,∀ n∈d.t.ns,0≤n.k) {s:ByteArray} {at_:Nat} {a:PN} (ha:a∈nodesQ g.ds):PNOk (pkG g s at_) a:=by
 have hlen:(pkG g s at_).ns.length=totP g.ds:=by simp[pkG,nodesQ,bodyP_len]
 obtain⟨p,hp,rfl⟩:=List.mem_map.1 ha
 obtain⟨d,hd,hn,hb⟩:=bodyP_mem _ _ _ hp
 have hr:=hm.r d hd
 obtain⟨j,hj,e⟩:=List.getElem_of_mem hn
 have hf:=hr.fits j hj
 rw[e] at hf
 obtain⟨f1,f2,f3,f4,-,-⟩:=fits_kQ (hk0 d hd _ hn) hf
 have hkids:=hr.kids j hj
 rw[e] at hkids
 have hkl:p.2.kids.length≤j:=diff_le j _ (hr.diff.sublist (allKids_sub hn)) hkids
 have htot:=hm.tot
 by_cases h3:p.2.k=3
 ·have ea:asksP g.ds p.1 p.2=[(rootsP 0 g.ds).getD (findAt p.2.t g.ds 0).toNat 0]:=by rw[asksP,decide_eq_true h3,cond_true]
  have hq:=hm.find d hd _ hn h3
  have hq2:=findAt_lt g.ds 0 hq
  have hql:(findAt p.2.t g.ds 0).toNat < (rootsP 0 g.ds).length:=by rw[rootsP_len];omega
  refine⟨⟨hk0 d hd _ hn,f1⟩,fun x hx=>?_,fun h=>?_,fun _=>by simp only[ea];rfl,fun h=>?_,by simp only[ea];exact Nat.le_of_ble_eq_true rfl⟩
  ·simp only[ea,List.mem_singleton] at hx
   rw[hlen,hx,List.getD_eq_getElem?_getD,List.getElem?_eq_getElem hql,Option.getD_some]
   have:=rootsP_lt 0 g.ds (fun d hd=>(hm.r d hd).root) _ (List.getElem_mem hql)
   omega
  ·have h':p.2.k=4∨p.2.k=5:=h
   omega
  ·have h':p.2.k=6:=h
   omega
 ·have ea:asksP g.ds p.1 p.2=p.2.kids.map fun k=>p.1+k.toNat:=by rw[asksP,decide_eq_false h3,cond_false]
  refine⟨⟨hk0 d hd _ hn,f1⟩,fun x hx=>?_,fun h=>?_,fun h=>?_,fun h=>f4 h,?_⟩
  ·simp only[ea] at hx
   obtain⟨k,hk,rfl⟩:=List.mem_map.1 hx
   have:=hkids k hk
   rw[hlen]
   omega
  ·have:=f2 h
   simp only[ea,List.length_map]
   omega
  ·have h':p.2.k=3∨6≤p.2.k:=h
   have:=f3 (by omega)
   simp only[ea,List.length_map]
   exact this
  ·simp only[ea,List.length_map]
   have:d.t.ns.length≤totP g.ds:=by omega
   omega
theorem pkG_ok {g:Gr} (hm:GMay g) (hk0:∀ d∈g.ds,∀ n∈d.t.ns,0≤n.k) {s:ByteArray} {at_:Nat} (h1:at_≤s.size) (h2:s.size≤4096):PkOk (pkG g s at_):=
 ⟨fun a ha=>pn_ok hm hk0 ha,h1,h2⟩
def rootP (g:Gr) (rule:Nat):Nat:=(rootsP 0 g.ds).getD rule 0
theorem rootP_lt {g:Gr} (hm:GMay g) {rule:Nat} (h:rule < g.ds.length) (s:ByteArray) (at_:Nat):rootP g rule < (pkG g s at_).ns.length:=by
 have hl:rule < (rootsP 0 g.ds).length:=by rw[rootsP_len];exact h
 have e:(pkG g s at_).ns.length=totP g.ds:=by simp[pkG,nodesQ,bodyP_len]
 rw[e,rootP,List.getD_eq_getElem?_getD,List.getElem?_eq_getElem hl,Option.getD_some]
 have:=rootsP_lt 0 g.ds (fun d hd=>(hm.r d hd).root) _ (List.getElem_mem hl)
 omega
def S0:Ms:=⟨fun _ _=>ce0,[],0⟩
theorem S0_ok (P:Pk):MsOk P S0:=⟨fun f h=>(by cases h),fun k p=>⟨Nat.zero_le _,fun h=>(by cases h),fun _=>⟨rfl,rfl⟩⟩,trivial⟩
theorem S0_g (P:Pk):MgOk P S0:=⟨fun k p h=>(by cases h),fun f h=>(by cases h),List.nodup_nil⟩
theorem S0_q {P:Pk} {k a:Nat} (h1:k < P.ns.length) (h2:P.base≤a) (h3:a≤P.s.size):RqOk P S0 (.begin k a):=⟨h1,h2,h3,fun f rest e=>(by cases e),rfl⟩
def lastIs (r a:Nat) (op:List Fm):Prop:=∃ f,op.getLast?=some f∧f.nd=r∧f.pl=a
def Bot (P:Pk) (r a:Nat) (q:Rq) (S:Ms):Prop:=(S.op=[]∧q=.begin r a)∨lastIs r a S.op
def NBot (P:Pk) (r a:Nat):Nx→Prop
 | .stop (.err _)=>True
 | .stop (.ok c S)=>S.kn r (a - P.base)=c∧S.op=[]
 | .more q S=>lastIs r a S.op
theorem finish_b {P:Pk} {r a:Nat} {c:Ce} {S:Ms} (h:lastIs r a S.op):NBot P r a (finishM P c S):=by
 obtain⟨f,h1,h2,h3⟩:=h
 unfold finishM
 match hop:S.op with
 | []=>trivial
 | [x]=>
  rw[hop] at h1
  simp only[List.getLast?_singleton,Option.some.injEq] at h1
  subst h1
  refine⟨?_,rfl⟩
  show setKn S.kn x.nd (x.pl - P.base) c r (a - P.base)=c
  rw[h2,h3,setKn_self]
 | x::y::ys=>
  rw[hop,List.getLast?_cons_cons] at h1
  exact⟨f,h1,h2,h3⟩
theorem ask_b {P:Pk} {r a:Nat} {S:Ms} (h:lastIs r a S.op):NBot P r a (askM P S):=by
 unfold askM
 split
 ·trivial
 ·simp only
  cases Nat.beq (S.kn (nextM P _).1 ((nextM P _).2 - P.base)).st 0 with
  | true=>exact h
  | false=>cases Nat.beq (S.kn (nextM P _).1 ((nextM P _).2 - P.base)).st 1 with
   | true=>trivial
   | false=>exact h
theorem step_b {P:Pk} (hP:PkOk P) {S:Ms} (hS:MsOk P S) {q:Rq} (hq:RqOk P S q) {r a:Nat} (h:Bot P r a q S):NBot P r a (stepM P q S):=by
 cases q with
 | begin k b=>
  have hl:lastIs r a (begS P k b S).op:=by
   rcases h with ⟨h1,h2⟩ | h
   ·cases h2
    exact⟨⟨r,a,0,a,0⟩,by simp[begS,h1],rfl,rfl⟩
   ·obtain⟨f,h1,h2,h3⟩:=h
    refine⟨f,?_,h2,h3⟩
    show (_::S.op).getLast?=_
    cases hop:S.op with
    | nil=>rw[hop] at h1;cases h1
    | cons x xs=>rw[List.getLast?_cons_cons,←hop];exact h1
  show NBot P r a (beginM P k b S)
  unfold beginM
  cases aloneM P k b with
  | some c=>exact finish_b hl
  | none=>exact ask_b hl
 | hand c=>
  obtain⟨f,rest,hop,hd,hc⟩:=hq
  have hl:lastIs r a S.op:=by
   rcases h with ⟨h1,h2⟩ | h
   ·cases h2
   ·exact h
  rw[hop] at hl
  show NBot P r a (handM P c S)
  unfold handM
  rw[hop]
  simp only
  cases hh:handleM P f c with
  | loop=>trivial
  | on f' c' done=>
   have hs:=(handle_ok hP (hS.op f (by rw[hop];exact .head _)) hd hc hh).same
   have hl':lastIs r a (f'::rest):=by
    obtain⟨x,h1,h2,h3⟩:=hl
    cases rest with
    | nil=>
     simp only[List.getLast?_singleton,Option.some.injEq] at h1
     subst h1
     exact⟨f',rfl,by rw[hs.1,h2],by rw[hs.2,h3]⟩
    | cons y ys=>
     rw[List.getLast?_cons_cons] at h1
     exact⟨x,by rw[List.getLast?_cons_cons];exact h1,h2,h3⟩
   cases done with
   | true=>exact finish_b (S:=⟨S.kn,f'::rest,S.used+1⟩) hl'
   | false=>exact ask_b (S:=⟨S.kn,f'::rest,S.used+1⟩) hl'
theorem go_inv {P:Pk} (hP:PkOk P) {r a:Nat}:∀ (n:Nat) {q:Rq} {S:Ms},MsOk P S→MgOk P S→RqOk P S q→RgOk P S q→Bot P r a q S→∀ {c:Ce} {S':Ms},goM P n q S=.ok c S' →
  isDone c∧MsOk P S'∧MgOk P S'∧S'.kn r (a - P.base)=c∧S'.op=[]
 | 0,q,S,_,_,_,_,_,c,S',h=>by cases h
 | n+1,q,S,h1,h2,h3,h4,h5,c,S',h=>by
  have s1:=step_ok hP h1 h3
  have s2:=step_g hP h1 h2 h3 h4
  have s3:=step_b hP h1 h3 h5
  unfold goM at h
  generalize stepM P q S=x at h s1 s2 s3
  match x,h,s1,s2,s3 with
  | .stop e,h,s1,s2,s3=>
   simp only at h
   subst h
   exact⟨s1.1,s1.2,s2,s3.1,s3.2⟩
  | .more q2 S2,h,s1,s2,s3=>exact go_inv hP n s1.1 s2.1 s1.2 s2.2 (.inr s3) h
theorem WR.det {kn:Nat→Nat→Ce} {base k:Nat} {hi:Int} {t a:Nat} {l l':List (Nat×Nat)} (h:WR kn base k hi t a l) (h':WR kn base k hi t a l'):l=l':=by
 induction h generalizing l' with
 | stop h1=>
  cases h' with
  | stop=>rfl
  | fail h2=>exact absurd h1 h2
  | more _ h2=>exact absurd h1 h2
 | fail h1 h2=>
  cases h' with
  | stop h3=>exact absurd h3 h1
  | fail=>rfl
  | more _ h3 h4=>rw[h2] at h4;cases h4
 | more _ h1 h2 r ih=>
  cases h' with
  | stop h3=>exact absurd h3 h1
  | fail h3 h4=>rw[h2] at h4;cases h4
  | more _ h3 h4 r'=>rw[ih r']
theorem PartsM.det {P:Pk} {kn:Nat→Nat→Ce} {k a:Nat} {l l':List (Nat×Nat)} (h:PartsM P kn k a l) (h':PartsM P kn k a l'):l=l':=by
 unfold PartsM at h h'
 by_cases h6:(P.at_ k).d.k=6
 ·rw[if_pos h6] at h h'
  exact h.det h'
 ·rw[if_neg h6] at h h'
  by_cases h5:(P.at_ k).d.k=5
  ·rw[if_pos h5] at h h'
   exact h.2.trans h'.2.symm
  ·rw[if_neg h5] at h h'
   exact h.2.trans h'.2.symm
theorem GS.det {P:Pk} {kn:Nat→Nat→Ce} {n m:Nat} {L:List (Nat×Nat)} {l l':List Cp} (h:GS P kn n L l) (h':GS P kn m L l'):l=l':=by
 induction h generalizing m l' with
 | nil=>cases h';rfl
 | zero h3 h0 r ih=>
  cases h' with
  | zero h3' h0' r'=>exact ih r'
  | node h3' h0'=>exact absurd h0 h0'
 | node h3 h0 hp r ih=>
  cases h' with
  | zero h3' h0'=>exact absurd h0' h0
  | node h3' h0' hp' r'=>
   cases hp.det hp'
   rw[ih r']
structure Oc where
 ok:Bool
 to:Nat
 caps:List Cp
inductive Rs where
 | err (e:Int)
 | ok (o:Oc) (used:Nat)
inductive IsRun (P:Pk) (root at_ fuel:Nat):Rs→Prop
 | err {e:Nat} (h:goM P fuel (.begin root at_) S0=.err e):IsRun P root at_ fuel (.err (errC e))
 | fail {c:Ce} {S:Ms} (h:goM P fuel (.begin root at_) S0=.ok c S) (h2:c.st=2):IsRun P root at_ fuel (.ok ⟨false,0,[]⟩ S.used)
 | many {c:Ce} {S:Ms} (h:goM P fuel (.begin root at_) S0=.ok c S) (h3:c.st=3) (hn:65536 < c.n):IsRun P root at_ fuel (.err 40)
 | poor {c:Ce} {S:Ms} (h:goM P fuel (.begin root at_) S0=.ok c S) (h3:c.st=3) (hn:c.n≤65536) (hf:fuel < S.used+c.n):IsRun P root at_ fuel (.err 44)
 | ok {c:Ce} {S:Ms} {n:Nat} {l:List Cp} (h:goM P fuel (.begin root at_) S0=.ok c S) (h3:c.st=3) (hn:c.n≤65536) (hf:S.used+c.n≤fuel) (hg:GS P S.kn n [(root,at_)] l) (hl:l.length=c.n):IsRun P root at_ fuel (.ok ⟨true,c.to,l⟩ (S.used+c.n))
theorem IsRun.det {P:Pk} {root at_ fuel:Nat} {r r':Rs} (h:IsRun P root at_ fuel r) (h':IsRun P root at_ fuel r'):r=r':=by
 cases h with
 | err h1=>
  cases h' with
  | err h2=>rw[h1] at h2;cases h2;rfl
  | _ h2=>rw[h1] at h2;cases h2
 | fail h1 a2=>
  cases h' with
  | err h2=>rw[h1] at h2;cases h2
  | fail h2=>rw[h1] at h2;cases h2;rfl
  | _ h2 b3=>rw[h1] at h2;cases h2;rw[a2] at b3;cases b3
 | many h1 a3 an=>
  cases h' with
  | err h2=>rw[h1] at h2;cases h2
  | fail h2 b2=>rw[h1] at h2;cases h2;rw[a3] at b2;cases b2
  | many=>rfl
  | poor h2 b3 bn=>rw[h1] at h2;cases h2;omega
  | ok h2 b3 bn=>rw[h1] at h2;cases h2;omega
 | poor h1 a3 an af=>
  cases h' with
  | err h2=>rw[h1] at h2;cases h2
  | fail h2 b2=>rw[h1] at h2;cases h2;rw[a3] at b2;cases b2
  | many h2 b3 bn=>rw[h1] at h2;cases h2;omega
  | poor=>rfl
  | ok h2 b3 bn bf=>rw[h1] at h2;cases h2;omega
 | ok h1 a3 an af ag al=>
  cases h' with
  | err h2=>rw[h1] at h2;cases h2
  | fail h2 b2=>rw[h1] at h2;cases h2;rw[a3] at b2;cases b2
  | many h2 b3 bn=>rw[h1] at h2;cases h2;omega
  | poor h2 b3 bn bf=>rw[h1] at h2;cases h2;omega
  | ok h2 b3 bn bf bg bl=>rw[h1] at h2;cases h2;rw[ag.det bg]
theorem run_of {P:Pk} (hP:PkOk P) {root at_ fuel:Nat} (h1:root < P.ns.length) (h2:P.base≤at_) (h3:at_≤P.s.size) {c:Ce} {S:Ms} (h:goM P fuel (.begin root at_) S0=.ok c S) :
  isDone c∧MsOk P S∧S.used≤fuel∧1≤S.used∧S.kn root (at_ - P.base)=c∧(c.st=3→∃ n l,GS P S.kn n [(root,at_)] l∧(c.n≤65536→l.length=c.n)∧Nst at_ c.to l):=by
 obtain⟨i1,i2,i3,i4,i5⟩:=go_inv hP fuel (r:=root) (a:=at_) (S0_ok P) (S0_g P) (S0_q h1 h2 h3) trivial (.inl ⟨rfl,rfl⟩) h
 obtain⟨j1,j2,-⟩:=go_ok fuel h
 refine⟨i1,i2,by show S.used≤fuel;have:S0.used=0:=rfl;omega,by have:S0.used=0:=rfl;omega,i4,fun hc=>?_⟩
 obtain⟨n,l,g1,g2,g3⟩:=i3.g root (at_ - P.base) (by rw[i4];exact hc)
 rw[Nat.add_sub_cancel' h2] at g1 g3
 rw[i4] at g2 g3
 exact⟨n,l,g1,g2.1,g3⟩
theorem run_just {P:Pk} {root at_ fuel:Nat} {o:Oc} {u:Nat} (h:IsRun P root at_ fuel (.ok o u)):1≤u∧u≤fuel∧∀ k r,IsRun P root at_ k r→(u≤k→r=.ok o u)∧(k < u→r=.err 44):=by
 have z:S0.used=0:=rfl
 cases h with
 | @fail c S h h2=>
  obtain⟨j1,j2,j3⟩:=go_ok fuel h
  refine⟨by omega,by omega,fun k r hr=>⟨fun hk=>hr.det (.fail ((j3 k).1 (by omega)) h2),fun hk=>hr.det (.err (e:=0) ((j3 k).2 (by omega)))⟩⟩
 | @ok c S n l h h3 hn hf hg hl=>
  obtain⟨j1,j2,j3⟩:=go_ok fuel h
  refine⟨by omega,by omega,fun k r hr=>⟨fun hk=>hr.det (.ok ((j3 k).1 (by omega)) h3 hn hk hg hl),fun hk=>?_⟩⟩
  by_cases hk2:S.used≤k
  ·exact hr.det (.poor ((j3 k).1 (by omega)) h3 hn hk)
  ·exact hr.det (.err (e:=0) ((j3 k).2 (by omega)))
theorem run_less {P:Pk} {root at_ fuel k:Nat} (h:IsRun P root at_ fuel (.err 44)) (hk:k≤fuel) {r:Rs} (hr:IsRun P root at_ k r):r=.err 44:=by
 have z:S0.used=0:=rfl
 generalize hq:Rs.err 44=q at h
 cases h with
 | @err e h=>
  have he:e=0:=by
   match e,hq with
   | 0,_=>rfl
   | 1,hq=>cases hq
   | 2,hq=>cases hq
   | n+3,hq=>cases hq
  subst he
  exact hr.det (.err (e:=0) (go_less fuel h k hk))
 | fail=>cases hq
 | many=>cases hq
 | @poor c S h h3 hn hf=>
  obtain⟨j1,j2,j3⟩:=go_ok fuel h
  by_cases hk2:S.used≤k
  ·exact hr.det (.poor ((j3 k).1 (by omega)) h3 hn (by omega))
  ·exact hr.det (.err (e:=0) ((j3 k).2 (by omega)))
 | ok=>cases hq
end Go.V
