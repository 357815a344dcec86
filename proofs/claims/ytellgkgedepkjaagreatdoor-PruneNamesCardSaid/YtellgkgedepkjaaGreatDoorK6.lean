/-
  Part 6 of what the proofs of this seat share: the executor, data in memory, walks.
-/
import Derived.Test.YtellgkgedepkjaaGreatDoorK5
import Derived.Test.YtellgkgedepkjaaGreatDoorK2
import Derived.Test.YtellgkgedepkjaaGreatDoorK3
import Derived.Test.YtellgkgedepkjaaGreatDoorK4
import Derived.Lib.TrailingZeros
import Derived.Lib.SliceRun
set_option linter.all false
namespace Go.V
open Go
section
variable {X:Ctx} {G:GT} {pr:PR} {D0:Nm} {n0:Nat} {a:Act} {w:World}
theorem chain_ok {bef:List Nat}:∀ {es:List Nat},chainOk bef es=true→∀ (p q:Nat) (x y:Nat),p < q→es[p]?=some x→es[q]?=some y→(bef.getD y 0).testBit x=true
 | [],_,p,q,x,y,_,hx,_=>by simp at hx
 | e::es,h,p,q,x,y,hpq,hx,hy=>by
  simp only[chainOk,Bool.and_eq_true] at h
  cases q with
  | zero=>omega
  | succ q=>
   have hy':es[q]?=some y:=by simpa using hy
   cases p with
   | zero=>
    simp at hx
    subst hx
    exact List.all_eq_true.1 h.1 y (List.mem_of_getElem? hy')
   | succ p=>exact chain_ok h.2 p q x y (by omega) (by simpa using hx) hy'
theorem effs_mem {E:Env} {ops:List Oper} {e:Nat}:e∈effsL E ops ↔ e < ops.length∧kindAtK E ops e=2:=by
 unfold effsL
 rw[List.mem_filter,List.mem_range]
 constructor
 ·rintro⟨h1,h2⟩;exact⟨h1,Nat.eq_of_beq_eq_true h2⟩
 ·rintro⟨h1,h2⟩;exact⟨h1,by rw[h2];rfl⟩
theorem kindAt_of {E:Env} {ops:List Oper} {i:Nat} {o:Oper} (h:ops[i]?=some o):kindAtK E ops i=kindE E o.op:=by
 unfold kindAtK
 rw[nthE_eq,h]
 rfl
theorem SvE.same {D:Nm} {x:SV} {u v:EV} (h:SvE D x u) (hs:sameE u v=true):SvE D x v:=by
 rcases h with ⟨y,rfl,h⟩ | ⟨q,rfl,rfl⟩
 ·exact .val (sameE_ok hs h)
 ·have:v=.b q:=by
   cases v<;>simp only[sameE,Bool.false_eq_true] at hs
   rw[eq_of_beq hs]
  exact .inr ⟨q,this,rfl⟩
theorem E_drawn_ok (hE:EOK X.P X.E) (hesc:∀ d,d < X.n→X.esc.contains d=true) {call:EV→List EV→Me→Option (EV×Me)} (hcall:CallOK (RX X G pr) call) {id:Nat} {AA:Array Oper} (hmx:X.P.follows .mixedOrders=true) (hn:opsOk X.n AA=true)
  {fr frE:Tri EV} {m mE:Me} (h:E_drawn (RX X G pr) call AA.toList fr m=some (frE,mE)) {Q:Exit→Act→World→Prop} (hQ:∀ a w,St X G pr D0 n0 frE mE a w→Q .normal a w) (hs:St X G pr D0 n0 fr m a w) :
  (Code.region id AA true).wpIn (fen X) 0 X.P Q a w:=by
 refine wpIn_region_any hmx ?_
 generalize hops:AA.toList=ops at h
 have hAA:AA=ops.toArray:=by apply Array.ext';simpa using hops
 subst hAA
 have hdn:∀ o∈ops,∀ d,o.dst=some d→d < X.n:=by simpa using opsOk_spec hn
 unfold E_drawn at h
 obtain⟨hrc,h⟩:=cnd_some h
 unfold rowChk at hrc
 simp only[Bool.and_eq_true] at hrc
 obtain⟨hchk,hperm,hchain,hrow⟩:=hrc
 have hD:DC ops:=dc_of_chk hchk
 have hrow':((rowL X.E ops).filter fun r=>Nat.beq r.2 2).map (·.1)=effsL X.E ops:=by simpa using hrow
 clear hrow
 generalize hes:effsL X.E ops=es at *
 have hesm:∀ e,e∈es ↔ e < ops.length∧kindAtK X.E ops e=2:=fun e=>by rw[←hes];exact effs_mem
 generalize hrw:rowL X.E ops=row at *
 cases hdr:E_draw (RX X G pr) call ops row fr m [] [] with
 | none=>rw[hdr] at h;cases h
 | some res=>
 obtain⟨frE',mE',S',A'⟩:=res
 rw[hdr] at h
 have h':cnd (A'.all (holdE (RX X G pr) es (befL ops) S'.reverse)) (some (frE',mE')) none=some (frE,mE):=h
 clear h
 obtain⟨hhold,h'⟩:=cnd_some h'
 cases h'
 obtain⟨vs,S,A,htr,hS',hA',-⟩:=draw_tr hE hesc hdn hcall row hdr
 rw[List.append_nil] at hS'
 subst hS'
 rw[List.reverse_reverse] at hhold
 have hholdA:∀ y∈A,holdE (RX X G pr) es (befL ops) S y=true:=fun y hy=>List.all_eq_true.1 hhold y (hA' y hy)
 have hrn:(row.map (·.1)).Nodup:=perm_nodup hperm
 obtain⟨vsW,vsR,frW,mW,SW,SR,AR,w1,w2,w3,w4,w5,w6,w7,w8,w9⟩:=Trc.split row (rest:=[]) (by rw[List.append_nil];exact htr)
 have hlenE:(row.filter fun r=>Nat.beq r.2 2).length=es.length:=by rw[←hrow',List.length_map]
 cases w5
 rw[List.append_nil] at w1
 subst w1
 have hvn:(vs.map (·.1)).Nodup:=by rw[w2];exact hrn
 have hmade:=htr.made_ge
 have preClosed:∀ (pre:List (Nat×Nat)) (rest:List (Nat×Nat)),row=pre++rest→Closed ops (fun i=>i∈pre.map (·.1)):=fun pre rest hpr j e hj he=>by
  obtain⟨⟨x,c⟩,hx,hxe⟩:=List.mem_map.1 hj
  have hxe':x=j:=hxe
  subst hxe'
  obtain⟨p1,p2,e1⟩:=List.append_of_mem hx
  rcases(perm_split hperm p1 x c (p2++rest) (by rw[hpr,e1];simp)).2.2.2 e he with h | h
  ·simp at h
  ·show e∈pre.map (·.1)
   rw[e1,List.map_append]
   exact List.mem_append.2 (.inl h)
 let J:=DJ X G pr D0 n0 ops es fr vs S A
 have key:=any_inv (X:=X) (ops:=ops) (Q:=Q) hD.lt J ?step ?fin ops.length (Array.replicate ops.length false) a { w with drawn:=w.drawn+1 } (by simp) (by unfold todo;exact Nat.le_trans (List.length_filter_le _ _) (by simp)) ?cl ?start
 case cl=>
  intro j e hj
  exfalso
  by_cases hi:j < ops.length<;>simp[Array.getD_eq_getD_getElem?,hi] at hj
 case start=>
  obtain⟨D,F,C,I,M,⟨β,hR⟩,hF,hms,hx,hn0⟩:=hs
  obtain⟨m2,S2,hS2,hg⟩:=htr.head
  have hL:∀ i,¬ (Array.replicate ops.length false).getD i false=true:=fun i=>by
   by_cases hi:i < ops.length<;>simp[Array.getD_eq_getD_getElem?,hi]
  refine⟨D,F,C,I,M,0,m2,⟨β,hR.world rfl⟩,fun q e _=>⟨fun h=>(hL e h).elim,fun h=>by omega⟩,Nat.zero_le _,by rw[hS2];rfl,hms.grow hg,fun i v t hi=>(hL i hi).elim,fun t v _ hg=>hF t v hg,fun i c l T hmd _=>?_,hx⟩
  have:=(hmade.2 i c l T hmd).1
  cases hDc:D c with
  | none=>rfl
  | some b=>have:=hms.dom _ _ hDc;omega
 case fin=>
  rintro a w ⟨D,F,C,I,M,j,Sm,hR,hes',hj,hSj,hms,hA1,hB1,hN,hx⟩
  have hjl:j=es.length:=by
   refine Nat.le_antisymm hj ?_
   by_cases h0:es.length=0
   ·omega
   ·have hlt:es.length - 1 < es.length:=by omega
    have h1:=(hes' (es.length - 1) es[es.length - 1] (List.getElem?_eq_getElem hlt)).1 ((hesm _).1 (List.getElem_mem hlt)).1
    omega
  have hSmE:Sm=mE:=by
   rw[hjl,w3,List.getElem?_append_right (by omega),w4,hlenE] at hSj
   simpa using hSj.symm
  subst hSmE
  refine hQ a w ⟨D,F,C,I,M,hR,fun t v hg=>?_,hms,hx,?_⟩
  ·rcases w8 t v hg with ⟨i,h1,h2⟩ | ⟨h1,h2⟩
   ·obtain⟨oi,hoi,_⟩:=dstAt_some h2
    exact hA1 i v t (List.getElem?_eq_some_iff.1 hoi).1 h1 h2
   ·refine hB1 t v (fun i hi=>?_) h2
    rcases perm_all hperm i hi with h3 | h3
    ·simp at h3
    ·exact h1 i h3
  ·obtain⟨D',F',C',I',M',_,_,_,_,hn0⟩:=hs
   exact Nat.le_trans hn0 w7
 case step=>
  rintro L a w q o ⟨D,F,C,I,M,j,Sm,⟨β,hR⟩,hes',hj,hSj,hms,hA1,hB1,hN,hx⟩ hcl hLl hq hqL hdeps
  have hql:q < ops.length:=(List.getElem?_eq_some_iff.1 hq).1
  have hdo:=hdn o (List.mem_of_getElem? hq)
  obtain⟨⟨q',k⟩,hqr,hqe⟩:=List.mem_map.1 ((perm_all hperm q hql).resolve_left (by simp))
  have hqe':q'=q:=hqe
  subst hqe'
  obtain⟨pre,post,hsp⟩:=List.append_of_mem hqr
  obtain⟨-,-,hqpre,hdpre⟩:=perm_split hperm pre q' k post hsp
  have hdpre':∀ e,Dep ops q' e→e∈pre.map (·.1):=fun e he=>(hdpre e he).resolve_left (by simp)
  have hpc:=preClosed pre ((q',k)::post) hsp
  have htr':=htr
  rw[hsp] at htr'
  obtain⟨vs1,vs2,fr1,m1,S1,S2,A2,e1,e2,e3,e4,e5,e6,e7,e8,e9⟩:=Trc.split pre htr'
  have hmade2:=e5.made_ge
  have H:∀ t∈looks ops o,∀ v,fr1.get t=some v→SvE D (F t) v:=fun t ht v hv=>by
   rcases e8 t v hv with ⟨i,h1,h2⟩ | ⟨h1,h2⟩
   ·obtain⟨oi,hoi,hdi⟩:=dstAt_some h2
    have hipre:i∈pre.map (·.1):=by rw[←e2];exact List.mem_map.2 ⟨_,h1,rfl⟩
    have hne:i≠q':=fun e=>hqpre (e ▸ hipre)
    rcases hD.ord i q' oi o t hne hoi hq hdi ht with hb | hb
    ·exact hA1 i v t (hb.mem hcl hdeps) (by rw[e1];exact List.mem_append.2 (.inl h1)) h2
    ·exact(hqpre (hb.mem hpc fun e he=>hpc i e hipre he)).elim
   ·refine hB1 t v (fun i hi hdt=>?_) h2
    obtain⟨oi,hoi,hdi⟩:=dstAt_some hdt
    have hne:i≠q':=fun e=>hqL (e ▸ hi)
    rcases hD.ord i q' oi o t hne hoi hq hdi ht with hb | hb
    ·exact h1 i (hb.mem hpc hdpre') hdt
    ·exact hqL (hb.mem hcl fun e he=>hcl i e hi he)
  have hO:OR D F fr1 o.op.operands.toList:=OR_looks H
  have hlo:loL es (befL ops) q'≤j:=filter_le fun p e hp hb=>by
   exact(hes' p e hp).1 ((bef_of_bit hb).mem hcl hdeps)
  have hhi:j≤hiL es (befL ops) q':=le_filter hj fun p e hp hpe=>by
   cases hb:((befL ops).getD e 0).testBit q' with
   | false=>rfl
   | true=>
    have hLe:L e:=(hes' p e hpe).2 hp
    exact(hqL ((bef_of_bit hb).mem hcl fun d hd=>hcl e d hLe hd)).elim
  have esKeep:kindE X.E o.op≠2→∀ p e,es[p]?=some e→((L e∨e=q') ↔ p < j):=fun hk p e hp=>by
   have hne:e≠q':=fun he=>hk (by
    have:=((hesm e).1 (List.mem_of_getElem? hp)).2
    rw[he,kindAt_of hq] at this
    exact this)
   exact⟨fun hh=>(hes' p e hp).1 (hh.resolve_right hne),fun hh=>.inl ((hes' p e hp).2 hh)⟩
  have esNext:kindE X.E o.op=2→es[j]?=some q'∧j+1≤es.length∧∀ p e,es[p]?=some e→((L e∨e=q') ↔ p < j+1):=fun hk=>by
   have hqe:q'∈es:=(hesm q').2 ⟨hql,by rw[kindAt_of hq];exact hk⟩
   obtain⟨p0,hp0⟩:=List.getElem?_of_mem hqe
   have hp0l:=(List.getElem?_eq_some_iff.1 hp0).1
   have h1:¬ p0 < j:=fun hh=>hqL ((hes' p0 q' hp0).2 hh)
   have h2:¬ j < p0:=fun hh=>by
    have hjl:j < es.length:=by omega
    have hbit:=chain_ok hchain j p0 es[j] q' hh (List.getElem?_eq_getElem hjl) hp0
    have:=(hes' j es[j] (List.getElem?_eq_getElem hjl)).1 ((bef_of_bit hbit).mem hcl hdeps)
    omega
   have h3:p0=j:=by omega
   subst h3
   refine⟨hp0,by omega,fun p e hp=>⟨fun hh=>?_,fun hh=>?_⟩⟩
   ·rcases hh with hh | rfl
    ·have:=(hes' p e hp).1 hh;omega
    ·refine Classical.byContradiction fun hn=>?_
     have hbit:=chain_ok hchain p0 p e e (by omega) hp0 hp
     exact hqL ((bef_of_bit hbit).mem hcl hdeps)
   ·by_cases hpj:p < p0
    ·exact .inl ((hes' p e hp).2 hpj)
    ·have:p=p0:=by omega
     subst this
     rw[hp0] at hp
     exact .inr (some_inj' hp).symm
  have plain:∀ {v:EV} {F':Fr} {C':Bx} {a':Act} {w':World},(q',v)∈vs→kindE X.E o.op≠2→(∀ l T c,Hold.made q' c l T ∉ A∨True)→Rel X a' w' F' C' I M→PFv o.dst v D F F'→J (fun j=>L j∨j=q') a' w':=fun {v F' C' a' w'} hv hk _ hR' hp=>by
   obtain⟨f1,f2⟩:=DJ.fr hD hq hqL hvn hv (Nm.le_refl D) hp hA1 hB1
   exact⟨D,F',C',I,M,j,Sm,hR',esKeep hk,hj,hSj,hms,f1,f2,fun i c l T hm hno=>hN i c l T hm fun hi=>hno (.inl hi),hx⟩
  have hvsq:∀ {v:EV} {rest:List (Nat×EV)},vs2=(q',v)::rest→(q',v)∈vs:=fun {v rest} he=>by rw[e1,he];exact List.mem_append.2 (.inr (by simp))
  have hn0m:n0≤m1.n:=by
   obtain⟨D',F',C',I',M',_,_,_,_,hn0⟩:=hs
   exact Nat.le_trans hn0 e7
  have esAt:∀ {k:Nat},k=2→row=pre++(q',k)::post→kindE X.E o.op=2→S1.length=j:=fun {k} hk2 hrow2 hk=>by
   obtain⟨hej,hjl,_⟩:=esNext hk
   have hse:es=(pre.filter fun r=>Nat.beq r.2 2).map (·.1)++q'::((post.filter fun r=>Nat.beq r.2 2).map (·.1)):=by
    rw[←hrow',hrow2,List.filter_append,List.map_append,List.filter_cons]
    subst hk2
    simp
   have hnd:es.Nodup:=by rw[←hes];exact List.nodup_range.sublist List.filter_sublist
   have h1:es[S1.length]?=some q':=by
    rw[hse,List.getElem?_append_right (by rw[List.length_map,e4];exact Nat.le_refl _),List.length_map,e4,Nat.sub_self]
    rfl
   have hl1:=(List.getElem?_eq_some_iff.1 h1).1
   exact(List.getElem?_inj hl1 hnd).1 (by rw[h1,hej])
  cases e5 with
  | @q i o' rest fr0 m0 v fr' vs' frE0 mE0 S0 A0 ho hk hwt hv hp t=>
   have hoo:o'=o:=some_inj' (ho.symm.trans hq)
   subst hoo
   have hw:=wantE_ok' hwt hR.fr H
   refine⟨fun _=>?_,fun hf=>by rw[hw] at hf;cases hf⟩
   obtain⟨u,hu,huv⟩:∃ u,E_q X.P X.E G Sm.t o'.op fr1=some u∧∀ x,SvE D x u→SvE D x v:=by
    cases hl:isLoad o'.op with
    | false=>exact⟨v,by rw[E_q_mem hl (m2:=m1.t)];exact hv,fun _ h=>h⟩
    | true=>
     have hmem:Hold.load q' o' fr1 v∈A:=e6 _ (by rw[hl];simp)
     have h1:=hholdA _ hmem
     have h2:=atAll_ok (show atAll S (loL es (befL ops) q') (hiL es (befL ops) q') (stillE (RX X G pr) o' fr1 v)=true from h1) hlo hhi hSj
     unfold stillE at h2
     split at h2
     ·rename_i u hu
      exact⟨u,hu,fun x hx=>hx.same h2⟩
     ·cases h2
   refine Oper.wpIn_mono (fun a' w'=>?_) (V_op_sound hE hdo ⟨β,hR⟩ (V_op_q (K:=fun F' C' I' M'=>I'=I∧M'=M∧PFv o'.dst v D F F') rfl hk (E_q_ok hE hu hO hms fun x hx=>⟨rfl,rfl,.put F (huv x hx)⟩)))
   rintro⟨F',C',I',M',hr',rfl,rfl,hpf⟩
   exact plain (hvsq rfl) (by rw[hk];decide) (fun _ _ _=>.inr trivial) hr' hpf
  | @a i o' d rest fr0 m0 m' l T c mk fr' vs' frE0 mE0 S0 A0 ho hk hwt hd hv hnr hp t=>
   have hoo:o'=o:=some_inj' (ho.symm.trans hq)
   subst hoo
   have hw:=wantE_ok' hwt hR.fr H
   refine⟨fun _=>?_,fun hf=>by rw[hw] at hf;cases hf⟩
   have hmem:Hold.made q' m1.n l T∈A:=e6 _ (by simp)
   have h1:=hholdA _ hmem
   have h2:=atAll_ok (show atAll S (loL es (befL ops) q') (hiL es (befL ops) q') (madeE m1.n l T)=true from h1) hlo hhi hSj
   unfold madeE at h2
   rw[Bool.and_eq_true] at h2
   obtain⟨hcn,h2⟩:=h2
   have hcn':m1.n < Sm.n:=Nat.le_of_ble_eq_true hcn
   split at h2
   ·rename_i cs T' lim hent
    simp only[Bool.and_eq_true] at h2
    obtain⟨hT,hlim,h2⟩:=h2
    have hT':=Nat.eq_of_beq_eq_true hT
    subst hT'
    have hlim':=Nat.eq_of_beq_eq_true hlim
    subst hlim'
    split at h2
    ·rename_i l' hl'
     obtain⟨l2,c1,c2,c3⟩:=Tri.many_ok cs l.length 0 _ _ hl'
     have hl2:l2=l':=some_inj' c3
     subst hl2
     have hDc:D m1.n=none:=hN q' m1.n l T' hmem hqL
     refine Oper.wpIn_mono (fun a' w'=>?_) (V_op_sound hE hdo ⟨β,hR⟩ (E_a_ok (K:=fun F' C' I' M'=>∃ b us u,I'=I∧M'=⟨b,.cells us.toArray T' (0,0)⟩::M∧I b=none∧(∀ x∈M,x.num≠b)∧VRs D l us∧(∀ i,X.E T'=some i→us.length=c * i.size)∧c≤maxLen ∧
      (∀ (D':Nm) id,D' id=some ⟨b,0,c⟩→VR D' (mk id) u)∧PF o'.dst u F F') hE hesc hdo hv (by rw[hd];rfl) hO fun b us u F' C' g1 g2 g3 g4 g5 g6 g7=>⟨b,us,u,rfl,rfl,g1,g2,g3,g4,g5,g6,g7⟩))
     rintro⟨F',C',I',M',hr',b,us,u,rfl,rfl,g1,g2,g3,g4,g5,g6,g7⟩
     have hle:D.le (D.set m1.n ⟨b,0,c⟩):=Nm.le_set _ hDc
     have hpv:PFv o'.dst (mk m1.n) (D.set m1.n ⟨b,0,c⟩) F F':=g7.v (g6 _ _ (Nm.set_self _ _ _))
     obtain⟨f1,f2⟩:=DJ.fr hD hq hqL hvn (hvsq rfl) hle hpv hA1 hB1
     have hg3:=sameLE_ok h2 g3
     have hset:∀ id,id≠m1.n→(D.set m1.n ⟨b,0,c⟩) id=D id:=fun id hid=>by unfold Nm.set;rw[if_neg hid]
     have hother:∀ id e b',Sm.t.get id=some e→D id=some b'→b'.b≠b:=fun id e b' hi hb' hbb=>by
      obtain⟨x,hx1,hx2⟩:=hms.blk hi hb'
      exact g2 x hx1 (hx2.trans hbb)
     refine⟨D.set m1.n ⟨b,0,c⟩,F',C',I',_,j,Sm,hr',esKeep (by rw[hk];decide),hj,hSj,?_,f1,f2,?_,fun i hi=>?_⟩
     ·refine⟨fun id e b' hi hb'=>?_,fun id id' e e' b1 b2 hi hi' h1 h2 hbb=>?_,fun id b' hb'=>?_,hms.glo⟩
      ·by_cases hid:id=m1.n
       ·subst hid
        rw[Nm.set_self] at hb'
        cases hb'
        rw[hent] at hi
        cases hi
        refine .cells us.toArray rfl (by simp) (by simp[g3.len]) (fun i v hi hv=>?_) (fun i hi=>by simpa using g4 i hi) g5
        have hv':l2[i]?=some v:=by
         have:=c2 i hi
         rw[Nat.zero_add,hv] at this
         exact this.symm
        obtain⟨x,hx1,hx2⟩:=hg3.get hv'
        exact⟨x,by simpa using hx1,hx2.mono hle⟩
       ·rw[hset id hid] at hb'
        exact(hms.ent id e b' hi hb').mono hle fun x hx _=>List.mem_cons_of_mem _ hx
      ·by_cases hid:id=m1.n
       ·by_cases hid':id'=m1.n
        ·rw[hid,hid']
        ·rw[hset id' hid'] at h2
         rw[hid,Nm.set_self] at h1
         cases h1
         exact(hother id' e' b2 hi' h2 hbb.symm).elim
       ·rw[hset id hid] at h1
        by_cases hid':id'=m1.n
        ·rw[hid',Nm.set_self] at h2
         cases h2
         exact(hother id e b1 hi h1 hbb).elim
        ·rw[hset id' hid'] at h2
         exact hms.inj id id' e e' b1 b2 hi hi' h1 h2 hbb
      ·by_cases hid:id=m1.n
       ·rw[hid];exact hcn'
       ·rw[hset id hid] at hb'
        exact hms.dom _ _ hb'
     ·intro i c' l' T2 hmd hno
      have hcc:c'≠m1.n:=fun e=>by
       rcases e9 i c' l' T2 hmd with h | h
       ·rcases List.mem_cons.1 h with h | h
        ·cases h
         exact hno (.inr rfl)
        ·have:=(t.made_ge.2 i c' l' T2 h).1
         have:=hnr.1
         omega
       ·omega
      rw[hset c' hcc]
      exact hN i c' l' T2 hmd fun hi=>hno (.inl hi)
     ·rw[hset i (by omega)]
      exact hx i hi
    ·cases h2
   ·cases h2
  | @e i o' rest fr0 m0 m' v fr' vs' frE0 mE0 S0 A0 ho hk hwt hcore hp t=>
   have hoo:o'=o:=some_inj' (ho.symm.trans hq)
   subst hoo
   have hw:=wantE_ok' hwt hR.fr H
   refine⟨fun _=>?_,fun hf=>by rw[hw] at hf;cases hf⟩
   obtain⟨hej,hjl,hes2⟩:=esNext hk
   have hS1:=esAt rfl hsp hk
   have hSm:Sm=m1:=by
    rw[e3,List.getElem?_append_right (by omega),hS1,Nat.sub_self] at hSj
    simpa using hSj.symm
   subst hSm
   obtain⟨m2,S3,hS3,hgrow⟩:=t.head
   refine Oper.wpIn_mono (fun a' w'=>?_) (V_op_sound hE hdo ⟨β,hR⟩ (hcore.2 D F C I M (fun F' C' I' M'=>∃ D',D.ext D' Sm.n∧PFv o'.dst v D' F F'∧MS (RX X G pr) D' m' I' M') hO hms fun D' F' C' I' M' g1 g2 g3=>⟨D',g1,g2,g3⟩))
   rintro⟨F',C',I',M',hr',D',g1,g2,g3⟩
   have hle:=hms.le g1
   obtain⟨f1,f2⟩:=DJ.fr hD hq hqL hvn (hvsq rfl) hle g2 hA1 hB1
   refine⟨D',F',C',I',M',j+1,m2,hr',hes2,hjl,?_,g3.grow hgrow,f1,f2,fun i c l T hmd hno=>?_,Nm.ext_trans hx g1 hn0m⟩
   ·rw[e3,List.getElem?_append_right (by omega),hS1,show j+1 - j=0+1 by omega,List.getElem?_cons_succ,hS3]
    rfl
   ·rcases e9 i c l T hmd with h | h
    ·have:=(t.made_ge.2 i c l T h).1
     cases hDc:D' c with
     | none=>rfl
     | some b=>have:=g3.dom _ _ hDc;omega
    ·rw[g1 c h]
     exact hN i c l T hmd fun hi=>hno (.inl hi)
  | @skip i k' o' rest fr0 m0 fr' vs' frE0 mE0 S0 A0 ho hk hwt hp t=>
   have hoo:o'=o:=some_inj' (ho.symm.trans hq)
   subst hoo
   have hw:=wantE_ok' hwt hR.fr H
   refine⟨fun hf=>(by rw[hw] at hf;cases hf),fun _=>?_⟩
   have hR':Rel X (a.put o'.dst undef) w (put o'.dst (.val undef) F) C I M:=⟨β,hR.put (x:=.val undef) hdo rfl⟩
   have hpv:PFv o'.dst (.t []) D F (put o'.dst (.val undef) F):=.put F (.val .undef)
   by_cases hk2:k=2
   ·subst hk2
    obtain⟨hej,hjl,hes2⟩:=esNext hk
    have hS1:=esAt rfl hsp hk
    have hSm:Sm=m1:=by
     rw[e3,List.getElem?_append_right (by omega),hS1,Nat.sub_self] at hSj
     simpa using hSj.symm
    subst hSm
    obtain⟨m2,S3,hS3,hgrow⟩:=t.head
    obtain⟨f1,f2⟩:=DJ.fr hD hq hqL hvn (hvsq rfl) (Nm.le_refl D) hpv hA1 hB1
    refine⟨D,_,C,I,M,j+1,m2,hR',hes2,hjl,?_,hms.grow hgrow,f1,f2,fun i c l T hmd hno=>hN i c l T hmd fun hi=>hno (.inl hi),hx⟩
    rw[e3,List.getElem?_append_right (by omega),hS1,show j+1 - j=0+1 by omega]
    show (Sm::S0)[0+1]?=some m2
    rw[List.getElem?_cons_succ,hS3]
    rfl
   ·exact plain (hvsq rfl) (by rw[hk];exact hk2) (fun _ _ _=>.inr trivial) hR' hpv
 simpa using key
end
theorem okC_code {n:Nat}:∀ {c:Code},okC n c=true→codeOk n c=true
 | .seq x y,h=>by simp only[okC,codeOk,Bool.and_eq_true] at h ⊢;exact⟨okC_code h.1,okC_code h.2⟩
 | .block _ c,h=>by simp only[okC,codeOk] at h ⊢;exact okC_code h
 | .cond _ x y,h=>by simp only[okC,codeOk,Bool.and_eq_true] at h ⊢;exact⟨okC_code h.1,okC_code h.2⟩
 | .loop c,h=>by simp only[okC,codeOk] at h ⊢;exact okC_code h
 | .region _ ops _,h=>h
 | .scope c,h=>rfl
 | .rangeFunc ..,h=>rfl
 | .skip,h | .exit _,h | .label _,h | .goto _,h | .ret,h | .refuse _,h=>rfl
theorem okC_label {n:Nat}:∀ {c:Code} {l:Nat} {r:Code},okC n c=true→findLabel c l=some r→okC n r=true
 | .seq x y,l,r,h,hl=>by
  simp only[okC,Bool.and_eq_true] at h
  simp only[findLabel] at hl
  split at hl
  ·rename_i rest hr
   cases hl
   simp only[okC,Bool.and_eq_true]
   exact⟨okC_label h.1 hr,h.2⟩
  ·exact okC_label h.2 hl
 | .label l',l,r,h,hl=>by
  simp only[findLabel] at hl
  split at hl
  ·cases hl;rfl
  ·cases hl
 | .skip,_,_,_,hl | .exit _,_,_,_,hl | .goto _,_,_,_,hl | .ret,_,_,_,hl | .refuse _,_,_,_,hl | .block _ _,_,_,_,hl | .cond _ _ _,_,_,_,hl | .loop _,_,_,_,hl | .scope _,_,_,_,hl | .region _ _ _,_,_,_,hl | .rangeFunc _ _ _ _,_,_,_,hl=>by simp[findLabel] at hl
def FunsOK (P:Program):Prop:=∀ (g:Nat) (fn:Func) (c:Code),P.funcs[g]?=some fn→fn.body=some c→okC fn.ntmps c=true∧(fn.name == "runtime.NumGoroutine")=false
def funsChk (P:Program):Bool:=P.funcs.toList.all fun fn=>match fn.body with
 | some c=>okC fn.ntmps c && !(fn.name == "runtime.NumGoroutine")
 | none=>true
theorem funsOK_of {P:Program} (h:funsChk P=true):FunsOK P:=fun g fn c hf hb=>by
 have h1:=List.all_eq_true.1 h fn (by rw[←Array.mem_def];exact Array.mem_of_getElem? hf)
 simp only[hb,Bool.and_eq_true,Bool.not_eq_true'] at h1
 exact h1
def PrimOK (Y:RK):Prop:=∀ g vs m v m',Y.pr g vs m=some (v,m')→∀ (D:Nm) (I:GH) (M:List Blk) (us:List Value),VRs D vs us→MS Y D m I M→Spec Y.P g us I M fun r I' M'=>∃ D',D.ext D' m.n∧VR D' v r∧MS Y D' m' I' M'
def toExit:Ex→Exit
 | .normal=>.normal
 | .exit id=>.exit id
 | .goto l=>.goto l
 | .ret=>.ret
def RkX (Y:RK) (n B:Nat) (h0:World) (I0:GH) (foot:List Nat) (ro:Option Nat):Ctx:=⟨Y.P,Y.E,List.range n,n,B,h0,I0,foot,ro⟩
theorem RkX.esc {Y:RK} {n B:Nat} {h0:World} {I0:GH} {foot:List Nat} {ro:Option Nat}:∀ d,d < (RkX Y n B h0 I0 foot ro).n→(RkX Y n B h0 I0 foot ro).esc.contains d=true:=fun d hd=>by
 have hd':d < n:=hd
 show (List.range n).contains d=true
 simpa using hd'
def CodeOK (Y:RK) (f:Nat):Prop:=∀ top n c fr m ex fr' m',E_code Y f top n c fr m=some (ex,fr',m')→okC n c=true→∀ B h0 I0 foot ro D0 n0 a w,(top=true→ro=none)→St (RkX Y n B h0 I0 foot ro) Y.G Y.pr D0 n0 fr m a w →
 c.wpIn (fen (RkX Y n B h0 I0 foot ro)) 0 Y.P (fun e a w=>e=toExit ex∧St (RkX Y n B h0 I0 foot ro) Y.G Y.pr D0 n0 fr' m' a w) a w
theorem bare_get {α:Type}:∀ (n k:Nat),(Tri.bare n:Tri α).get k=none
 | 0,k=>rfl
 | n+1,k=>by
  rw[Tri.bare,Tri.get_node]
  cases Nat.beq k 0 with
  | true=>rfl
  | false=>
   cases Nat.beq (k % 2) 1 with
   | true=>exact bare_get n _
   | false=>exact bare_get n _
section
variable {X:Ctx} {G:GT} {pr:PR} {D:Nm} {m:Me} {F:Fr} {fr:Tri EV} {C:Bx} {I:GH} {M:List Blk}
theorem resE_ok (hF:FR D F fr) (hm:MS (RX X G pr) D m I M):∀ {rs:List ResultVar} {vs:List EV} {K:List Value→Prop},resE (RX X G pr) fr m.t rs=some vs→(∀ us,VRs D vs us→K us)→resV X F C I M rs K
 | [],vs,K,h,hk=>by
  simp only[resE] at h
  cases h
  exact hk [] .nil
 | .tmp t::l,vs,K,h,hk=>by
  simp only[resE] at h
  split at h
  ·rename_i v vs' h1 h2
   cases h
   obtain⟨u,e1,g1⟩:=(show SvE D (evr F (.tmp t)) v from hF t v h1).evq
   unfold resV
   rw[e1]
   exact resE_ok hF hm h2 fun us hus=>hk _ (.cons g1 hus)
  ·cases h
 | .cell t ty::l,vs,K,h,hk=>by
  simp only[resE] at h
  split at h
  ·rename_i x i vs' h1 h2 h3
   split at h
   ·rename_i v hv
    cases h
    have hnb:∀ q,x≠.b q:=fun q e=>by subst e;cases hv
    obtain⟨u,e1,g1⟩:=SvE.nb (hF t x h1:SvE D (evr F (.tmp t)) x) hnb
    obtain⟨ad,l',us',rfl,hrd,hl,hp⟩:=loadE_ok hm g1 hv
    have h2':X.E ty=some i:=h2
    have e1':evr F (.tmp t)=.val (.pointer (some ad)):=e1
    unfold resV
    rw[e1',h2']
    exact⟨us',hrd,resE_ok hF hm h3 fun us hus=>hk _ (.cons (packE_ok hp hl) hus)⟩
   ·cases h
  ·cases h
end
theorem call_fn {Y:RK} (hE:EOK Y.P Y.E) (hF:FunsOK Y.P) (hpr:PrimOK Y) {f:Nat} (hc:CodeOK Y f) {g:Nat} {args:List EV} {m:Me} {v:EV} {fn:Func} {c:Code} {us:List Value} {D:Nm} {I:GH} {M:List Blk} (hf:Y.P.funcs[g]?=some fn) (hb:fn.body=some c)
  (hle:args.length≤fn.ntmps) {fr fr':Tri EV} (hfr:∀ t w,fr.get t=some w→args[t]?=some w) {ex:Ex} {m1:Me} (hex:ex=.normal∨ex=.ret) (h:E_code Y f true fn.ntmps c fr m=some (ex,fr',m1)) {vs:List EV} (hr:resE Y fr' m1.t fn.results.toList=some vs)
  (hv:v=resOf vs) (hu:VRs D args us) (hm:MS Y D m I M):SpecE Y.P g us I M fun r I' M'=>∃ D',D.ext D' m.n∧VR D' v r∧MS Y D' m1 I' M':=by
 obtain⟨hok,hnm⟩:=hF g fn c hf hb
 refine specE_of_W (List.range fn.ntmps) hE hf hb hnm ?_ fun B h0 a w hR=>?_
 ·rw[Bool.and_eq_true]
  exact⟨okC_code hok,Nat.ble_eq_true_of_le (by rw[hu.len];exact hle)⟩
 ·have hfr0:FR D (frOf us) fr:=fun t w hw=>by
   obtain⟨x,h1,h2⟩:=hu.get (hfr t w hw)
   refine .inl ⟨x,?_,h2⟩
   simp only[frOf,h1]
  have hst:St (RkX Y fn.ntmps B h0 I (M.map (·.num)) none) Y.G Y.pr D m.n fr m a w:=⟨D,_,_,I,M,hR,hfr0,hm,Nm.ext_refl,Nat.le_refl _⟩
  refine wpIn_mono (hc _ _ _ _ _ _ _ _ h hok B h0 I (M.map (·.num)) none D m.n a w (fun _=>rfl) hst) ?_
  rintro e a' w' ⟨rfl,D',F',C',I',M',hR',hF',hm',hx,hn⟩
  have hres:∀ ex',ex'=.normal∨ex'=.ret→retK (RkX Y fn.ntmps B h0 I (M.map (·.num)) none) fn.results.toList (fun r I' M'=>∃ D',D.ext D' m.n∧VR D' v r∧MS Y D' m1 I' M') ex' F' C' I' M':=fun ex' he=>by
   have hdone:=resE_ok (X:=RkX Y fn.ntmps B h0 I (M.map (·.num)) none) (G:=Y.G) (pr:=Y.pr) (C:=C') hF' hm' hr (K:=fun vs=>match vs with
    | [v']=>RetOb (M.map (·.num)) I' M' ((fun r I' M'=>∃ D',D.ext D' m.n∧VR D' v r∧MS Y D' m1 I' M') v')
    | vs=>RetOb (M.map (·.num)) I' M' ((fun r I' M'=>∃ D',D.ext D' m.n∧VR D' v r∧MS Y D' m1 I' M') (.tuple vs.toArray))) fun us' hus=>by
     clear hr
     match vs,us',hus,hv with
     | [],us',hus,hv=>
      rw[hus.unnil]
      refine⟨I',M',.refl,D',hx,?_,hm'⟩
      rw[hv]
      exact .mkTup .nil
     | [v1],us',hus,hv=>
      obtain⟨x,xs,h1,h2,rfl⟩:=hus.uncons
      rw[h2.unnil]
      refine⟨I',M',.refl,D',hx,?_,hm'⟩
      rw[hv]
      exact h1
     | v1::v2::vs,us',hus,hv=>
      obtain⟨x,xs,h1,h2,rfl⟩:=hus.uncons
      obtain⟨y,ys,h3,h4,rfl⟩:=h2.uncons
      refine⟨I',M',.refl,D',hx,?_,hm'⟩
      rw[hv]
      exact .mkTup hus
   rcases he with rfl | rfl<;>exact hdone
  rcases hex with rfl | rfl
  ·exact⟨F',C',I',M',hR',hres _ (.inl rfl)⟩
  ·exact⟨F',C',I',M',hR',hres _ (.inr rfl)⟩
theorem Spec.weakK {P:Program} {f:Nat} {args:List Value} {I:GH} {M:List Blk} {p q:Value→GH→List Blk→Prop} (h:Spec P f args I M p) (hk:∀ v I' M',p v I' M'→q v I' M'):Spec P f args I M q:=by
 rcases h with ⟨h1,h2⟩ | h
 ·refine .inl ⟨h1,fun w hw=>?_⟩
  refine(h2 w hw).mono ?_
  rintro e w' ⟨v,I',M',e1,e2,e3,e4⟩
  exact⟨v,I',M',e1,hk _ _ _ e2,e3,e4⟩
 ·refine .inr fun w hw=>?_
  obtain⟨v,w',I',M',e1,e2,e3,e4⟩:=h w hw
  exact⟨v,w',I',M',e1,hk _ _ _ e2,e3,e4⟩
section
variable {Y:RK} {D:Nm} {m m':Me} {I:GH} {M:List Blk}
theorem callB_ok (hE:EOK Y.P Y.E) (hF:FunsOK Y.P) (hpr:PrimOK Y) {f:Nat} (hc:CodeOK Y f) {g:Nat} {args:List EV} {v:EV} {us:List Value} (h:callB Y (E_code Y f) g args m=some (v,m')) (hu:VRs D args us) (hm:MS Y D m I M) :
  SpecE Y.P g us I M fun r I' M'=>∃ D',D.ext D' m.n∧VR D' v r∧MS Y D' m' I' M':=by
 unfold callB at h
 obtain⟨fn,hf,h1⟩:=opn_eq h
 obtain⟨c,hb,h2⟩:=opn_eq h1
 obtain⟨hle,h3⟩:=cnd_some h2
 obtain⟨fr,g1,g2⟩:=Tri.puts_ok args (Tri.bare 12) 0
 rw[g1] at h3
 have hfr:∀ t w,fr.get t=some w→args[t]?=some w:=fun t w hw=>by
  rcases g2 t w hw with ⟨_,h⟩ | ⟨_,h⟩
  ·simpa using h
  ·rw[bare_get] at h;cases h
 unfold callRk at h3
 split at h3
 ·rename_i fr' m1 hx
  unfold retE at h3
  obtain⟨vs,hr,h4⟩:=opn_eq h3
  cases h4
  exact call_fn hE hF hpr hc hf hb (Nat.le_of_ble_eq_true hle) hfr (.inl rfl) hx hr rfl hu hm
 ·rename_i fr' m1 hx
  unfold retE at h3
  obtain⟨vs,hr,h4⟩:=opn_eq h3
  cases h4
  exact call_fn hE hF hpr hc hf hb (Nat.le_of_ble_eq_true hle) hfr (.inr rfl) hx hr rfl hu hm
 ·cases h3
theorem callF_ok (hE:EOK Y.P Y.E) (hF:FunsOK Y.P) (hpr:PrimOK Y) {f:Nat} (hc:CodeOK Y f) {g:Nat} {args:List EV} {v:EV} {us:List Value} (h:callF Y (E_code Y f) g args m=some (v,m')) (hu:VRs D args us) (hm:MS Y D m I M) :
  Spec Y.P g us I M fun r I' M'=>∃ D',D.ext D' m.n∧VR D' v r∧MS Y D' m' I' M':=by
 unfold callF at h
 cases hp:Y.pr g args m with
 | none=>rw[hp] at h;exact .inl (callB_ok hE hF hpr hc h hu hm)
 | some p=>
  rw[hp] at h
  have h':some p=some (v,m'):=h
  cases h'
  exact hpr g args m v m' hp D I M us hu hm
theorem RelB.kept {X:Ctx} {β:Nat→Nat} {a:Act} {w W:World} {F:Fr} {C:Bx} {I0 I':GH} {M0 M':List Blk} (h:RelB X β a w F C I' M') (h1:X.h0=W) (h2:X.B=W.heap.size) (h3:X.I0=I0) (h4:X.foot=M0.map (·.num)):Kept I0 M0 W I' M' w where
 le:=by rw[←h3];exact h.le0
 newI b o hb:=by
  rcases h.new0 b o hb with h5 | h5
  ·exact .inl (by rw[←h3];exact h5)
  ·exact .inr (by rw[←h2];exact h5)
 newM x hx:=by
  rcases h.own x hx with h5 | h5
  ·rw[h4] at h5
   obtain⟨y,hy,e⟩:=List.mem_map.1 h5
   exact .inl ⟨y,hy,e⟩
  ·exact .inr (by rw[←h2];exact h5)
 old b hb hn:=by
  rw[←h1]
  refine h.old b (by rw[h2];exact hb) fun hm=>?_
  rw[h4] at hm
  obtain⟨y,hy,e⟩:=List.mem_map.1 hm
  exact hn y hy e
 out:=by rw[←h1];exact h.out
 sz:=by rw[←h2];exact h.sz
theorem putAllE_ok {R:Type}:∀ {ps:List Nat} {args:List EV} {fr0:Tri EV} {K:Tri EV→Option R} {r:R} {us:List Value} {tmps:Array Value},putAllE ps args fr0 K=some r→VRs D args us→(∀ t∈ps,t < tmps.size)→(∀ t v,fr0.get t=some v→VR D v (tmps.getD t undef)) →
  ∃ fr1,K fr1=some r∧us.length=ps.length∧((ps.zip us).foldl (fun (tmps:Array Value) (p:Nat×Value)=>tmps.setIfInBounds p.1 p.2) tmps).size=tmps.size ∧
   ∀ t v,fr1.get t=some v→VR D v (((ps.zip us).foldl (fun (tmps:Array Value) (p:Nat×Value)=>tmps.setIfInBounds p.1 p.2) tmps).getD t undef)
 | [],[],fr0,K,r,us,tmps,h,hu,hp,h0=>by
  have:=hu.unnil
  subst this
  exact⟨fr0,h,rfl,rfl,h0⟩
 | [],_::_,fr0,K,r,us,tmps,h,hu,hp,h0=>by simp[putAllE] at h
 | _::_,[],fr0,K,r,us,tmps,h,hu,hp,h0=>by simp[putAllE] at h
 | t0::ps,v0::args,fr0,K,r,us,tmps,h,hu,hp,h0=>by
  obtain⟨x,xs,g1,g2,rfl⟩:=hu.uncons
  simp only[putAllE] at h
  obtain⟨fr1,h1,h2⟩:=Tri.set_ok (some v0) fr0 t0
  rw[h1] at h
  have hlt:=hp t0 (by simp)
  obtain⟨fr2,h3,h4,h5,h6⟩:=putAllE_ok (tmps:=tmps.setIfInBounds t0 x) h g2 (fun t ht=>by simpa using hp t (by simp[ht])) fun t v ht=>by
   rw[Array.getD_eq_getD_getElem?,Array.getElem?_setIfInBounds]
   rcases h2 t v ht with ⟨rfl,e⟩ | ⟨hne,hg⟩
   ·have:=(some_inj' e)
    subst this
    simp only[if_true,hlt]
    exact g1
   ·rw[if_neg (Ne.symm hne),←Array.getD_eq_getD_getElem?]
    exact h0 t v hg
  exact⟨fr2,h3,by simp[h4],by simpa using h5,h6⟩
theorem EntR.loopE {E:Env} {a:Loc} {b:Bool} {n:Nat} {fr:Tri EV} {ps:List Nat} {asg body:Code} (h:EntR D E M a (.loop b n fr ps asg body)):∃ L,(⟨a.b,.loop L⟩:Blk)∈M∧LpR D b n fr ps asg body L:=by
 cases h with
 | loop L h1 h2=>exact⟨L,h1,h2⟩
theorem EntR.doneE {E:Env} {a:Loc} {c:Code} {n:Nat} {fr:Tri EV} {ps:List Nat} {asg body:Code} (h:EntR D E M a (.done c n fr ps asg body)):∃ L,(⟨a.b,.loop L⟩:Blk)∈M∧L.state=.done∧L.pending=some c:=by
 cases h with
 | done L h1 h2 h3=>exact⟨L,h1,h2,h3⟩
theorem MS.swap (h:MS Y D m I M) {t':Tri Ent} {l:Nat} {e0 e1:Ent} {al:Loc} {o o':Obj} {Mr:List Blk} (hg:m.t.get l=some e0) (ha:D l=some al) (hM:M.Perm (⟨al.b,o⟩::Mr)) (ht:∀ id e,t'.get id=some e→(id=l∧some e1=some e)∨(id≠l∧m.t.get id=some e))
  (he:EntR D Y.E (⟨al.b,o'⟩::Mr) al e1):MS Y D ⟨t',m.n⟩ I (⟨al.b,o'⟩::Mr):=by
 refine h.step (fun id e hi=>(ht id e hi).imp (fun q=>⟨q.1,some_inj' q.2⟩) fun q=>q) ha (Nm.le_refl D) (fun _ _=>rfl) h.dom (fun _ _ h=>h) (fun id e a' hne hi hai x hx hn=>?_) he fun id e a' hne hi hai hb=>hne (h.inj _ _ _ _ _ _ hi hg hai ha hb)
 rcases List.mem_cons.1 (hM.mem_iff.1 hx) with rfl | hx
 ·exact(hne (h.inj _ _ _ _ _ _ hi hg hai ha hn.symm)).elim
 ·exact List.mem_cons_of_mem _ hx
end
section
variable {Y:RK} {D:Nm} {m m':Me} {I:GH} {M:List Blk}
theorem callY_ok {f:Nat} (hc:CodeOK Y f) {l:Nat} {args:List EV} {v:EV} {us:List Value} {al:Loc} (h:callY (E_code Y f) l args m=some (v,m')) (hl:D l=some al) (hu:VRs D args us) (hm:MS Y D m I M) :
  SpecY Y.P al.b us I M fun r I' M'=>∃ D',D.ext D' m.n∧VR D' v r∧MS Y D' m' I' M':=by
 unfold callY at h
 split at h
 ·rename_i n fr0 ps asg body hg
  obtain⟨L,hM,hL⟩:=(hm.ent _ _ _ hg hl).loopE
  intro W hW
  have hrec:W.heap[al.b]?=some (.loop L):=hW.m _ hM
  have hst:L.state=.ready:=hL.st
  have hops:∀ t∈ps,t < L.tmps.size:=fun t ht=>by rw[hL.sz];exact hL.op t (by rw[hL.ps];exact ht)
  obtain⟨fr1,h1,hlen,hsz,hfr1⟩:=putAllE_ok (tmps:=L.tmps) h hu hops hL.fr
  have hps:L.params.size=ps.length:=by rw[←hL.ps];simp
  refine⟨_,_,_,_,run_yield hrec (by rw[hps];simpa using hlen),?_⟩
  have htm:(L.params.zip us.toArray).foldl (fun tmps (x:Nat×Value)=>match x with | (t,a)=>tmps.setIfInBounds t a) L.tmps=(ps.zip us).foldl (fun (tmps:Array Value) (p:Nat×Value)=>tmps.setIfInBounds p.1 p.2) L.tmps:=by
   rw[←Array.foldl_toList,←hL.ps]
   simp
  rw[htm]
  generalize hT:(ps.zip us).foldl (fun (tmps:Array Value) (p:Nat×Value)=>tmps.setIfInBounds p.1 p.2) L.tmps=T at hfr1 hsz
  rw[hL.asg,hL.body]
  have hoa:okC n asg=true:=by rw[←hL.asg];exact hL.oa
  have hob:okC n body=true:=by rw[←hL.body];exact hL.ob
  refine roundIn_of_wpIn (F:=Fence.wide) (n:=0) trivial ?_
  let X1:Ctx:=RkX Y n W.heap.size W I (M.map (·.num)) (some al.b)
  have hrel:RelB X1 (fun _=>0) { tmps:=T,defers:=[] } W (fun t=>.val (T.getD t undef)) (fun _=>none) I M:={
   size:=hsz.trans hL.sz
   defers:=⟨[],rfl,List.nodup_nil,fun r hr=>by cases hr⟩
   holds:=hW
   fr:=fun t=>rfl
   bx:=fun s cs hs=>by cases hs
   inj:=fun s s' h1=>by simp at h1
   le0:=fun b o hb=>hb
   new0:=fun b o hb=>.inl hb
   own:=fun x hx=>.inl (List.mem_map.2 ⟨x,hx,rfl⟩)
   old:=fun b hb hf=>rfl
   out:=.refl _
   sz:=Nat.le_refl _ }
  unfold begR at h1
  split at h1
  ·rename_i fr2 m2 hasg
   have hs1:St X1 Y.G Y.pr D m.n fr1 m { tmps:=T,defers:=[] } W:=⟨D,_,_,I,M,⟨_,hrel⟩,fun t v hv=>.val (hfr1 t v hv),hm,Nm.ext_refl,Nat.le_refl _⟩
   refine wpIn_mono (hc _ _ _ _ _ _ _ _ hasg hoa _ _ _ _ _ D m.n _ _ (fun e=>by cases e) hs1) ?_
   rintro e a1 w1 ⟨rfl,D2,F2,C2,I2,M2,⟨β2,hR2⟩,hF2,hm2,hx2,hn2⟩
   have hl2:D2 l=some al:=by rw[hx2 l (hm.dom _ _ hl)];exact hl
   have h2:begQ (E_code Y f) l n body (m2.t.get l) fr2 m2=some (v,m'):=h1
   unfold begQ at h2
   split at h2
   ·rename_i n' fr0' ps' asg' body' hg2
    obtain⟨L2,hM2,hL2⟩:=(hm2.ent _ _ _ hg2 hl2).loopE
    obtain⟨pre,post,hsp⟩:=List.append_of_mem hM2
    have hperm:M2.Perm (⟨al.b,.loop L2⟩::(pre++post)):=by rw[hsp];exact List.perm_middle
    have hh1:w1.heap[al.b]?=some (.loop L2):=hR2.holds.m _ hM2
    have hlt1:=(Array.getElem?_eq_some_iff.1 hh1).1
    refine⟨_,run_beginRound hh1 hL2.st,?_⟩
    obtain⟨t3,h3,h4⟩:=Tri.set_ok (some (Ent.loop true n' fr0' ps' asg' body')) m2.t l
    rw[h3] at h2
    have hR3:RelB X1 β2 a1 (w1.putObj al.b (.loop { L2 with state:=.busy })) F2 C2 I2 (⟨al.b,.loop { L2 with state:=.busy }⟩::(pre++post)):=
     (hR2.wk (.perm hperm .refl)).swap (by simp) (World.putObj_heap_same hlt1) (fun b hb=>World.putObj_heap_other hb) (putObj_same _ _ _)
    have hm3:MS Y D2 ⟨t3,m2.n⟩ I2 (⟨al.b,.loop { L2 with state:=.busy }⟩::(pre++post)):=hm2.swap hg2 hl2 hperm h4 (.loop { L2 with state:=.busy } (by simp) ⟨rfl,hL2.pd,hL2.sz,hL2.fr,hL2.ps,hL2.asg,hL2.body,hL2.oa,hL2.ob,hL2.op⟩)
    unfold endRk at h2
    obtain⟨⟨ex,fr4,m4⟩,hbody,h5⟩:=opn_eq h2
    have hs3:St X1 Y.G Y.pr D m.n fr2 ⟨t3,m2.n⟩ a1 (w1.putObj al.b (.loop { L2 with state:=.busy })):=⟨D2,F2,C2,I2,_,⟨β2,hR3⟩,hF2,hm3,hx2,hn2⟩
    refine wpIn_mono (hc _ _ _ _ _ _ _ _ hbody hob _ _ _ _ _ D m.n _ _ (fun e=>by cases e) hs3) ?_
    rintro e a4 w4 ⟨rfl,D4,F4,C4,I4,M4,⟨β4,hR4⟩,hF4,hm4,hx4,hn4⟩
    have hl4:D4 l=some al:=by rw[hx4 l (hm.dom _ _ hl)];exact hl
    have h6:endQ l (m4.t.get l) (codeOf ex) m4=some (v,m'):=h5
    unfold endQ at h6
    split at h6
    ·rename_i n4 fr04 ps4 asg4 body4 hg4
     obtain⟨L4,hM4,hL4⟩:=(hm4.ent _ _ _ hg4 hl4).loopE
     obtain⟨pre4,post4,hsp4⟩:=List.append_of_mem hM4
     have hperm4:M4.Perm (⟨al.b,.loop L4⟩::(pre4++post4)):=by rw[hsp4];exact List.perm_middle
     have hh4:w4.heap[al.b]?=some (.loop L4):=hR4.holds.m _ hM4
     have hlt4:=(Array.getElem?_eq_some_iff.1 hh4).1
     obtain⟨t5,h7,h8⟩:=Tri.set_ok (some (opn (codeOf ex) (Ent.loop false n4 fr04 ps4 asg4 body4) fun c=>Ent.done c n4 fr04 ps4 asg4 body4)) m4.t l
     rw[h7] at h6
     cases h6
     have fin:∀ jump,codeOf ex=jump→∃ v' w',(Instr.endRound al.b jump).run Y.P w4=.ok v' w'∧∃ r I' M',Ending.returned v'=.returned r∧(∃ D',D.ext D' m.n∧VR D' (.b (codeOf ex).isNone) r∧MS Y D' ⟨t5,m4.n⟩ I' M')∧Holds I' M' w'∧Kept I M W I' M' w':=by
      rintro jump hj
      let L5:Loop:={ L4 with state:=if jump.isNone then .ready else .done,pending:=jump }
      have hR5:RelB X1 β4 a4 (w4.putObj al.b (.loop L5)) F4 C4 I4 (⟨al.b,.loop L5⟩::(pre4++post4)):=
       (hR4.wk (.perm hperm4 .refl)).swap (by simp) (World.putObj_heap_same hlt4) (fun b hb=>World.putObj_heap_other hb) (putObj_same _ _ _)
      refine⟨_,_,run_endRound jump hh4,_,I4,_,rfl,⟨D4,hx4,?_,hm4.swap hg4 hl4 hperm4 h8 ?_⟩,hR5.holds,hR5.kept rfl rfl rfl rfl⟩
      ·rw[hj]
       simp[VR]
      ·rw[hj]
       cases jump with
       | none=>exact .loop L5 (by simp) ⟨rfl,rfl,hL4.sz,hL4.fr,hL4.ps,hL4.asg,hL4.body,hL4.oa,hL4.ob,hL4.op⟩
       | some c=>exact .done L5 (by simp) rfl rfl
     cases ex with
     | normal=>exact fin none rfl
     | exit id=>exact fin _ rfl
     | goto t=>exact fin _ rfl
     | ret=>exact fin _ rfl
    ·cases h6
   ·cases h2
  ·cases h1
 ·cases h
end
section
variable {Y:RK}
theorem call_ok (hE:EOK Y.P Y.E) (hF:FunsOK Y.P) (hpr:PrimOK Y) {f:Nat} (hc:CodeOK Y f):CallOK Y (E_call Y (E_code Y f)):=fun fv l m v m' h D I M u us hfv hus hm=>by
 unfold E_call at h
 split at h
 ·rename_i g fs cs
  simp only[VR] at hfv
  obtain⟨vs,ws,h1,h2,rfl⟩:=hfv
  refine .inl ⟨g,_,_,rfl,?_⟩
  have:=callF_ok hE hF hpr hc h (h1.append (hus.append h2)) hm
  simpa using this
 ·rename_i q
  simp only[VR] at hfv
  obtain⟨al,h1,rfl⟩:=hfv
  exact .inr ⟨al.b,rfl,callY_ok hc h h1 hus hm⟩
 ·cases h
theorem St.world {X:Ctx} {G:GT} {pr:PR} {D0:Nm} {n0:Nat} {fr:Tri EV} {m:Me} {a:Act} {w:World} (h:St X G pr D0 n0 fr m a w):∃ D F β,(∀ t,SVok β (F t) (a.tmps.getD t undef))∧FR D F fr:=by
 obtain⟨D,F,C,I,M,⟨β,hR⟩,hF,_⟩:=h
 exact⟨D,F,β,hR.fr,hF⟩
theorem St.eval {X:Ctx} {G:GT} {pr:PR} {D0:Nm} {n0:Nat} {fr:Tri EV} {m:Me} {a:Act} {w:World} (h:St X G pr D0 n0 fr m a w) {x:Operand} {b:Bool} (hx:rdO fr x=some (.b b)):a.eval x=.bool b:=by
 obtain⟨D,F,β,h1,h2⟩:=h.world
 obtain⟨u,e1,g1⟩:=(h2.op [x]).ev (x:=x) (by simp) hx
 rw[eval_of_ev h1 e1,g1.bool]
theorem SvE.ok {D:Nm} {β:Nat→Nat} {x:SV} {v:EV} {u:Value} (h:SvE D x v) (hx:SVok β x u):VR D v u:=by
 rcases h with ⟨y,rfl,h⟩ | ⟨q,rfl,rfl⟩
 ·have:u=y:=hx
  subst this
  exact h
 ·have:u=.bool q:=hx
  subst this
  simp[VR]
theorem range_ok (hE:EOK Y.P Y.E) (hF:FunsOK Y.P) (hpr:PrimOK Y) {f:Nat} (hc:CodeOK Y f) {top:Bool} {n:Nat} {x:Operand} {ps:Array Tmp} {asg body:Code} {fr fr':Tri EV} {m m':Me} {ex:Ex} (h:c_range Y (E_code Y f) top n (rdO fr x) ps.toList asg body fr m=some (ex,fr',m'))
  (hok:okC n (.rangeFunc x ps asg body)=true) {B:Nat} {h0:World} {I0:GH} {foot:List Nat} {ro:Option Nat} {D0:Nm} {n0:Nat} {a:Act} {w:World} (hro:top=true→ro=none) (hs:St (RkX Y n B h0 I0 foot ro) Y.G Y.pr D0 n0 fr m a w) :
  (Code.rangeFunc x ps asg body).wpIn (fen (RkX Y n B h0 I0 foot ro)) 0 Y.P (fun e a w=>e=toExit ex∧St (RkX Y n B h0 I0 foot ro) Y.G Y.pr D0 n0 fr' m' a w) a w:=by
 unfold c_range at h
 split at h
 ·rename_i g cap hx
  have hro':=hro rfl
  subst hro'
  obtain⟨D,F,C,I,M,⟨β,hR⟩,hFR,hm,hx0,hn0⟩:=hs
  obtain⟨u,e1,g1⟩:=(hFR.op [x]).ev (x:=x) (by simp) hx
  simp only[VR] at g1
  obtain⟨vs,ws,h1,h2,rfl⟩:=g1
  have hvs:=h1.unnil
  subst hvs
  simp only[okC,Bool.and_eq_true] at hok
  obtain⟨t1,h3,h4⟩:=newE_ok h
  refine wpIn_rangeFunc fun fn _=>?_
  let rc:Loop:={ state:=.ready,pending:=none,fn:=fn,tmps:=a.tmps,params:=ps,assign:=asg,body:=body,defers:=w.heap.size }
  let l:=w.heap.size+1
  let w2:World:=(w.alloc (.deferred (some []))).alloc (.loop rc)
  have hRm:=hR.alloc_mark.alloc_blk (.loop rc)
  have hl:(w.alloc (.deferred (some []))).heap.size=l:=by simp[l]
  rw[hl] at hRm
  have hfrl:∀ q∈M,q.num≠l:=fun q hq e=>by
   have:=hR.holds.lt hq
   omega
  have hms1:MS Y (D.set m.n ⟨l,0,0⟩) ⟨t1,m.n+1⟩ I (⟨l,.loop rc⟩::M):=hm.new (a:=⟨l,0,0⟩) h3 hfrl (.loop rc (by simp) ⟨rfl,rfl,hR.size,fun t v ht=>((hFR t v ht).ok (hR.fr t)).mono (Nm.le_set _ hm.fresh),rfl,rfl,rfl,hok.1,hok.2.1,
   fun t ht=>Nat.le_of_ble_eq_true (List.all_eq_true.1 hok.2.2 t ht)⟩)
  unfold c_left at h4
  obtain⟨⟨v,m2⟩,hcall,h5⟩:=opn_eq h4
  have hle1:=Nm.le_set (D:=D) ⟨l,0,0⟩ hm.fresh
  have hargs:VRs (D.set m.n ⟨l,0,0⟩) (.y m.n::cap) (.func (.yield l) #[] #[]::ws):=.cons (by simp only[VR];exact⟨_,Nm.set_self _ _ _,rfl⟩) (h2.mono hle1)
  obtain⟨hent,hcalls⟩:=callB_ok hE hF hpr hc hcall hargs hms1
  have hcw:=hcalls w2 hRm.holds
  have e2:=eval_of_ev hR.fr e1
  refine⟨l,[markOf w.heap.size],w2,{ target:=.fn (.func g) ws.toArray,args:=#[.func (.yield l) #[] #[]] },w2,g,(.func (.yield l) #[] #[]::ws).toArray,w2,?_,?_,fun _ _=>trivial,?_,(fun h=>by cases h),?_⟩
  ·show (Instr.enterLoop fn a.tmps ps asg body none).run Y.P w=_
   exact run_enterLoop_outer fn a.tmps ps asg body
  ·show (Deferred.ofValue (a.eval x) (#[Operand.const (.func (.yield l) #[] #[])].map a.eval)).run Y.P w2=_
   rw[e2]
   simp[Deferred.ofValue,Act.eval]
  ·simp only[invoke]
   rw[show #[Value.func (.yield l) #[] #[]]++ws.toArray=(.func (.yield l) #[] #[]::ws).toArray from by apply Array.ext';simp]
   exact hent _ _
  ·refine(calls_fen (X:=RkX Y n B h0 I0 foot none) hcw _).mono ?_
   rintro e w3 ⟨r,I3,M3,rfl,⟨D3,hx3,hv3,hm3⟩,hH3,hK3⟩
   have hr3:=hRm.after (Mr:=[]) (by simp) hH3 hK3
   rw[List.append_nil] at hr3
   have hl3:D3 m.n=some ⟨l,0,0⟩:=by rw[hx3 m.n (Nat.lt_succ_self _)];exact Nm.set_self _ _ _
   have hle3:=hms1.le hx3
   have hFR3:FR D3 F fr:=fun t v ht=>(hFR t v ht).mono (Nm.le_trans hle1 hle3)
   have hext:D0.ext D3 n0:=fun i hi=>by
    have hi1:i < m.n+1:=by
     have:i < m.n:=by omega
     omega
    rw[hx3 i hi1]
    show (if i=m.n then _ else D i)=D0 i
    rw[if_neg (by omega)]
    exact hx0 i hi
   have fin:∀ (L:Loop) (t4:Tri Ent) (j:Option Code),(⟨l,.loop L⟩:Blk)∈M3→L.state≠.busy→L.pending=j→(∃ e0,m2.t.get m.n=some e0)→(∀ id e,t4.get id=some e→(id=m.n∧(none:Option Ent)=some e)∨(id≠m.n∧m2.t.get id=some e))→n0≤m2.n →
     ∃ w4,(Instr.endLoop l).run Y.P w3=.ok j w4∧St (RkX Y n B h0 I0 foot none) Y.G Y.pr D0 n0 fr ⟨t4,m2.n⟩ { a with defers:=[markOf w.heap.size]++a.defers } w4:=by
    rintro L t4 j hL hb hp ⟨e0,he0⟩ ht4 hn4
    have hh3:w3.heap[l]?=some (.loop L):=hH3.m _ hL
    obtain⟨pre,post,hsp⟩:=List.append_of_mem hL
    have hperm:M3.Perm (⟨l,.loop L⟩::(pre++post)):=by rw[hsp];exact List.perm_middle
    have hsub:∀ i en,t4.get i=some en→i≠m.n∧m2.t.get i=some en:=fun i en hi=>by
     rcases ht4 i en hi with ⟨_,h8⟩ | h8
     ·cases h8
     ·exact h8
    have hR4:=(hr3.wk (.perm hperm .refl)).dropM (o':=.loop { L with state:=.exhausted })
    refine⟨_,(by rw[←hp];exact run_endLoop hh3 hb),D3,F,C,I3,pre++post,⟨β,hR4⟩,hFR3,⟨fun i en b hi hb'=>?_,fun i i' en en' b b' hi hi'=>hm3.inj i i' en en' b b' (hsub i en hi).2 (hsub i' en' hi').2,hm3.dom,hm3.glo⟩,hext,hn4⟩
    refine(hm3.ent i en b (hsub i en hi).2 hb').mono (Nm.le_refl D3) fun q hq hn=>?_
    rcases List.mem_cons.1 (hperm.mem_iff.1 hq) with rfl | hq
    ·exact((hsub i en hi).1 (hm3.inj _ _ _ _ _ _ (hsub i en hi).2 he0 hb' hl3 hn.symm)).elim
    ·exact hq
   have hn2:∀ {e0:Ent},m2.t.get m.n=some e0→n0≤m2.n:=fun _=>by
    have:=hm3.dom _ _ hl3
    omega
   have h6:(match m2.t.get m.n with
    | some (.loop false ..)=>m2.t.setK none m.n fun t=>some (Ex.normal,fr,(⟨t,m2.n⟩:Me))
    | some (.done c ..)=>opn (exOf c) none fun ex=>m2.t.setK none m.n fun t=>some (ex,fr,⟨t,m2.n⟩)
    | _=>none)=some (ex,fr',m'):=h5
   split at h6
   ·rename_i n3 fr3 ps3 asg3 body3 hg3
    obtain⟨L,hL,hLp⟩:=(hm3.ent _ _ _ hg3 hl3).loopE
    obtain⟨t4,h7,h8⟩:=Tri.set_ok (none:Option Ent) m2.t m.n
    rw[h7] at h6
    cases h6
    obtain⟨w4,h9,h10⟩:=fin L t4 none hL (by rw[hLp.st];simp) hLp.pd ⟨_,hg3⟩ h8 (hn2 hg3)
    exact⟨none,w4,h9,rfl,h10⟩
   ·rename_i c n3 fr3 ps3 asg3 body3 hg3
    obtain⟨L,hL,hst,hpd⟩:=(hm3.ent _ _ _ hg3 hl3).doneE
    obtain⟨ex',hex,h6⟩:=opn_eq h6
    obtain⟨t4,h7,h8⟩:=Tri.set_ok (none:Option Ent) m2.t m.n
    rw[h7] at h6
    cases h6
    obtain⟨w4,h9,h10⟩:=fin L t4 (some c) hL (by rw[hst];simp) hpd ⟨_,hg3⟩ h8 (hn2 hg3)
    refine⟨some c,w4,h9,?_⟩
    unfold exOf at hex
    split at hex
    ·cases hex;exact wpIn_exit ⟨rfl,h10⟩
    ·cases hex;exact wpIn_goto ⟨rfl,h10⟩
    ·cases hex;exact wpIn_ret ⟨rfl,h10⟩
    ·cases hex
   ·cases h6
 ·cases h
end
section
variable {Y:RK}
theorem toExit_then {next:Act→World→Prop} {Q:Exit→Act→World→Prop} {ex:Ex} {a:Act} {w:World} (h:Q (toExit ex) a w) (hne:ex≠.normal):Exit.then next Q (toExit ex) a w:=by
 cases ex<;>first | exact(hne rfl).elim | exact h
theorem code_ok (hE:EOK Y.P Y.E) (hF:FunsOK Y.P) (hpr:PrimOK Y) (hmx:Y.P.follows .mixedOrders=true):∀ f k,k≤f→CodeOK Y k:=by
 intro f
 induction f with
 | zero=>
  intro k hk top n c fr m ex fr' m' h
  have:k=0:=by omega
  subst this
  cases h
 | succ f ih=>
  intro k hk
  by_cases hkf:k≤f
  ·exact ih k hkf
  have hk1:k=f+1:=by omega
  subst hk1
  have hc:=ih f (Nat.le_refl _)
  have hcall:=call_ok hE hF hpr hc
  intro top n c fr m ex fr' m' h hok B h0 I0 foot ro D0 n0 a w hro hs
  have h1:E_codeF Y f (E_code Y f) top n c fr m=some (ex,fr',m'):=h
  have hesc:=@RkX.esc Y n B h0 I0 foot ro
  unfold E_codeF at h1
  cases c with
  | skip=>cases h1;exact wpIn_skip ⟨rfl,hs⟩
  | label l=>cases h1;exact wpIn_label ⟨rfl,hs⟩
  | ret=>cases h1;exact wpIn_ret ⟨rfl,hs⟩
  | exit id=>cases h1;exact wpIn_exit ⟨rfl,hs⟩
  | goto l=>cases h1;exact wpIn_goto ⟨rfl,hs⟩
  | refuse s=>cases h1
  | seq x y=>
   simp only[okC,Bool.and_eq_true] at hok
   simp only[c_then] at h1
   split at h1
   ·rename_i fr1 m1 hx
    refine wpIn_seq (wpIn_mono (hc _ _ _ _ _ _ _ _ hx hok.1 B h0 I0 foot ro D0 n0 a w hro hs) ?_)
    rintro e a1 w1 ⟨rfl,hs1⟩
    exact hc _ _ _ _ _ _ _ _ h1 hok.2 B h0 I0 foot ro D0 n0 a1 w1 hro hs1
   ·rename_i hno
    refine wpIn_seq (wpIn_mono (hc _ _ _ _ _ _ _ _ h1 hok.1 B h0 I0 foot ro D0 n0 a w hro hs) ?_)
    rintro e a1 w1 ⟨rfl,hs1⟩
    exact toExit_then ⟨rfl,hs1⟩ fun e=>hno fr' m' (by rw[h1,e])
  | block id c=>
   simp only[okC] at hok
   simp only[c_block] at h1
   split at h1
   ·rename_i j fr1 m1 hx
    refine wpIn_block (wpIn_mono (hc _ _ _ _ _ _ _ _ hx hok B h0 I0 foot ro D0 n0 a w hro hs) ?_)
    rintro e a1 w1 ⟨rfl,hs1⟩
    simp only[toExit,Exit.inBlock]
    by_cases hj:j=id
    ·subst hj
     rw[beq_self'] at h1
     have h2:some (Ex.normal,fr1,m1)=some (ex,fr',m'):=h1
     cases h2
     rw[if_pos rfl]
     exact⟨rfl,hs1⟩
    ·rw[beq_ne hj] at h1
     have h2:some (Ex.exit j,fr1,m1)=some (ex,fr',m'):=h1
     cases h2
     rw[if_neg hj]
     exact⟨rfl,hs1⟩
   ·rename_i hno
    refine wpIn_block (wpIn_mono (hc _ _ _ _ _ _ _ _ h1 hok B h0 I0 foot ro D0 n0 a w hro hs) ?_)
    rintro e a1 w1 ⟨rfl,hs1⟩
    cases ex with
    | exit j=>exact(hno j fr' m' h1).elim
    | normal=>exact⟨rfl,hs1⟩
    | goto l=>exact⟨rfl,hs1⟩
    | ret=>exact⟨rfl,hs1⟩
  | cond x c1 c2=>
   simp only[okC,Bool.and_eq_true] at hok
   simp only[c_cond] at h1
   split at h1
   ·rename_i b hx
    refine wpIn_cond (hs.eval hx) ?_
    cases b with
    | true=>exact hc _ _ _ _ _ _ _ _ h1 hok.1 B h0 I0 foot ro D0 n0 a w hro hs
    | false=>exact hc _ _ _ _ _ _ _ _ h1 hok.2 B h0 I0 foot ro D0 n0 a w hro hs
   ·cases h1
  | loop c=>
   simp only[okC] at hok
   let J (k:Nat) (a:Act) (w:World):Prop:=k≤f+1∧∃ fr1 m1,E_code Y k top n (.loop c) fr1 m1=some (ex,fr',m')∧St (RkX Y n B h0 I0 foot ro) Y.G Y.pr D0 n0 fr1 m1 a w
   refine wpIn_loop_rel J (m:=f+1) ⟨Nat.le_refl _,fr,m,h,hs⟩ ?_
   rintro k a1 w1 ⟨hk,fr1,m1,h2,hs1⟩
   cases k with
   | zero=>cases h2
   | succ k=>
    have hck:=ih k (by omega)
    have h3:c_then (E_code Y k top n c fr1 m1) (E_code Y k top n (.loop c))=some (ex,fr',m'):=h2
    simp only[c_then] at h3
    split at h3
    ·rename_i fr2 m2 hx
     refine wpIn_mono (hck _ _ _ _ _ _ _ _ hx hok B h0 I0 foot ro D0 n0 a1 w1 hro hs1) ?_
     rintro e a2 w2 ⟨rfl,hs2⟩
     exact⟨k,Nat.lt_succ_self k,by omega,fr2,m2,h3,hs2⟩
    ·rename_i hno
     refine wpIn_mono (hck _ _ _ _ _ _ _ _ h3 hok B h0 I0 foot ro D0 n0 a1 w1 hro hs1) ?_
     rintro e a2 w2 ⟨rfl,hs2⟩
     exact toExit_then ⟨rfl,hs2⟩ fun e=>hno fr' m' (by rw[h3,e])
  | region id ops dr=>
   cases dr with
   | false=>
    simp only[c_ops] at h1
    obtain⟨⟨fr1,m1⟩,hx,h2⟩:=opn_eq h1
    cases h2
    refine wpIn_region ?_
    have:=E_ops_ok (X:=RkX Y n B h0 I0 foot ro) (G:=Y.G) (pr:=Y.pr) (D0:=D0) (n0:=n0) hE hesc hcall ops (fun e a w=>e=toExit .normal∧St (RkX Y n B h0 I0 foot ro) Y.G Y.pr D0 n0 fr1 m1 a w) (fun a w h=>⟨rfl,h⟩) ops.toList 0 (by simp) (opsOk_spec hok) hx hs
    have h9:wpOpsIn (fen (RkX Y n B h0 I0 foot ro)) 0 Y.P ops (fun e a w=>e=toExit .normal∧St (RkX Y n B h0 I0 foot ro) Y.G Y.pr D0 n0 fr1 m1 a w) (List.range' 0 ops.toList.length) a w:=this
    rw[List.range_eq_range']
    simpa using h9
   | true=>
    simp only[c_ops] at h1
    obtain⟨⟨fr1,m1⟩,hx,h2⟩:=opn_eq h1
    cases h2
    exact E_drawn_ok (X:=RkX Y n B h0 I0 foot ro) (G:=Y.G) (pr:=Y.pr) (D0:=D0) (n0:=n0) hE hesc hcall hmx hok hx (fun a w h=>⟨rfl,h⟩) hs
  | scope c=>
   simp only[okC] at hok
   have step:∀ (k:Nat) (x:Code) (fr1:Tri EV) (m1:Me) (a1:Act) (w1:World),okC n x=true→E_scope (E_code Y f) top n c (k+1) x fr1 m1=some (ex,fr',m')→St (RkX Y n B h0 I0 foot ro) Y.G Y.pr D0 n0 fr1 m1 a1 w1 →
     x.wpIn (fen (RkX Y n B h0 I0 foot ro)) 0 Y.P (fun e a' w'=>match e with
      | .goto l=>∃ rest fr2 m2,findLabel c l=some rest∧E_scope (E_code Y f) top n c k rest fr2 m2=some (ex,fr',m')∧St (RkX Y n B h0 I0 foot ro) Y.G Y.pr D0 n0 fr2 m2 a' w'
      | e=>e=toExit ex∧St (RkX Y n B h0 I0 foot ro) Y.G Y.pr D0 n0 fr' m' a' w') a1 w1:=fun k x fr1 m1 a1 w1 hx h2 hs1=>by
    have h3:(match E_code Y f top n x fr1 m1 with
     | some (.goto l,fr,m)=>opn (findLabel c l) none fun rest=>E_scope (E_code Y f) top n c k rest fr m
     | r=>r)=some (ex,fr',m'):=h2
    split at h3
    ·rename_i l fr2 m2 he
     obtain⟨rest,hrest,h4⟩:=opn_eq h3
     refine wpIn_mono (hc _ _ _ _ _ _ _ _ he hx B h0 I0 foot ro D0 n0 a1 w1 hro hs1) ?_
     rintro e a2 w2 ⟨rfl,hs2⟩
     exact⟨rest,fr2,m2,hrest,h4,hs2⟩
    ·rename_i hno
     refine wpIn_mono (hc _ _ _ _ _ _ _ _ h3 hx B h0 I0 foot ro D0 n0 a1 w1 hro hs1) ?_
     rintro e a2 w2 ⟨rfl,hs2⟩
     cases ex with
     | goto l=>exact(hno l fr' m' h3).elim
     | exit j=>exact⟨rfl,hs2⟩
     | normal=>exact⟨rfl,hs2⟩
     | ret=>exact⟨rfl,hs2⟩
   let J (l k:Nat) (a:Act) (w:World):Prop:=∃ rest fr1 m1,findLabel c l=some rest∧E_scope (E_code Y f) top n c k rest fr1 m1=some (ex,fr',m')∧St (RkX Y n B h0 I0 foot ro) Y.G Y.pr D0 n0 fr1 m1 a w
   cases f with
   | zero=>cases h1
   | succ f'=>
    refine wpIn_scope_rel J (wpIn_mono (step f' c fr m a w hok h1 hs) ?_) ?_
    ·intro e a1 w1 he
     cases e with
     | goto l=>exact⟨f',he⟩
     | _=>exact he
    ·rintro l k a1 w1 ⟨rest,fr1,m1,hrest,h2,hs1⟩
     cases k with
     | zero=>cases h2
     | succ k=>
      refine⟨rest,hrest,wpIn_mono (step k rest fr1 m1 a1 w1 (okC_label hok hrest) h2 hs1) ?_⟩
      intro e a2 w2 he
      cases e with
      | goto l'=>exact⟨k,Nat.lt_succ_self k,he⟩
      | _=>exact he
  | rangeFunc x ps asg body=>exact range_ok hE hF hpr hc h1 hok hro hs
theorem reckon (hE:EOK Y.P Y.E) (hF:FunsOK Y.P) (hpr:PrimOK Y) (hmx:Y.P.follows .mixedOrders=true) {f g:Nat} {args:List EV} {m m':Me} {v:EV} (h:callF Y (E_code Y f) g args m=some (v,m')) {D:Nm} {I:GH} {M:List Blk} {us:List Value} (hu:VRs D args us) (hm:MS Y D m I M) :
  Spec Y.P g us I M fun r I' M'=>∃ D',D.ext D' m.n∧VR D' v r∧MS Y D' m' I' M':=
 callF_ok hE hF hpr (code_ok hE hF hpr hmx f f (Nat.le_refl _)) h hu hm
end
theorem frame_end {I I':GH} {M M':List Blk} {w w':World} (h:Holds I M w) (h1:Holds I' M' w') (h2:Kept I [] w I' M' w') :
  Holds I' (M'++M) w'∧Kept I M w I' (M'++M) w'∧∀ x∈M',∀ y∈M,x.num≠y.num:=by
 have hlt:∀ x∈M,x.num < w.heap.size:=fun x hx=>(Array.getElem?_eq_some_iff.1 (h.m x hx)).1
 have hge:∀ x∈M',w.heap.size≤x.num:=fun x hx=>by
  rcases h2.newM x hx with ⟨y,hy,_⟩ | h
  ·cases hy
  ·exact h
 have hne:∀ x∈M',∀ y∈M,x.num≠y.num:=fun x hx y hy e=>by
  have:=hlt y hy
  have:=hge x hx
  omega
 refine⟨⟨h1.i,fun x hx=>?_,fun x hx=>?_,?_⟩,⟨h2.le,h2.newI,fun x hx=>?_,fun b hb _=>h2.old b hb (by simp),h2.out,h2.sz⟩,hne⟩
 ·rcases List.mem_append.1 hx with hx | hx
  ·exact h1.m x hx
  ·rw[h2.old x.num (hlt x hx) (by simp)]
   exact h.m x hx
 ·rcases List.mem_append.1 hx with hx | hx
  ·exact h1.d x hx
  ·cases he:I' x.num with
   | none=>rfl
   | some o=>
    rcases h2.newI _ _ he with h3 | h3
    ·rw[h.d x hx] at h3
     cases h3
    ·have:=hlt x hx
     omega
 ·rw[List.map_append,List.nodup_append]
  refine⟨h1.nd,h.nd,fun a ha b hb e=>?_⟩
  obtain⟨x,hx,rfl⟩:=List.mem_map.1 ha
  obtain⟨y,hy,rfl⟩:=List.mem_map.1 hb
  exact hne x hx y hy e
 ·rcases List.mem_append.1 hx with hx | hx
  ·exact .inr (hge x hx)
  ·exact .inl ⟨x,hx,rfl⟩
theorem Spec.frame {P:Program} {f:Nat} {args:List Value} {I:GH} {M:List Blk} {Q:Value→GH→List Blk→Prop} (h:Spec P f args I [] Q):Spec P f args I M fun r I' M''=>∃ M',M''=M'++M∧(∀ x∈M',∀ y∈M,x.num≠y.num)∧(∀ b o,I b=some o→I' b=some o)∧Q r I' M':=by
 have h0:∀ {w:World},Holds I M w→Holds I [] w:=fun hw=>⟨hw.i,by simp,by simp,by simp⟩
 rcases h with ⟨h1,h2⟩ | h
 ·refine .inl ⟨h1,fun w hw=>?_⟩
  refine(h2 w (h0 hw)).mono ?_
  rintro e w' ⟨v,I',M',e1,e2,e3,e4⟩
  obtain⟨g1,g2,g3⟩:=frame_end hw e3 e4
  exact⟨v,I',M'++M,e1,⟨M',rfl,g3,e4.le,e2⟩,g1,g2⟩
 ·refine .inr fun w hw=>?_
  obtain⟨v,w',I',M',e1,e2,e3,e4⟩:=h w (h0 hw)
  obtain⟨g1,g2,g3⟩:=frame_end hw e3 e4
  exact⟨v,w',I',M'++M,e1,⟨M',rfl,g3,e4.le,e2⟩,g1,g2⟩
mutual
def shV (k:Nat):EV→EV
 | .p id off=>.p (Nat.add id k) off
 | .sl id off n c=>.sl (Nat.add id k) off n c
 | .sx id off e n=>.sx (Nat.add id k) off e n
 | .m id=>.m (Nat.add id k)
 | .y id=>.y (Nat.add id k)
 | .f g l r=>.f g (shVs k l) (shVs k r)
 | .iv t v=>.iv t (shV k v)
 | .t l=>.t (shVs k l)
 | .a l=>.a (shVs k l)
 | .b x=>.b x
 | .i a n=>.i a n
 | .s l=>.s l
 | .pn=>.pn
 | .g n off=>.g n off
 | .sn=>.sn
 | .gs n off a c=>.gs n off a c
 | .so=>.so
 | .mn=>.mn
 | .fn=>.fn
 | .ni=>.ni
def shVs (k:Nat):List EV→List EV
 | []=>[]
 | v::l=>shV k v::shVs k l
end
section
mutual
theorem shV_ok {D0 D:Nm} {k:Nat} (hD:∀ id a,D0 id=some a→D (Nat.add id k)=some a):∀ (v:EV) {u:Value},VR D0 v u→VR D (shV k v) u
 | .p id off,u,h=>by
  simp only[VR,shV] at h ⊢
  obtain⟨a,ha,h⟩:=h
  exact⟨a,hD _ _ ha,h⟩
 | .sl id off n c,u,h=>by
  simp only[VR,shV] at h ⊢
  obtain⟨a,ha,h⟩:=h
  exact⟨a,hD _ _ ha,h⟩
 | .sx id off e n,u,h=>by
  simp only[VR,shV] at h ⊢
  obtain⟨a,ha,h⟩:=h
  exact⟨a,hD _ _ ha,h⟩
 | .m id,u,h=>by
  simp only[VR,shV] at h ⊢
  obtain⟨a,ha,h⟩:=h
  exact⟨a,hD _ _ ha,h⟩
 | .y id,u,h=>by
  simp only[VR,shV] at h ⊢
  obtain⟨a,ha,h⟩:=h
  exact⟨a,hD _ _ ha,h⟩
 | .f g l r,u,h=>by
  simp only[VR,shV] at h ⊢
  obtain⟨vs,ws,h1,h2,h⟩:=h
  exact⟨vs,ws,shVs_ok hD l h1,shVs_ok hD r h2,h⟩
 | .iv t v,u,h=>by
  simp only[VR,shV] at h ⊢
  obtain⟨x,h1,h⟩:=h
  exact⟨x,shV_ok hD v h1,h⟩
 | .t l,u,h=>by
  simp only[VR,shV] at h ⊢
  obtain⟨x,h1,h⟩:=h
  exact⟨x,shVs_ok hD l h1,h⟩
 | .a l,u,h=>by
  simp only[VR,shV] at h ⊢
  obtain⟨x,h1,h⟩:=h
  exact⟨x,shVs_ok hD l h1,h⟩
 | .b x,u,h=>by simpa only[VR,shV] using h
 | .i a n,u,h=>by simpa only[VR,shV] using h
 | .s l,u,h=>by simpa only[VR,shV] using h
 | .pn,u,h=>by simpa only[VR,shV] using h
 | .g n off,u,h=>by simpa only[VR,shV] using h
 | .sn,u,h=>by simpa only[VR,shV] using h
 | .gs n off a c,u,h=>by simpa only[VR,shV] using h
 | .so,u,h=>by simpa only[VR,shV] using h
 | .mn,u,h=>by simpa only[VR,shV] using h
 | .fn,u,h=>by simpa only[VR,shV] using h
 | .ni,u,h=>by simpa only[VR,shV] using h
theorem shVs_ok {D0 D:Nm} {k:Nat} (hD:∀ id a,D0 id=some a→D (Nat.add id k)=some a):∀ (l:List EV) {us:List Value},VRs D0 l us→VRs D (shVs k l) us
 | [],us,h=>by simpa only[VRs,shVs] using h
 | v::l,us,h=>by
  simp only[VRs,shVs] at h ⊢
  obtain⟨x,xs,h1,h2,h⟩:=h
  exact⟨x,xs,shV_ok hD v h1,shVs_ok hD l h2,h⟩
end
end
inductive SE where
 | cells (l:List EV) (T:Nat)
 | map (es:List (EV×EV))
noncomputable def readEnt:Ent→Option SE
 | .cells cs T lim=>cs.manyK 0 lim fun l=>some (.cells l T)
 | .map es=>some (.map es)
 | _=>none
noncomputable def readAll (t:Tri Ent):Nat→Nat→Option (List SE)
 | _,0=>some []
 | id,n+1=>opn (t.get id) none fun e=>opn (readEnt e) none fun s=>opn (readAll t (Nat.add id 1) n) none fun l=>some (s::l)
def shP (k:Nat):List (EV×EV)→List (EV×EV)
 | []=>[]
 | p::l=>(shV k p.1,shV k p.2)::shP k l
noncomputable def SE.ent (k:Nat):SE→Ent
 | .cells l T=>Tri.putsK (shVs k l) .nil 0 fun cs=>.cells cs T l.length
 | .map es=>.map (shP k es)
noncomputable def putSs {R:Type} (k:Nat):List SE→Nat→Tri Ent→(Tri Ent→R)→R
 | [],_,t,K=>K t
 | s::l,id,t,K=>t.setK (some (s.ent k)) id fun t=>putSs k l (Nat.add id 1) t K
noncomputable def memo (v:EV) (L:List SE) (m:Me):Option (EV×Me):=forceN m.n fun n=>forceN (Nat.add n L.length) fun n'=>putSs n L n m.t fun t=>some (shV n v,⟨t,n'⟩)
theorem readAll_ok {t:Tri Ent}:∀ {n id:Nat} {L:List SE},readAll t id n=some L→L.length=n∧∀ j s,L[j]?=some s→∃ e,t.get (id+j)=some e∧readEnt e=some s
 | 0,id,L,h=>by
  cases h
  exact⟨rfl,by simp⟩
 | n+1,id,L,h=>by
  unfold readAll at h
  obtain⟨e,h1,h⟩:=opn_eq h
  obtain⟨s,h2,h⟩:=opn_eq h
  obtain⟨l,h3,h⟩:=opn_eq h
  cases h
  obtain⟨g1,g2⟩:=readAll_ok h3
  refine⟨by simp[g1],fun j s' hj=>?_⟩
  cases j with
  | zero=>
   cases hj
   exact⟨e,h1,h2⟩
  | succ j=>
   obtain⟨e',k1,k2⟩:=g2 j s' (by simpa using hj)
   refine⟨e',?_,k2⟩
   rw[←k1]
   congr 1
   show id+(j+1)=id+1+j
   omega
theorem putSs_ok (k:Nat):∀ (L:List SE) (id:Nat) (t:Tri Ent),∃ t':Tri Ent,(∀ {R:Type} (K:Tri Ent→R),putSs k L id t K=K t') ∧
  ∀ j e,t'.get j=some e→(id≤j∧∃ s,L[j - id]?=some s∧e=s.ent k)∨((j < id∨id+L.length≤j)∧t.get j=some e)
 | [],id,t=>⟨t,fun K=>rfl,fun j e h=>.inr ⟨by simp;omega,h⟩⟩
 | s::L,id,t=>by
  obtain⟨t1,h1,h2⟩:=Tri.set_ok (some (s.ent k)) t id
  obtain⟨t',h3,h4⟩:=putSs_ok k L (id+1) t1
  refine⟨t',fun K=>?_,fun j e h=>?_⟩
  ·unfold putSs
   rw[h1]
   exact h3 K
  ·rcases h4 j e h with ⟨g1,s',g2,g3⟩ | ⟨g1,g2⟩
   ·refine .inl ⟨by omega,s',?_,g3⟩
    rw[show j - id=(j - (id+1))+1 by omega]
    simpa using g2
   ·rcases h2 j e g2 with ⟨rfl,g3⟩ | ⟨g3,g4⟩
    ·refine .inl ⟨Nat.le_refl _,s,by simp,?_⟩
     cases g3
     rfl
    ·refine .inr ⟨?_,g4⟩
     simp only[List.length_cons]
     omega
theorem shP_ok {D0 D:Nm} {k:Nat} (hD:∀ id a,D0 id=some a→D (Nat.add id k)=some a) {es:List (EV×EV)} {l:List MapEntry} (h:MpR D0 es l):MpR D (shP k es) l:=by
 induction h with
 | nil=>exact .nil
 | cons hk hv t ih=>exact .cons (shV_ok hD _ hk) (shV_ok hD _ hv) ih
theorem shVs_get {k:Nat}:∀ {l:List EV} {i:Nat} {v:EV},(shVs k l)[i]?=some v→∃ v0,l[i]?=some v0∧v=shV k v0
 | [],i,v,h=>by simp[shVs] at h
 | x::l,0,v,h=>by
  simp only[shVs,List.getElem?_cons_zero,Option.some.injEq] at h
  exact⟨x,rfl,h.symm⟩
 | x::l,i+1,v,h=>by
  simp only[shVs,List.getElem?_cons_succ] at h
  simpa using shVs_get h
theorem ent_sh {D0 D:Nm} {k:Nat} (hD:∀ id a,D0 id=some a→D (Nat.add id k)=some a) {E:Env} {M M':List Blk} (hM:∀ x∈M,x∈M') {a:Loc} {e:Ent} {s:SE} (h:EntR D0 E M a e) (hr:readEnt e=some s):EntR D E M' a (s.ent k):=by
 cases h with
 | @cells cs T lim arr h0 h1 h2 h3 h4 h5=>
  unfold readEnt at hr
  obtain⟨l,g1,g2,g3⟩:=Tri.many_ok cs lim 0 _ _ hr
  cases g3
  obtain⟨t',k1,k2⟩:=Tri.puts_ok (shVs k l) (.nil:Tri EV) 0
  show EntR D E M' a (Tri.putsK (shVs k l) .nil 0 fun cs=>Ent.cells cs T l.length)
  rw[k1,g1]
  refine .cells arr h0 (hM _ h1) h2 (fun i v hi hg=>?_) h4 h5
  rcases k2 i v hg with ⟨_,h⟩ | ⟨_,h⟩
  ·obtain⟨v0,e1,rfl⟩:=shVs_get (by simpa using h)
   have:=g2 i hi
   rw[Nat.zero_add,e1] at this
   obtain⟨x,f1,f2⟩:=h3 i v0 hi this
   exact⟨x,f1,shV_ok hD _ f2⟩
  ·cases h
 | map l clock h1 h2=>
  cases hr
  exact .map l clock (hM _ h1) (shP_ok hD h2)
 | loop L h1 h2=>cases hr
 | done L h1 h2 h3=>cases hr
theorem memo_ok {Y:RK} (hE:EOK Y.P Y.E) (hF:FunsOK Y.P) (hmx:Y.P.follows .mixedOrders=true) {f g:Nat} {args:List EV} {m0:Me} {v0:EV} {L:List SE}
  (h0:callF ⟨Y.P,Y.E,fun _=>none,fun _ _ _=>none⟩ (E_code ⟨Y.P,Y.E,fun _=>none,fun _ _ _=>none⟩ f) g args ⟨.nil,0⟩=some (v0,m0)) (hL:readAll m0.t 0 m0.n=some L)
  (hcl:∀ D us,VRs D args us→VRs (fun _=>none) args us) {m m':Me} {v:EV} (h:memo v0 L m=some (v,m')) {D:Nm} {I:GH} {M:List Blk} {us:List Value} (hu:VRs D args us) (hm:MS Y D m I M) :
  Spec Y.P g us I M fun r I' M'=>∃ D',D.ext D' m.n∧VR D' v r∧MS Y D' m' I' M':=by
 have hpr:PrimOK ⟨Y.P,Y.E,fun _=>none,fun _ _ _=>none⟩:=fun g vs m v m' h=>by cases h
 have hm0:MS ⟨Y.P,Y.E,fun _=>none,fun _ _ _=>none⟩ (fun _=>none) ⟨.nil,0⟩ I []:=⟨fun id e a h h'=>(by cases h'),fun id id' e e' a a' h h1 h'=>(by cases h'),fun id a h=>(by cases h),fun g cs h=>(by cases h)⟩
 have hs:=(reckon (Y:=⟨Y.P,Y.E,fun _=>none,fun _ _ _=>none⟩) hE hF hpr hmx h0 (hcl D us hu) hm0).frame (M:=M)
 refine Spec.weakK hs ?_
 rintro r I' M'' ⟨M0,rfl,hne,hle,D0,-,hv,hs0⟩
 unfold memo at h
 rw[forceN_eq,forceN_eq] at h
 obtain⟨t',h1,h2⟩:=putSs_ok m.n L m.n m.t
 rw[h1] at h
 cases h
 obtain⟨g1,g2⟩:=readAll_ok hL
 let D':Nm:=fun id=>if id < m.n then D id else D0 (id - m.n)
 have hD:∀ id a,D0 id=some a→D' (Nat.add id m.n)=some a:=fun id a ha=>by
  show (if id+m.n < m.n then D (id+m.n) else D0 (id+m.n - m.n))=some a
  rw[if_neg (by omega),Nat.add_sub_cancel,ha]
 have hle':D.le D':=fun id a ha=>by
  show (if id < m.n then D id else D0 (id - m.n))=some a
  rw[if_pos (hm.dom _ _ ha),ha]
 have lo:∀ id,id < m.n→D' id=D id:=fun id hi=>if_pos hi
 have hi':∀ id,m.n≤id→D' id=D0 (id - m.n):=fun id hi=>if_neg (by omega)
 have src:∀ id e a,t'.get id=some e→D' id=some a→(m.n≤id∧∃ s e0,e=s.ent m.n∧m0.t.get (id - m.n)=some e0∧readEnt e0=some s∧D0 (id - m.n)=some a)∨(id < m.n∧m.t.get id=some e∧D id=some a):=fun id e a he ha=>by
  rcases h2 id e he with ⟨k1,s,k2,k3⟩ | ⟨k1,k2⟩
  ·obtain⟨e0,k4,k5⟩:=g2 _ _ k2
   rw[Nat.zero_add] at k4
   rw[hi' _ k1] at ha
   exact .inl ⟨k1,s,e0,k3,k4,k5,ha⟩
  ·rcases Nat.lt_or_ge id m.n with hlt | hge
   ·rw[lo _ hlt] at ha
    exact .inr ⟨hlt,k2,ha⟩
   ·rw[hi' _ hge] at ha
    have:=hs0.dom _ _ ha
    omega
 refine⟨D',fun id hi=>lo id hi,shV_ok hD _ hv,⟨fun id e a he ha=>?_,fun id id' e e' a a' he he' ha ha' hb=>?_,fun id a ha=>?_,hm.glo.mono hle⟩⟩
 ·rcases src id e a he ha with ⟨k1,s,e0,rfl,k2,k3,k4⟩ | ⟨k1,k2,k3⟩
  ·exact ent_sh hD (fun x hx=>List.mem_append_left _ hx) (hs0.ent _ _ _ k2 k4) k3
  ·exact(hm.ent _ _ _ k2 k3).mono hle' fun x hx _=>List.mem_append_right _ hx
 ·rcases src id e a he ha with ⟨k1,s,e0,rfl,k2,k3,k4⟩ | ⟨k1,k2,k3⟩
  ·rcases src id' e' a' he' ha' with ⟨j1,s',e0',rfl,j2,j3,j4⟩ | ⟨j1,j2,j3⟩
   ·have:=hs0.inj _ _ _ _ _ _ k2 j2 k4 j4 hb
    omega
   ·obtain⟨x,hx,hxn⟩:=hs0.blk k2 k4
    obtain⟨y,hy,hyn⟩:=hm.blk j2 j3
    exact(hne x hx y hy (hxn.trans (hb.trans hyn.symm))).elim
  ·rcases src id' e' a' he' ha' with ⟨j1,s',e0',rfl,j2,j3,j4⟩ | ⟨j1,j2,j3⟩
   ·obtain⟨x,hx,hxn⟩:=hs0.blk j2 j4
    obtain⟨y,hy,hyn⟩:=hm.blk k2 k3
    exact(hne x hx y hy (hxn.trans (hb.symm.trans hyn.symm))).elim
   ·exact hm.inj _ _ _ _ _ _ k2 j2 k3 j3 hb
 ·show id < m.n+L.length
  rcases Nat.lt_or_ge id m.n with hlt | hge
  ·omega
  ·rw[hi' _ hge] at ha
   have:=hs0.dom _ _ ha
   omega
open Go Go.Proofs
theorem lies_many (k:Nat):liesAt Tryz.prog Tryz.prog.depth 225 ((k+1) * 2 / Tryz.prog.cellsOf 225) 0 225 1=true:=by
 have h2:Tryz.prog.cellsOf 225=2:=by kernel_rfl
 have hd:Tryz.prog.depth=(Tryz.prog.depth - 1)+1:=by kernel_rfl
 have hsl:sameLayout Tryz.prog Tryz.prog.depth 225 225=true:=by kernel_rfl
 have hr:rowAt Tryz.prog (sameLayout Tryz.prog Tryz.prog.depth · 225) Tryz.prog.depth 225 (k+1) 0 1=true:=by
  generalize hf:(sameLayout Tryz.prog Tryz.prog.depth · 225)=f
  have hf':f 225=true:=by rw[←hf];exact hsl
  rw[hd]
  unfold rowAt
  simp only[h2,hf']
  simp
 rw[h2,Nat.mul_div_cancel _ (by decide:0 < 2)]
 rw[hd]
 unfold liesAt
 rw[hr]
 rfl
theorem copyCheckN {I:GH} (pre post:List Blk) (b:Nat) (v:Value) (k:Nat) (rest:List Value) (hr:rest.length=2 * k) :
  Spec Tryz.prog 210 [ptr b] I (pre++⟨b,.cells (.pointer none::v::rest).toArray 225 (0,0)⟩::post) fun r I' M'=>r=.tuple #[]∧I'=I∧M'=pre++⟨b,.cells (splice (.pointer none::v::rest) 0 [ptr b]).toArray 225 (0,0)⟩::post:=by
 obtain⟨inf,z,hi,hi1,_⟩:=(TryzEOK 225 _ rfl).inf
 refine spec_of_V [] TryzEOK Tryz.func210 rfl rfl rfl ?_
 intro B h0
 have hm:∀ {o:Obj},(⟨b,o⟩:Blk)∈pre++⟨b,o⟩::post:=fun {o}=>List.mem_append.2 (.inr (.head _))
 have hsz:(Value.pointer none::v::rest).toArray.size=(k+1) * 2:=by
  simp[hr]
  omega
 have hl:liesAt Tryz.prog Tryz.prog.depth 225 ((Value.pointer none::v::rest).toArray.size / Tryz.prog.cellsOf 225) 0 225 1=true:=by
  rw[hsz]
  exact lies_many k
 refine LoadOb.mk [.pointer none] (blk_rd (cs:=.pointer none::v::rest) (k:=0) (n:=1) (T:=225) hm (by simp)) ?_
 refine .other (OtherOb.eqNil TryzEOK rfl (by simp) rfl rfl rfl rfl ?_)
 refine CondOb.mk (fun _=>?_) (fun h=>by cases h)
 refine OtherOb.conv rfl (by simp) rfl (fun w hw=>Lib.run_to_unsafe (t:=225) (e:=225) w ⟨b,0,none⟩ (by kernel_rfl) (by kernel_rfl) (j:=inf) (cells:=(Value.pointer none::v::rest).toArray.size) hi (by rw[hi1];decide) (shape_of hw hm) (by rw[hsz];show 0 < _;omega)) ?_
 refine CallOb.mk (pre++⟨b,.cells (.pointer none::v::rest).toArray 225 (0,0)⟩::post) [] _ (by simp) (NoEscape_spec _) ?_
 rintro v I' M' - ⟨rfl,rfl,rfl⟩
 refine OtherOb.conv rfl (by simp) rfl (fun w hw=>Lib.run_from_unsafe (u:=225) (e:=225) w ⟨b,0,none⟩ (by kernel_rfl) (by kernel_rfl) (j:=inf) (cells:=(Value.pointer none::v::rest).toArray.size) hi (shape_of hw (List.mem_append.2 (.inl hm))) hl) ?_
 refine StoreOb.mk pre post _ _ (List.append_nil _) rfl (by rw[hsz];show 0+0+1≤(k+1) * 2;omega) rfl ?_
 exact⟨_,_,.refl,rfl,rfl,rfl⟩
theorem copyCheckU {I:GH} {M:List Blk} {b:Nat} {arr:Array Value} {T:Nat} (hM:(⟨b,.cells arr T (0,0)⟩:Blk)∈M) (h0:arr[0]?=some (ptr b)) :
  Spec Tryz.prog 210 [ptr b] I M fun r I' M'=>r=.tuple #[]∧I'=I∧M'=M:=by
 refine spec_of_V [] TryzEOK Tryz.func210 rfl rfl rfl ?_
 intro B h0'
 have hr:Rd I M ((⟨b,0,none⟩:Addr).add 0) 1 [ptr b]:=by
  obtain⟨l⟩:=arr
  cases l with
  | nil=>simp at h0
  | cons x l=>
   simp only[List.getElem?_toArray,List.getElem?_cons_zero,Option.some.injEq] at h0
   subst h0
   exact blk_rd (cs:=ptr b::l) (k:=0) (n:=1) hM (by simp)
 refine LoadOb.mk [ptr b] hr ?_
 refine .other (OtherOb.eqNil TryzEOK rfl (by simp) rfl rfl rfl rfl ?_)
 refine CondOb.mk (fun h=>by cases h) (fun _=>?_)
 refine LoadOb.mk [ptr b] hr ?_
 refine .other (OtherOb.neSame TryzEOK rfl (by simp) rfl rfl rfl rfl rfl ?_)
 refine CondOb.mk (fun h=>by cases h) (fun _=>?_)
 exact⟨_,_,.refl,rfl,rfl,rfl⟩
theorem store_at {Y:RK} {D:Nm} {m:Me} {I:GH} {M:List Blk} {R:Type} {id off:Nat} {cs:Tri EV} {T lim:Nat} {a:Loc} {arr:Array Value} {pre post:List Blk} (hm:MS Y D m I M) (hg:m.t.get id=some (.cells cs T lim)) (ha:D id=some a)
  (ho:a.o=0) (hsp:M=pre++⟨a.b,.cells arr T (0,0)⟩::post) (hsz:a.o+lim≤arr.size) (hc:∀ i v,i < lim→cs.get i=some v→∃ x,arr[a.o+i]?=some x∧VR D v x) (hk:∀ i,Y.E T=some i→arr.size=a.o+a.c * i.size) (hmx:a.c≤maxLen)
  {l:List EV} {vs:List Value} (hl:VRs D l vs) {K:Me→Option R} {r:R} (h:storeE m (.p id off) l K=some r) :
  ∃ m',K m'=some r∧m'.n=m.n∧off+vs.length≤arr.size∧MS Y D m' I (pre++⟨a.b,.cells (splice arr.toList off vs).toArray T (0,0)⟩::post):=by
 unfold storeE at h
 simp only[hg] at h
 cases hb:(Nat.ble (Nat.add off l.length) lim && l.all EV.one) with
 | false=>rw[hb] at h;cases h
 | true=>
  rw[hb] at h
  simp only[cond_true] at h
  rw[Bool.and_eq_true] at hb
  have hlim:off+l.length≤lim:=Nat.le_of_ble_eq_true hb.1
  obtain⟨cs',h1,h2⟩:=Tri.puts_ok l cs off
  rw[h1] at h
  obtain⟨t',h3,h4⟩:=Tri.set_ok (some (Ent.cells cs' T lim)) m.t id
  rw[h3] at h
  have hlen:=hl.len
  have hfit:off+vs.length≤arr.size:=by omega
  refine⟨_,h,rfl,hfit,?_⟩
  have hnew:∀ x∈M,x.num≠a.b→x∈pre++⟨a.b,.cells (splice arr.toList off vs).toArray T (0,0)⟩::post:=fun x hx hn=>by
   rw[hsp] at hx
   rcases List.mem_append.1 hx with hx | hx
   ·exact List.mem_append.2 (.inl hx)
   ·rcases List.mem_cons.1 hx with rfl | hx
    ·exact(hn rfl).elim
    ·exact List.mem_append.2 (.inr (List.mem_cons_of_mem _ hx))
  refine hm.step (fun i e hi=>(h4 i e hi).imp (fun q=>⟨q.1,some_inj' q.2⟩) fun q=>q) ha (Nm.le_refl D) (fun _ _=>rfl) hm.dom (fun _ _ h=>h) (fun i e a' hne hi hai x hx hn=>hnew x hx ?_) ?_ ?_
  ·rw[hn]
   exact fun hb=>hne (hm.inj _ _ _ _ _ _ hi hg hai ha hb)
  ·have hls:(splice arr.toList off vs).length=arr.size:=by rw[splice_len (by simpa using hfit)];simp
   refine .cells (splice arr.toList off vs).toArray ho (by simp) (by simp[hls];exact hsz) (fun i v hi hgi=>?_) (fun i hi=>by simp[hls];exact hk i hi) hmx
   rw[ho,Nat.zero_add]
   simp only[List.getElem?_toArray]
   rw[splice_get (by simpa using hfit)]
   rcases h2 i v hgi with ⟨g1,g2⟩ | ⟨g1,g2⟩
   ·have hlt:=(List.getElem?_eq_some_iff.1 g2).1
    rw[if_pos ⟨g1,by omega⟩]
    exact hl.get g2
   ·rw[if_neg (by omega)]
    have:=hc i v hi g2
    rw[ho,Nat.zero_add] at this
    simpa using this
  ·intro i e a' hne hi hai hb
   exact hne (hm.inj _ _ _ _ _ _ hi hg hai ha hb)
noncomputable def ccE (m:Me) (vs:List EV):Option (EV×Me):=match vs with
 | [.p id 0]=>(match m.t.get id with
  | some (.cells cs T lim)=>cnd (Nat.beq T 225 && Nat.ble 2 lim) (match cs.get 0 with
   | some .pn=>storeE m (.p id 0) [.p id 0] fun m=>some (.t [],m)
   | some (.p id' 0)=>cnd (Nat.beq id id') (some (.t [],m)) none
   | _=>none) none
  | _=>none)
 | _=>none
theorem cc_ok {Y:RK} (hY:Y.P=Tryz.prog) (hYE:Y.E=TryzE) {m m':Me} {vs:List EV} {v:EV} (h:ccE m vs=some (v,m')) {D:Nm} {I:GH} {M:List Blk} {us:List Value} (hu:VRs D vs us) (hm:MS Y D m I M) :
  Spec Y.P 210 us I M fun r I' M'=>∃ D',D.ext D' m.n∧VR D' v r∧MS Y D' m' I' M':=by
 unfold ccE at h
 split at h
 ·rename_i id
  obtain⟨x,xs,hx,hn,rfl⟩:=hu.uncons
  obtain rfl:=hn.unnil
  obtain⟨a,ha,rfl⟩:=hx.ptr
  split at h
  ·rename_i cs T lim hg
   obtain⟨h1,hq⟩:=cnd_some h
   clear h
   rw[Bool.and_eq_true] at h1
   obtain⟨hT,hlim⟩:=h1
   obtain rfl:=Nat.eq_of_beq_eq_true hT
   have hlim:=Nat.le_of_ble_eq_true hlim
   obtain⟨arr,ho,hM,hl,hc,hk,hmx⟩:=hm.ent _ _ _ hg ha
   have hsz:=hk _ (by rw[hYE];rfl)
   have hsz:arr.size=a.c * 2:=by
    rw[hsz,ho,Nat.zero_add]
   have hp:Value.pointer (some ⟨a.b,a.o+0,none⟩)=ptr a.b:=by rw[ho];rfl
   split at hq
   ·rename_i hc0
    obtain⟨x0,hx0,hv0⟩:=hc 0 _ (by omega) hc0
    obtain⟨pre,post,hsp⟩:=List.append_of_mem hM
    obtain⟨m1,h2,h3,h4,h5⟩:=store_at hm hg ha ho hsp hl hc hk hmx (l:=[.p id 0]) (vs:=[ptr a.b]) (by simp only[VRs,VR];exact⟨_,_,⟨a,ha,hp.symm⟩,rfl,rfl⟩) hq
    cases h2
    rw[hp,hY,hsp]
    obtain⟨l⟩:=arr
    have hx0':x0=.pointer none:=by simpa only[VR] using hv0
    rw[ho] at hx0
    match l,hx0,hsz with
    | [],hx0,_=>simp at hx0
    | [_],_,hsz=>simp at hsz;omega
    | y::w::rest,hx0,hsz=>
     have hy:y=.pointer none:=by simpa[hx0'] using hx0
     subst hy
     have hrl:rest.length=2 * (a.c - 1):=by simp at hsz;omega
     refine Spec.weakK (copyCheckN pre post a.b w (a.c - 1) rest hrl) ?_
     rintro r I' M' ⟨rfl,rfl,rfl⟩
     exact⟨D,Nm.ext_refl,by simp only[VR,VRs];exact⟨[],rfl,rfl⟩,h5⟩
   ·rename_i id' hc0
    obtain⟨h2,hq2⟩:=cnd_some hq
    obtain rfl:=Nat.eq_of_beq_eq_true h2
    cases hq2
    obtain⟨x0,hx0,hv0⟩:=hc 0 _ (by omega) hc0
    obtain⟨a',ha',rfl⟩:=hv0.ptr
    rw[ha] at ha'
    cases ha'
    rw[hp] at hx0 ⊢
    rw[hY]
    refine Spec.weakK (copyCheckU hM (by rw[←hx0,ho])) ?_
    rintro r I' M' ⟨rfl,rfl,rfl⟩
    exact⟨D,Nm.ext_refl,by simp only[VR,VRs];exact⟨[],rfl,rfl⟩,hm⟩
   ·cases hq
  ·cases h
 ·cases h
def frz (I:GH):List Blk→GH
 | []=>I
 | x::l=>ins (frz I l) x.num x.obj
theorem frz_inv {I:GH}:∀ {M:List Blk} {b:Nat} {o:Obj},frz I M b=some o→I b=some o∨∃ x∈M,x.num=b∧x.obj=o
 | [],b,o,h=>.inl h
 | x::l,b,o,h=>by
  unfold frz ins at h
  by_cases e:b=x.num
  ·subst e
   simp only[beq_self',cond_true,Option.some.injEq] at h
   exact .inr ⟨x,by simp,rfl,h⟩
  ·simp only[beq_ne e,cond_false] at h
   rcases frz_inv h with h | ⟨y,h1,h2,h3⟩
   ·exact .inl h
   ·exact .inr ⟨y,by simp[h1],h2,h3⟩
theorem frz_mem {I:GH}:∀ {M:List Blk} (hn:(M.map (·.num)).Nodup) {x:Blk},x∈M→frz I M x.num=some x.obj
 | y::l,hn,x,h=>by
  simp only[List.map_cons,List.nodup_cons] at hn
  rcases List.mem_cons.1 h with rfl | h
  ·unfold frz ins
   simp only[beq_self',cond_true]
  ·have e:x.num≠y.num:=fun e=>hn.1 (List.mem_map.2 ⟨x,h,e⟩)
   unfold frz ins
   simp only[beq_ne e,cond_false]
   exact frz_mem hn.2 h
theorem frz_le {I:GH}:∀ {M:List Blk} (hd:∀ x∈M,I x.num=none) {b:Nat} {o:Obj},I b=some o→frz I M b=some o
 | [],hd,b,o,h=>h
 | y::l,hd,b,o,h=>by
  have e:b≠y.num:=fun e=>by
   have:=hd y (by simp)
   rw[←e,h] at this
   cases this
  unfold frz ins
  simp only[beq_ne e,cond_false]
  exact frz_le (fun x hx=>hd x (by simp[hx])) h
theorem kn_frz {I:GH} {M:List Blk} (hn:(M.map (·.num)).Nodup) (hd:∀ x∈M,I x.num=none) {b:Nat} {o:Obj} (h:Kn I M b o):frz I M b=some o:=by
 rcases h with h | ⟨x,h1,rfl,rfl⟩
 ·exact frz_le hd h
 ·exact frz_mem hn h1
structure Frz (I:GH) (M:List Blk) (J:GH):Prop where
 kn:∀ b o,Kn I M b o→J b=some o
 inv:∀ b o,J b=some o→Kn I M b o
theorem Frz.rd {I J:GH} {M:List Blk} (h:Frz I M J) {a:Addr} {n:Nat} {vs:List Value} (hr:Rd I M a n vs) (M':List Blk):Rd J M' a n vs:=by
 obtain⟨h1,cs,T,f,h2,h3,h4⟩:=hr
 exact⟨h1,cs,T,f,.inl (h.kn _ _ h2),h3,h4⟩
theorem Frz.le {I J:GH} {M:List Blk} (h:Frz I M J):∀ b o,I b=some o→J b=some o:=fun b o hb=>h.kn b o (.inl hb)
theorem frz_end {I I':GH} {M':List Blk} {w w':World} (h1:Holds I' M' w') (h2:Kept I [] w I' M' w'):Frz I' M' (frz I' M')∧Holds (frz I' M') [] w'∧Kept I [] w (frz I' M') [] w':=by
 refine⟨⟨fun b o h=>kn_frz h1.nd h1.d h,fun b o h=>?_⟩,⟨fun b o h=>?_,by simp,by simp,by simp⟩,⟨fun b o h=>frz_le h1.d (h2.le _ _ h),fun b o h=>?_,by simp,h2.old,h2.out,h2.sz⟩⟩
 ·rcases frz_inv h with h | ⟨x,g1,g2,g3⟩
  ·exact .inl h
  ·exact .inr ⟨x,g1,g2,g3⟩
 ·rcases frz_inv h with h | ⟨x,g1,rfl,rfl⟩
  ·exact h1.i _ _ h
  ·exact h1.m _ g1
 ·rcases frz_inv h with h | ⟨x,g1,rfl,rfl⟩
  ·exact h2.newI _ _ h
  ·rcases h2.newM _ g1 with ⟨y,hy,_⟩ | h
   ·cases hy
   ·exact .inr h
theorem Spec.frz {P:Program} {f:Nat} {args:List Value} {I:GH} {Q:Value→GH→List Blk→Prop} (h:Spec P f args I [] Q):Spec P f args I [] fun r J M''=>M''=[]∧(∀ b o,I b=some o→J b=some o)∧∃ I' M',Q r I' M'∧Frz I' M' J:=by
 rcases h with ⟨h1,h2⟩ | h
 ·refine .inl ⟨h1,fun w hw=>?_⟩
  refine(h2 w hw).mono ?_
  rintro e w' ⟨v,I',M',e1,e2,e3,e4⟩
  obtain⟨g1,g2,g3⟩:=frz_end e3 e4
  exact⟨v,_,[],e1,⟨rfl,g3.le,I',M',e2,g1⟩,g2,g3⟩
 ·refine .inr fun w hw=>?_
  obtain⟨v,w',I',M',e1,e2,e3,e4⟩:=h w hw
  obtain⟨g1,g2,g3⟩:=frz_end e3 e4
  exact⟨v,w',_,[],e1,⟨rfl,g3.le,I',M',e2,g1⟩,g2,g3⟩
noncomputable def triL {α:Type} (l:List α):Tri α:=Tri.putsK l .nil 0 id
theorem triL_get {α:Type} {l:List α} {i:Nat} {v:α} (h:(triL l).get i=some v):l[i]?=some v:=by
 obtain⟨t,h1,h2⟩:=Tri.puts_ok l (.nil:Tri α) 0
 unfold triL at h
 rw[h1] at h
 rcases h2 _ _ h with ⟨_,h⟩ | ⟨_,h⟩
 ·simpa using h
 ·cases h
noncomputable def GTs:GT:=fun g=>cnd (Nat.beq g 0) (some (triL (countsL.map (EV.i .i64))))
 (cnd (Nat.beq g 1) (some (triL (signsL.map EV.s)))
 (cnd (Nat.beq g 2) (some (triL [.i .i64 0,.i .i64 1,.s [63],.i .i64 0,.i .i64 (-1),.s [42],.i .i64 1,.i .i64 (-1),.s [43]]))
 (cnd (Nat.beq g 4) (some (triL (debL.map (EV.i .u8)))) none)))
theorem gi_map {α:Type} {f:α→EV} {h:α→Value} (hf:∀ x D,VR D (f x) (h x)) {l:List α} {i:Nat} {v:EV} (hv:(triL (l.map f)).get i=some v):∃ x,(l.map h).toArray[i]?=some x∧∀ D,VR D v x:=by
 have:=triL_get hv
 rw[List.getElem?_map] at this
 cases hx:l[i]? with
 | none=>rw[hx] at this;cases this
 | some x=>
  rw[hx] at this
  simp only[Option.map_some,Option.some.injEq] at this
  subst this
  exact⟨h x,by simp[hx],hf x⟩
theorem gi_tabs {I:GH} (hT:Tabs I debL):GI GTs I:=by
 intro g cs h
 unfold GTs at h
 rw[cnd_eq,cnd_eq,cnd_eq,cnd_eq] at h
 cases h1:Nat.beq g 0 with
 | true=>
  rw[h1,cond_true] at h
  obtain rfl:=Nat.eq_of_beq_eq_true h1
  have h:=Option.some.inj h
  subst h
  obtain⟨T,f,h⟩:=hT.c
  exact⟨_,T,f,h,fun i v hv=>gi_map (f:=EV.i .i64) (h:=Value.int .i64) (fun x D=>by simp only[VR]) hv⟩
 | false=>
 rw[h1,cond_false] at h
 cases h2:Nat.beq g 1 with
 | true=>
  rw[h2,cond_true] at h
  obtain rfl:=Nat.eq_of_beq_eq_true h2
  have h:=Option.some.inj h
  subst h
  obtain⟨T,f,h⟩:=hT.s
  exact⟨_,T,f,h,fun i v hv=>gi_map (f:=EV.s) (h:=fun l=>Value.string (strOf l)) (fun x D=>by simp only[VR,strOf]) hv⟩
 | false=>
 rw[h2,cond_false] at h
 cases h3:Nat.beq g 2 with
 | true=>
  rw[h3,cond_true] at h
  obtain rfl:=Nat.eq_of_beq_eq_true h3
  have h:=Option.some.inj h
  subst h
  obtain⟨T,f,h⟩:=hT.p
  refine⟨_,T,f,h,fun i v hv=>?_⟩
  have hv:=triL_get hv
  rcases i with _ | _ | _ | _ | _ | _ | _ | _ | _ | i
  all_goals first | (cases hv;exact⟨_,rfl,fun D=>by simp only[VR]<;>rfl⟩) | (simp at hv)
 | false=>
 rw[h3,cond_false] at h
 cases h4:Nat.beq g 4 with
 | true=>
  rw[h4,cond_true] at h
  obtain rfl:=Nat.eq_of_beq_eq_true h4
  have h:=Option.some.inj h
  subst h
  obtain⟨_,_,T,f,h⟩:=hT.d
  exact⟨_,T,f,h,fun i v hv=>gi_map (f:=EV.i .u8) (h:=Value.int .u8) (fun x D=>by simp only[VR]) hv⟩
 | false=>
 rw[h4,cond_false] at h
 cases h
noncomputable def idxN:List UInt8→Nat→Nat→Int
 | [],_,_=>-1
 | b::l,c,k=>cnd (Nat.beq b.toNat c) (Int.ofNat k) (idxN l c (Nat.succ k))
theorem idxN_eq (c:UInt8):∀ (l:List UInt8) (k:Nat),idxN l c.toNat k=if Lib.indexByte l c=-1 then -1 else Lib.indexByte l c+k
 | [],k=>rfl
 | b::l,k=>by
  have hge:=Lib.indexByte_ge l c
  unfold idxN Lib.indexByte
  rw[cnd_eq]
  by_cases h:b=c
  ·subst h
   simp
  ·have h1:Nat.beq b.toNat c.toNat=false:=by
    cases hb:Nat.beq b.toNat c.toNat with
    | false=>rfl
    | true=>exact absurd (UInt8.toNat_inj.1 (Nat.eq_of_beq_eq_true hb)) h
   have h2:(b == c)=false:=by simpa using h
   rw[h1,cond_false,h2,idxN_eq c l]
   simp only[Bool.false_eq_true,if_false]
   by_cases h3:Lib.indexByte l c=-1
   ·simp[h3]
   ·have h4:(Lib.indexByte l c == -1)=false:=by simpa using h3
    rw[h4,if_neg h3]
    simp only[Bool.false_eq_true,if_false]
    rw[if_neg (by omega)]
    omega
theorem yk_funs:FunsOK Tryz.prog:=funsOK_of (by kernel_rfl)
theorem yk_orders:Tryz.prog.follows .mixedOrders=true:=by kernel_rfl
noncomputable def YZ:RK:=⟨Tryz.prog,TryzE,fun _=>none,fun _ _ _=>none⟩
noncomputable def rdM:List SE:=[.map [(.i .u8 123,.f 241 [] []),(.i .u8 34,.f 242 [] []),(.i .u8 91,.f 243 [] []),(.i .u8 46,.f 244 [] []),(.i .u8 47,.f 263 [] [.p 1 0]),(.i .u8 38,.f 263 [] [.p 2 0]),(.i .u8 33,.f 263 [] [.p 3 0]),(.i .u8 63,.f 263 [] [.p 4 0]),(.i .u8 42,.f 263 [] [.p 5 0]),(.i .u8 43,.f 263 [] [.p 6 0]),(.i .u8 40,.f 263 [] [.p 7 0]),(.i .u8 41,.f 263 [] [.p 8 0]),(.i .u8 60,.f 246 [] []),(.i .u8 62,.f 263 [] [.p 10 0]),(.i .u8 58,.f 263 [] [.p 11 0]),(.i .u8 65,.f 247 [] []),(.i .u8 66,.f 247 [] []),(.i .u8 67,.f 247 [] []),(.i .u8 68,.f 247 [] []),(.i .u8 69,.f 247 [] []),(.i .u8 70,.f 247 [] []),(.i .u8 71,.f 247 [] []),(.i .u8 72,.f 247 [] []),(.i .u8 73,.f 247 [] []),(.i .u8 74,.f 247 [] []),(.i .u8 75,.f 247 [] []),(.i .u8 76,.f 247 [] []),(.i .u8 77,.f 247 [] []),(.i .u8 78,.f 247 [] []),(.i .u8 79,.f 247 [] []),(.i .u8 80,.f 247 [] []),(.i .u8 81,.f 247 [] []),(.i .u8 82,.f 247 [] []),(.i .u8 83,.f 247 [] []),(.i .u8 84,.f 247 [] []),(.i .u8 85,.f 247 [] []),(.i .u8 86,.f 247 [] []),(.i .u8 87,.f 247 [] []),(.i .u8 88,.f 247 [] []),(.i .u8 89,.f 247 [] []),(.i .u8 90,.f 247 [] []),(.i .u8 95,.f 247 [] []),(.i .u8 97,.f 247 [] []),(.i .u8 98,.f 247 [] []),(.i .u8 99,.f 247 [] []),(.i .u8 100,.f 247 [] []),(.i .u8 101,.f 247 [] []),(.i .u8 102,.f 247 [] []),(.i .u8 103,.f 247 [] []),(.i .u8 104,.f 247 [] []),(.i .u8 105,.f 247 [] []),(.i .u8 106,.f 247 [] []),(.i .u8 107,.f 247 [] []),(.i .u8 108,.f 247 [] []),(.i .u8 109,.f 247 [] []),(.i .u8 110,.f 247 [] []),(.i .u8 111,.f 247 [] []),(.i .u8 112,.f 247 [] []),(.i .u8 113,.f 247 [] []),(.i .u8 114,.f 247 [] []),(.i .u8 115,.f 247 [] []),(.i .u8 116,.f 247 [] []),(.i .u8 117,.f 247 [] []),(.i .u8 118,.f 247 [] []),(.i .u8 119,.f 247 [] []),(.i .u8 120,.f 247 [] []),(.i .u8 121,.f 247 [] []),(.i .u8 122,.f 247 [] [])],
 .cells [.i .u8 3] 5,
 .cells [.i .u8 4] 5,
 .cells [.i .u8 5] 5,
 .cells [.i .u8 6] 5,
 .cells [.i .u8 7] 5,
 .cells [.i .u8 8] 5,
 .cells [.i .u8 9] 5,
 .cells [.i .u8 10] 5,
 .cells [.i .u8 11] 5,
 .cells [.i .u8 12] 5,
 .cells [.i .u8 13] 5]
theorem rd_run:(opn (callF YZ (E_code YZ 100000) 217 [] ⟨.nil,0⟩) none fun p=>opn (readAll p.2.t 0 p.2.n) none fun L=>some (p.1,L))=some (EV.m 0,rdM):=by kernel_rfl
noncomputable def prL:PR:=fun g vs m=>cnd (Nat.beq g 283) (match vs with
 | [.s l,.i .u8 (.ofNat k)]=>cnd (Nat.blt k 256) (some (.i .i64 (idxN l k 0),m)) none
 | _=>none) (cnd (Nat.beq g 234) (match vs with
 | [v]=>some (v,m)
 | _=>none) (cnd (Nat.beq g 217) (match vs with
 | []=>memo (.m 0) rdM m
 | _=>none) (cnd (Nat.beq g 210) (ccE m vs) none)))
noncomputable def YK:RK:=⟨Tryz.prog,TryzE,GTs,prL⟩
theorem prim_ok:PrimOK YK:=by
 intro g vs m v m' h D I M us hu hm
 change prL g vs m=some (v,m') at h
 unfold prL at h
 rw[cnd_eq] at h
 cases h1:Nat.beq g 283 with
 | true=>
  rw[h1,cond_true] at h
  obtain rfl:=Nat.eq_of_beq_eq_true h1
  split at h
  ·rename_i l k
   rw[cnd_eq] at h
   cases hk:Nat.blt k 256 with
   | false=>rw[hk] at h;cases h
   | true=>
    rw[hk,cond_true] at h
    have hk':k < 256:=Nat.blt_eq ▸ hk
    cases h
    simp only[VRs,VR] at hu
    obtain⟨x,xs,rfl,⟨y,ys,rfl,rfl,rfl⟩,rfl⟩:=hu
    have hkc:(UInt8.ofNat k).toNat=k:=by simp;omega
    have:=IndexByteString_spec (I:=I) (M:=M) ⟨l.toArray⟩ (UInt8.ofNat k)
    rw[hkc] at this
    refine Spec.weakK this ?_
    rintro r I' M' ⟨rfl,rfl,rfl⟩
    refine⟨D,Nm.ext_refl,?_,hm⟩
    simp only[VR]
    have:=idxN_eq (UInt8.ofNat k) l 0
    rw[hkc] at this
    rw[this]
    split
    ·rename_i e
     simp[e]
    ·simp
  ·cases h
 | false=>
 rw[h1,cond_false,cnd_eq] at h
 cases h2:Nat.beq g 234 with
 | true=>
  rw[h2,cond_true] at h
  obtain rfl:=Nat.eq_of_beq_eq_true h2
  split at h
  ·cases h
   simp only[VRs] at hu
   obtain⟨x,xs,hu,rfl,rfl⟩:=hu
   refine Spec.weakK (NoEscape_spec _) ?_
   rintro r I' M' ⟨rfl,rfl,rfl⟩
   exact⟨D,Nm.ext_refl,hu,hm⟩
  ·cases h
 | false=>
 rw[h2,cond_false,cnd_eq] at h
 cases h3:Nat.beq g 217 with
 | true=>
  rw[h3,cond_true] at h
  obtain rfl:=Nat.eq_of_beq_eq_true h3
  split at h
  ·obtain⟨⟨v0,m0⟩,h4,h5⟩:=opn_eq rd_run
   obtain⟨L,h6,h7⟩:=opn_eq h5
   cases h7
   exact memo_ok (Y:=YK) TryzEOK yk_funs yk_orders h4 h6 (fun D us h=>by simpa only[VRs] using h) h hu hm
  ·cases h
 | false=>
 rw[h3,cond_false,cnd_eq] at h
 cases h4:Nat.beq g 210 with
 | true=>
  rw[h4,cond_true] at h
  obtain rfl:=Nat.eq_of_beq_eq_true h4
  exact cc_ok rfl rfl h hu hm
 | false=>
 rw[h4,cond_false] at h
 cases h
theorem reckonX {I:GH} (hT:Tabs I debL) {f g:Nat} {args:List EV} {m':Me} {v:EV} (h:callF YK (E_code YK f) g args ⟨.nil,0⟩=some (v,m')) {us:List Value} (hu:VRs (fun _=>none) args us) :
  Spec Tryz.prog g us I [] fun r J M''=>M''=[]∧(∀ b o,I b=some o→J b=some o)∧∃ I' M' D',VR D' v r∧MS YK D' m' I' M'∧Frz I' M' J:=by
 have hm:MS YK (fun _=>none) ⟨.nil,0⟩ I []:=⟨fun id e a h h'=>(by cases h'),fun id id' e e' a a' h h1 h'=>(by cases h'),fun id a h=>(by cases h),gi_tabs hT⟩
 refine Spec.weakK (reckon (Y:=YK) TryzEOK yk_funs prim_ok yk_orders h hu hm).frz ?_
 rintro r J M'' ⟨rfl,h1,I',M',⟨D',-,h2,h3⟩,h4⟩
 exact⟨rfl,h1,I',M',D',h2,h3,h4⟩
theorem headD_get:∀ {l:List Int} (h:0 < l.length),l.headD 0=l[0]
 | a::l,_=>rfl
def endlessN (ns:List Nd) (xs:List Fl):Bool:=ns.any fun d=>decide (d.k=6) && (decide (d.hi=-1) && (xs.getD (d.kids.headD 0).toNat fl0).z)
theorem any_snoc {α:Type} (p:α→Bool) (l:List α) (x:α):(l++[x]).any p=(l.any p || p x):=by simp
theorem any_pre {α:Type} {p:α→Bool} {l:List α} {i:Nat} (h:(l.take i).any p=true):l.any p=true:=by
 rw[List.any_eq_true] at h ⊢
 obtain⟨x,hx,hp⟩:=h
 exact⟨x,List.mem_of_mem_take hx,hp⟩
set_option maxHeartbeats 4000000 in
theorem endless_spec {I:GH} {M0:List Blk} {t:Tr} (ht:t.ok I) (hr:right t=true) {xa:Option Addr} {xc:Nat} {xs:List Fl} (hx:FsAt I M0 xa t.n xs):Spec Tryz.prog 144 [t.val,.slice xa t.n xc] I M0 fun v I' M'=>v=.bool (endlessN t.ns xs)∧I'=I∧M'=M0:=by
 refine spec_of_V [] TryzEOK Tryz.func144 rfl rfl rfl ?_
 intro B h0
 have htn:=ht.n
 have hcap:=ht.rs.cap
 have hxn:=hx.n
 refine LoopOb.inv (ι:=Nat) (fun i=>{ fl:=[(1,.val (.slice xa t.n xc)),(8,.val (.slice t.a t.n t.c)),(9,.val (.int .i64 t.n)),(10,.val (.int .i64 i))],gi:=I,mi:=M0 }) (fun i=>i≤t.n∧(t.ns.take i).any (fun d=>decide (d.k=6) && (decide (d.hi=-1) && (xs.getD (d.kids.headD 0).toNat fl0).z))=false) (fun i=>t.n - i) ?_ ?_
 ·exact⟨0,⟨Nat.zero_le _,rfl⟩,.refl,aF4,.nil⟩
 rintro i ⟨hi,hno⟩
 refine CondOb.mk (fun h=>?_) (fun h=>?_)
 rotate_left
 ·have hge:i=t.n:=by have:¬ (i:Int) < (t.n:Int):=of_decide_eq_false h;omega
  rw[List.take_of_length_le (by omega)] at hno
  refine⟨_,_,.refl,?_,rfl,rfl⟩
  rw[endlessN,hno]
 have hlt:i < t.n:=by have:(i:Int) < (t.n:Int):=of_decide_eq_true h;omega
 have hlt':i < t.ns.length:=by omega
 obtain⟨ad,had,hrd⟩:=ht.rs.row Nd.cells_len hlt hlt'
 have hd:=ht.ns _ (List.getElem_mem hlt')
 have hft:=right_fits hr hlt'
 have hkv:=right_kids hr i hlt'
 have hkn:=hd.kn
 have hsn:(t.ns.take (i+1)).any (fun d=>decide (d.k=6) && (decide (d.hi=-1) && (xs.getD (d.kids.headD 0).toNat fl0).z))=(decide (t.ns[i].k=6) && (decide (t.ns[i].hi=-1) && (xs.getD (t.ns[i].kids.headD 0).toNat fl0).z)):=by
  rw[List.take_succ_eq_append_getElem hlt',any_snoc,hno,Bool.false_or]
 generalize t.ns[i]=d at hrd hd hft hkv hkn hsn
 refine IdxOb.mk ad i had rfl hlt ?_
 refine LoadOb.mk _ (hrd _) ?_
 refine GuardOb.mk (fun h6=>?_) (fun h6=>?_)
 rotate_left
 ·have h6':decide (d.k=6)=false:=h6
  rw[h6'] at hsn
  refine ArithOb.mk _ (next_wr (i:=i) (by omega)) ?_
  exact⟨i+1,⟨⟨hlt,hsn⟩,by omega⟩,.refl,aF4,.nil⟩
 have h6':decide (d.k=6)=true:=h6
 have h6e:d.k=6:=of_decide_eq_true h6'
 rw[h6',Bool.true_and] at hsn
 refine GuardOb.mk (fun h1=>?_) (fun h1=>?_)
 rotate_left
 ·have h1':decide (d.hi=-1)=false:=h1
  rw[h1'] at hsn
  refine ArithOb.mk _ (next_wr (i:=i) (by omega)) ?_
  exact⟨i+1,⟨⟨hlt,hsn⟩,by omega⟩,.refl,aF4,.nil⟩
 have h1':decide (d.hi=-1)=true:=h1
 rw[h1',Bool.true_and] at hsn
 have hk0:0 < d.kids.length:=by have:=fits_kid hd.k.1 hft (by omega);omega
 obtain⟨ak,hak,hrk⟩:=hd.rs.one (j:=0) (by omega) hk0
 have hv:=hkv _ (List.getElem_mem hk0)
 have hh:d.kids.headD 0=d.kids[0]:=headD_get hk0
 rw[hh] at hsn
 have hql:d.kids[0].toNat < xs.length:=by omega
 obtain⟨ax,hax,hrx⟩:=hx.rd _ hql
 have hg:xs.getD d.kids[0].toNat fl0=xs[d.kids[0].toNat]:=by simp[List.getD_eq_getElem?_getD,hql]
 rw[hg] at hsn
 refine IdxOb.mk ak 0 hak rfl (by omega) ?_
 refine LoadOb.mk _ (hrk _) ?_
 refine IdxOb.mk ax d.kids[0].toNat hax (by omega) (by omega) ?_
 refine LoadOb.mk _ (hrx.part (k:=0) (m:=1) (by decide)) ?_
 refine CondOb.mk (fun hz=>?_) (fun hz=>?_)
 ·have hz':xs[d.kids[0].toNat].z=true:=hz
  refine⟨_,_,.refl,?_,rfl,rfl⟩
  rw[endlessN,any_pre (i:=i+1) (by rw[hsn,hz'])]
 ·have hz':xs[d.kids[0].toNat].z=false:=hz
  rw[hz'] at hsn
  refine ArithOb.mk _ (next_wr (i:=i) (by omega)) ?_
  exact⟨i+1,⟨⟨hlt,hsn⟩,by omega⟩,.refl,aF4,.nil⟩
def Sy.mark (s:Sy) (i k:Nat):Sy:=⟨s.n,s.m.set i (s.m.getD i 0 ||| bitW k),s.w⟩
def sBlk (b:Nat) (s:Sy):Blk:=⟨b,.cells s.cells.toArray 154 (0,0)⟩
theorem Sy.cells_len (s:Sy):s.cells.length=66:=by simp[Sy.cells,rowC_len]
theorem sBlk_m {I:GH} {M:List Blk} {b:Nat} {s:Sy} (hM:sBlk b s∈M) {j:Nat} (hj:j < 64):Rd I M (((⟨b,0,none⟩:Addr).add 1).add (j * 1)) 1 [wordV (s.m.getD j 0)]:=by
 rw[addr_add (⟨b,0,none⟩:Addr) rfl,addr_add _ rfl]
 refine⟨rfl,_,_,_,.inr ⟨_,hM,rfl,rfl⟩,?_,rfl⟩
 simp only[Nat.zero_add,Nat.mul_one]
 show (s.cells.drop (1+j)).take 1=_
 rw[Sy.cells,Nat.add_comm 1 j,List.drop_succ_cons,List.drop_append_of_le_length (by rw[rowC_len];omega),List.drop_eq_getElem_cons (by rw[rowC_len];exact hj),List.cons_append,List.take_succ_cons,List.take_zero]
 simp[rowC]
theorem sBlk_set {s:Sy} (hs:s.m.length=64) {i k:Nat} (hi:i < 64):splice s.cells (0+1+i * 1) [wordV (s.m.getD i 0 ||| bitW k)]=(s.mark i k).cells:=by
 unfold Sy.cells Sy.mark
 simp only
 have e1:splice (Value.int .i64 s.n::(rowC s.m++[wordV s.w])) (0+1+i * 1) [wordV (s.m.getD i 0 ||| bitW k)]=Value.int .i64 s.n::(splice (rowC s.m) (0+i * 1) [wordV (s.m.getD i 0 ||| bitW k)]++[wordV s.w]):=by
  have h:=splice_mid' [Value.int .i64 s.n] (rowC s.m) [wordV s.w] i [wordV (s.m.getD i 0 ||| bitW k)] (by rw[rowC_len];show i+1≤64;omega)
  simp only[List.length_singleton,List.singleton_append,List.length_cons,List.length_nil,Nat.zero_add,Nat.mul_one] at h ⊢
  exact h
 rw[e1,mRow_set s.m hs i hi]
theorem StoreOb.addTwo {M:List Blk} {b x y:Nat} {vs:List Value} {K:List Blk→Prop} (pre post:List Blk) (cs:List Value) (T:Nat) (hM:M=pre++⟨b,.cells cs.toArray T (0,0)⟩::post) (hb:0+x+y+vs.length≤cs.length) (h1:allOne vs=true)
  (cs':List Value) (he:splice cs (0+x+y) vs=cs') (h:K (pre++⟨b,.cells cs'.toArray T (0,0)⟩::post)):StoreOb M (((⟨b,0,none⟩:Addr).add x).add y) vs K:=by
 rw[addr_add (⟨b,0,none⟩:Addr) rfl,addr_add _ rfl]
 exact StoreOb.to pre post cs.toArray T hM rfl (by rw[Nat.ble_eq];simpa using hb) h1 cs' he h
theorem learn1_spec {I:GH} {M1:List Blk} {g:Gr} (hg:g.ok I) {nm:ByteArray} {k:Nat} (hk:findAt nm g.ds 0=k) (hk64:k < 64) {b1 b6 b7 i:Nat} (hi:i < 64) {s:Sy} (hs:s.m.length=64)
  (h1:(⟨b1,.cells #[.slice g.a g.n g.c] 30 (0,0)⟩:Blk)∈M1) (h7:(⟨b7,.cells #[.int .i64 i] 3 (0,0)⟩:Blk)∈M1) :
  Spec Tryz.prog 143 [.string nm,ptr b1,ptr b6,ptr b7] I (sBlk b6 s::M1) fun v I' M'=>I'=I∧M'=sBlk b6 (s.mark i k)::M1:=by
 refine spec_of_V [] TryzEOK Tryz.func143 rfl rfl rfl ?_
 intro B h0
 refine LoadOb.mk [.slice g.a g.n g.c] ⟨rfl,_,_,_,.inr ⟨_,.tail _ h1,rfl,rfl⟩,rfl,rfl⟩ ?_
 have hf:Spec Tryz.prog 49 [g.val,.string nm] I (sBlk b6 s::M1) fun v I' M'=>v=.int .i64 k∧I'=I∧M'=sBlk b6 s::M1:=by
  refine Spec.weakK (Spec.frame (Find_spec hg nm)) ?_
  rintro v J M ⟨M',rfl,-,-,rfl,rfl,rfl⟩
  rw[hk]
  exact⟨rfl,rfl,rfl⟩
 refine CallOb.whole _ hf ?_
 rintro v J N - ⟨rfl,hJ,hN⟩
 subst J
 subst N
 refine CondOb.mk (fun _=>?_) (fun h=>?_)
 rotate_left
 ·have:¬ (0:Int)≤(k:Int):=of_decide_eq_false h
  omega
 refine CodeOb.draw TryzEOK rfl rfl rfl ?_
 refine LoadOb.mk [.int .i64 i] ⟨rfl,_,_,_,.inr ⟨_,.tail _ h7,rfl,rfl⟩,rfl,rfl⟩ ?_
 refine ArrOb.mk i rfl hi ?_
 refine LoadOb.mk _ (sBlk_m (.head _) hi) ?_
 refine ShOb.mk k rfl ?_
 refine ArithOb.mk _ (shl_wr hk64) ?_
 refine ArrOb.mk i rfl hi ?_
 refine StoreOb.addTwo [] M1 s.cells _ rfl ?_ rfl (s.mark i k).cells ?_ ?_
 ·rw[Sy.cells_len]
  show 0+1+i * 1+1≤66
  omega
 ·show splice s.cells (0+1+i * 1) [Value.int .u64 (worV (s.m.getD i 0).toNat (bitW k).toNat)]=_
  rw[worV_bv]
  exact sBlk_set hs hi
 exact⟨_,_,.refl,rfl,rfl⟩
theorem Ws.ints (w:Ws):∀ x∈[(w.a.toNat:Int),(w.b.toNat:Int),(w.c.toNat:Int),(w.d.toNat:Int)],u64ok x:=by
 have h1:=w.a.isLt
 have h2:=w.b.isLt
 have h3:=w.c.isLt
 have h4:=w.d.isLt
 intro x hx
 simp only[List.mem_cons,List.not_mem_nil,or_false] at hx
 unfold u64ok
 rcases hx with rfl | rfl | rfl | rfl<;>omega
section
variable {I:GH} {M:List Blk} {d:Nd} {a:Option Addr} {n c:Nat} {ks:List Fl}
end
def runR (p:UInt8×UInt8):List UInt8:=putB p.1 clsL++((bif decide ((p.1.toNat:Int)+1 < p.2.toNat) then [45] else [])++(bif decide ((p.1.toNat:Int) < p.2.toNat) then putB p.2 clsL else []))
def isAll (rs:List (UInt8×UInt8)):Bool:=match rs with
 | [p]=>((p.1.toNat:Int) == 0) && ((p.2.toNat:Int) == 255)
 | _=>false
def classR (rs:List (UInt8×UInt8)):List UInt8:=bif isAll rs then [46] else [91]++rs.flatMap runR++[93]
structure FitsMore (d:Nd) (n:Int):Prop where
 z:d.k=0→d.t=⟨#[]⟩
 leaf:d.k≤3→n=0
 one:6≤d.k→n=1
 two:d.k=4∨d.k=5→2≤n
set_option maxHeartbeats 1000000 in
theorem fits_more {d:Nd} {n:Int} (h0:0≤d.k) (h:fits d n=true):FitsMore d n:=by
 have hs:=(fits_says h).k
 have hk:d.k=0∨d.k=1∨d.k=2∨d.k=3∨d.k=4∨d.k=5∨d.k=6∨d.k=7∨d.k=8∨d.k=9:=by omega
 have hcl:∀ j:Fin 10,cntLo j.val=countsL.getD (j.val * 2) 0∧cntHi j.val=countsL.getD (j.val * 2+1) 0:=by decide
 unfold fits at h
 rcases hk with e | e | e | e | e | e | e | e | e | e<;>rw[e] at h<;>simp[cntLo,cntHi,countsL] at h <;>
  refine⟨fun q=>?_,fun q=>?_,fun q=>?_,fun q=>?_⟩<;>first | (omega;done) | (exact h.2.2.1;done) | (exact h.2.1;done) | (simp_all;done)
def catL (sep:List UInt8):List (List UInt8)→List UInt8
 | []=>[]
 | x::xs=>x++xs.flatMap fun y=>sep++y
theorem kidsT_true (sep:List UInt8) (f:Int→List UInt8):∀ ks,kidsT sep f true ks=(ks.map f).flatMap fun y=>sep++y
 | []=>rfl
 | k::ks=>by
  rw[kidsT,kidsT_true sep f ks]
  simp
theorem kidsT_cat (sep:List UInt8) (f:Int→List UInt8) (ks:List Int):kidsT sep f false ks=catL sep (ks.map f):=by
 cases ks with
 | nil=>rfl
 | cons k ks=>
  rw[kidsT,kidsT_true]
  simp[catL]
def nodeR (deb:List Int) (d:Nd) (L:List (List UInt8)):List UInt8:=
 bif decide (d.k=0) then [34,34] else
 bif decide (d.k=1) then classB deb d.s0 d.s1 d.s2 d.s3 else
 bif decide (d.k=2) then litB d.t else
 bif decide (d.k=3) then d.t.data.toList else
 bif decide (d.k=7) then [38]++L.headD [] else
 bif decide (d.k=8) then [33]++L.headD [] else
 bif decide (d.k=6) then L.headD []++countB d.lo.toNat d.hi else
 bif decide (d.k=9) then [60]++d.t.data.toList++[58,32]++L.headD []++[62] else
 catL (bif decide (d.k=5) then [32,47,32] else [32]) L
set_option maxHeartbeats 1000000 in
theorem nodeT_eq (deb:List Int) (ns:List Nd) {d:Nd} (h0:0≤d.k) (h:fits d d.kids.length=true) (g:Int→List UInt8):nodeT deb ns d g=nodeR deb d (d.kids.map fun k=>paren (wrapsV d.k (kindAt ns k)) (g k)):=by
 have hs:=(fits_says h).k
 have hm:=fits_more h0 h
 have hk:d.k=0∨d.k=1∨d.k=2∨d.k=3∨d.k=4∨d.k=5∨d.k=6∨d.k=7∨d.k=8∨d.k=9:=by omega
 unfold nodeT nodeR
 rw[kidsT_cat]
 generalize hL:(d.kids.map fun k=>paren (wrapsV d.k (kindAt ns k)) (g k))=L
 have hll:L.length=d.kids.length:=by rw[←hL];simp
 have s0:sgn 2=[]∧sgn 3=[]∧sgn 5=[]∧sgn 8=[]∧sgn 11=[]∧sgn 12=[]∧sgn 13=[32]∧sgn 14=[]∧sgn 15=[]∧sgn 16=[32,47,32]∧sgn 17=[]∧sgn 18=[]∧sgn 21=[38]∧sgn 23=[]∧sgn 24=[33]∧sgn 26=[]∧sgn 27=[60]∧sgn 29=[62]:=by decide
 obtain⟨z2,z3,z5,z8,z11,z12,z13,z14,z15,z16,z17,z18,z21,z23,z24,z26,z27,z29⟩:=s0
 have nil:d.k≤3→L=[]:=fun q=>List.eq_nil_of_length_eq_zero (by have:=hm.leaf q;omega)
 have one:6≤d.k→∃ x,L=[x]:=fun q=>by
  have:=hm.one q
  match L,hll with
  | [x],_=>exact⟨x,rfl⟩
  | [],hll=>simp at hll;omega
  | _::_::_,hll=>simp at hll;omega
 rcases hk with e | e | e | e | e | e | e | e | e | e
 ·rw[nil (by omega)]
  simp[aheadB,behindB,sepOf,catL,e,z2,hm.z e,litB]
 ·rw[nil (by omega)]
  simp[aheadB,behindB,sepOf,catL,e,z5]
 ·rw[nil (by omega)]
  simp[aheadB,behindB,sepOf,catL,e,z8]
 ·rw[nil (by omega)]
  simp[aheadB,behindB,sepOf,catL,e,z11]
 ·simp[aheadB,behindB,sepOf,e,z12,z13,z14]
 ·simp[aheadB,behindB,sepOf,e,z15,z16,z17]
 ·obtain⟨x,rfl⟩:=one (by omega)
  simp[aheadB,behindB,sepOf,catL,e,z18]
 ·obtain⟨x,rfl⟩:=one (by omega)
  simp[aheadB,behindB,sepOf,catL,e,z21,z23]
 ·obtain⟨x,rfl⟩:=one (by omega)
  simp[aheadB,behindB,sepOf,catL,e,z24,z26]
 ·obtain⟨x,rfl⟩:=one (by omega)
  simp[aheadB,behindB,sepOf,catL,e,z27,z29]
def ClsOk (deb:List Int):Prop:=∀ a b c d:Int,(∀ x∈[a,b,c,d],u64ok x)→classR (runsR (hasR [a,b,c,d]) 256)=classB deb a b c d
theorem countB_ne (lo:Nat) (hi:Int):countB lo hi≠[]:=by
 unfold countB repB
 cases (decide ((0:Int)=lo) && decide (1=hi))<;>cases (decide ((0:Int)=lo) && decide (-1=hi))<;>cases (decide ((1:Int)=lo) && decide (-1=hi))<;>cases decide (hi=lo)<;>cases decide (hi=-1)<;>simp
theorem classB_ne (deb:List Int) (a b c d:Int):classB deb a b c d≠[]:=by
 unfold classB
 cases (a == notV 0 && (b == notV 0 && (c == notV 0 && d == notV 0)))<;>simp
theorem fits_named {d:Nd} {n:Int} (h:fits d n=true) (h3:d.k=3):d.t≠⟨#[]⟩:=by
 unfold fits at h
 rw[h3] at h
 simp[cntLo,cntHi,countsL,mayName] at h
 intro e
 simp[e] at h
theorem nodeR_ne (deb:List Int) {d:Nd} (h0:0≤d.k) (h:fits d d.kids.length=true) {L:List (List UInt8)} (hL:L.length=d.kids.length):nodeR deb d L≠[]:=by
 have hs:=(fits_says h).k
 have hm:=fits_more h0 h
 have hk:d.k=0∨d.k=1∨d.k=2∨d.k=3∨d.k=4∨d.k=5∨d.k=6∨d.k=7∨d.k=8∨d.k=9:=by omega
 have two:d.k=4∨d.k=5→∃ x y zs,L=x::y::zs:=fun q=>by
  have:=hm.two q
  match L,hL with
  | x::y::zs,_=>exact⟨x,y,zs,rfl⟩
  | [],hL=>simp at hL;omega
  | [_],hL=>simp at hL;omega
 unfold nodeR
 rcases hk with e | e | e | e | e | e | e | e | e | e
 ·simp[e]
 ·simp only[e,decide_true,cond_true]
  exact classB_ne deb d.s0 d.s1 d.s2 d.s3
 ·simp[e,litB]
 ·have:=fits_named h e
  simp[e]
  intro q
  exact this (ByteArray.ext (by simpa using q))
 ·obtain⟨x,y,zs,rfl⟩:=two (.inl e)
  simp[e,catL]
 ·obtain⟨x,y,zs,rfl⟩:=two (.inr e)
  simp[e,catL]
 ·have:=countB_ne d.lo.toNat d.hi
  simp[e,this]
 ·simp[e]
 ·simp[e]
 ·simp[e]
theorem treeB_ne (deb:List Int) {I:GH} {t:Tr} (ht:t.ok I) (hr:right t=true):treeB deb t≠[]:=by
 obtain⟨g1,g2⟩:=right_root hr
 obtain⟨r,hr'⟩:=Int.eq_ofNat_of_zero_le g1
 have hrl:r < t.ns.length:=by omega
 have hfit:=right_fits hr hrl
 have h0:=(ht.ns _ (List.getElem_mem hrl)).k.1
 rw[treeB,hr,cond_true,hr',textOf_eq hr hrl,nodeT_eq deb t.ns h0 hfit]
 exact nodeR_ne deb h0 hfit (by simp)
theorem findAt_shift (nm:ByteArray):∀ (ds:List Df) (i:Nat),findAt nm ds i=bif decide (findAt nm ds 0 < 0) then -1 else findAt nm ds 0+i
 | [],i=>rfl
 | d::ds,i=>by
  unfold findAt
  cases h:decide (d.name=nm) with
  | true=>
   have:decide ((((0:Nat):Int)) < 0)=false:=by decide
   simp[this]
  | false=>
   rw[cond_false,cond_false,findAt_shift nm ds (i+1),findAt_shift nm ds (0+1)]
   have hr:findAt nm ds 0 < 0∨0≤findAt nm ds 0:=by omega
   rcases hr with hr | hr
   ·rw[decide_eq_true hr]
    rfl
   ·have e:decide (findAt nm ds 0 < 0)=false:=decide_eq_false (by omega)
    rw[e,cond_false,cond_false]
    have e2:decide (findAt nm ds 0+((0+1:Nat):Int) < 0)=false:=decide_eq_false (by omega)
    rw[e2,cond_false]
    omega
theorem findAt_split (nm:ByteArray) (hs bs:List Df):findAt nm (hs++bs) 0=bif decide (findAt nm hs 0 < 0) then findAt nm bs hs.length else findAt nm hs 0:=by
 have key:∀ (hs:List Df) (i:Nat),findAt nm (hs++bs) i=bif decide (findAt nm hs i < 0) then findAt nm bs (i+hs.length) else findAt nm hs i:=by
  intro hs
  induction hs with
  | nil=>intro i;simp[findAt]
  | cons d hs ih=>
   intro i
   rw[List.cons_append,findAt,findAt]
   cases decide (d.name=nm) with
   | true=>
    have:decide ((i:Int) < 0)=false:=decide_eq_false (by omega)
    rw[cond_true,cond_true,this,cond_false]
   | false=>
    rw[cond_false,cond_false,ih (i+1),List.length_cons]
    rw[show i+1+hs.length=i+(hs.length+1) from by omega]
 have:=key hs 0
 rwa [Nat.zero_add] at this
structure SeenAs (hs:List Df) (acc:List (ByteArray×Int)):Prop where
 look:∀ nm,(lookM nm acc).isSome=decide (0≤findAt nm hs 0)
theorem lookM_app (nm:ByteArray) (p:ByteArray×Int):∀ acc:List (ByteArray×Int),(lookM nm (acc++[p])).isSome=((lookM nm acc).isSome || decide (nm=p.1))
 | []=>by
  show (bif decide (nm=p.1) then some p.2 else none:Option Int).isSome=_
  cases decide (nm=p.1)<;>rfl
 | q::acc=>by
  rw[List.cons_append,lookM,lookM]
  cases decide (nm=q.1) with
  | true=>rfl
  | false=>rw[cond_false,cond_false,lookM_app nm p acc]
theorem SeenAs.snoc {hs:List Df} {acc:List (ByteArray×Int)} (h:SeenAs hs acc) (d:Df) (v:Int):SeenAs (hs++[d]) (acc++[(d.name,v)]):=by
 refine⟨fun nm=>?_⟩
 rw[lookM_app,h.look,findAt_split]
 by_cases hr:findAt nm hs 0 < 0
 ·rw[decide_eq_true hr,cond_true,decide_eq_false (by omega:¬ 0≤findAt nm hs 0),Bool.false_or]
  unfold findAt
  have:decide (d.name=nm)=decide (nm=d.name):=decide_eq_decide.2 ⟨Eq.symm,Eq.symm⟩
  rw[this]
  cases decide (nm=d.name) with
  | true=>simp
  | false=>
   rw[cond_false]
   rfl
 ·rw[decide_eq_false hr,cond_false,decide_eq_true (by omega:0≤findAt nm hs 0),Bool.true_or]
def firstOf (ds:List Df) (i:Nat):Bool:=match ds[i]? with
 | some d=>decide (findAt d.name ds 0=i)
 | none=>true
theorem findAt_self (d:Df) (bs:List Df) (i:Nat):findAt d.name (d::bs) i=i:=by
 rw[findAt,decide_eq_true rfl]
 rfl
theorem dups_spec (bs:List Df):∀ (hs:List Df) (acc:List (ByteArray×Int)),SeenAs hs acc→(∀ i,i < hs.length→firstOf (hs++bs) i=true) →
  match dups acc hs.length bs with
  | none=>∃ i,i < (hs++bs).length∧firstOf (hs++bs) i=false∧∀ k,k < i→firstOf (hs++bs) k=true
  | some r=>SeenAs (hs++bs) r∧∀ i,i < (hs++bs).length→firstOf (hs++bs) i=true:=by
 induction bs with
 | nil=>
  intro hs acc h hf
  rw[List.append_nil] at *
  exact⟨h,hf⟩
 | cons d bs ih=>
  intro hs acc h hf
  have hat:(hs++d::bs)[hs.length]?=some d:=by simp
  have hfi:firstOf (hs++d::bs) hs.length=!(lookM d.name acc).isSome:=by
   unfold firstOf
   rw[hat,h.look]
   simp only
   rw[findAt_split]
   by_cases hr:findAt d.name hs 0 < 0
   ·rw[decide_eq_true hr,cond_true,findAt_self]
    simp;omega
   ·rw[decide_eq_false hr,cond_false]
    have hlt:findAt d.name hs 0 < hs.length:=by
     have:∀ (hs:List Df) (i:Nat),0≤findAt d.name hs i→findAt d.name hs i < i+hs.length:=by
      intro hs
      induction hs with
      | nil=>intro i h;simp[findAt] at h
      | cons e hs ih2=>
       intro i h
       unfold findAt at h ⊢
       cases hc:decide (e.name=d.name) with
       | true=>simp;omega
       | false=>
        rw[hc,cond_false] at h
        rw[cond_false]
        have:=ih2 (i+1) h
        simp
        omega
     have:=this hs 0 (by omega)
     omega
    have e1:decide (findAt d.name hs 0=(hs.length:Int))=false:=decide_eq_false (by omega)
    have e2:decide (0≤findAt d.name hs 0)=true:=decide_eq_true (by omega)
    rw[e1,e2]
    rfl
  rw[dups]
  cases hl:(lookM d.name acc).isSome with
  | true=>
   rw[hl] at hfi
   exact⟨hs.length,by simp,hfi,hf⟩
  | false=>
   rw[hl] at hfi
   have:=ih (hs++[d]) (acc++[(d.name,(hs.length:Int))]) (h.snoc d _) (fun i hi=>by
    rw[List.append_assoc]
    simp at hi
    rcases Nat.lt_or_eq_of_le (Nat.lt_succ_iff.1 (by omega:i < hs.length+1)) with h1 | h1
    ·exact hf i h1
    ·rw[h1];exact hfi)
   rw[List.length_append,List.append_assoc] at this
   exact this
theorem seen0:SeenAs [] []:=⟨fun nm=>by simp[lookM,findAt]⟩
def nodeOk2 (ds:List Df) (n:Nd):Bool:=!decide (n.k=3) || decide (0≤findAt n.t ds 0)
theorem nodePairs_all (p:Nd→Bool):∀ (ds:List Df) (i:Nat),((nodePairs i ds).all fun x=>p x.2)=ds.all fun d=>d.t.ns.all p
 | [],i=>rfl
 | d::ds,i=>by
  rw[nodePairs,List.all_append,List.all_cons,nodePairs_all p ds (i+1),List.all_map]
  rfl
def mayR (deb:List Int) (g:Gr):Int:=
 bif decide ((g.n:Int)=0) then 4 else bif !okDefs g.ds then 4 else bif largeG deb g then 40 else
 bif !(List.range g.ds.length).all (firstOf g.ds) then 6 else bif g.ds.all fun d=>d.t.ns.all (nodeOk2 g.ds) then 0 else 41
theorem mayR_eq (deb:List Int) (g:Gr):mayR deb g=mayG deb g:=by
 unfold mayR mayG
 have h:=dups_spec g.ds [] [] seen0 (fun i hi=>by simp at hi)
 simp only[List.length_nil,List.nil_append] at h
 cases hd:dups [] 0 g.ds with
 | none=>
  rw[hd] at h
  obtain⟨i,h1,h2,_⟩:=h
  have:(List.range g.ds.length).all (firstOf g.ds)=false:=by
   rw[Bool.eq_false_iff]
   intro hall
   rw[List.all_eq_true] at hall
   have:=hall i (List.mem_range.2 h1)
   rw[h2] at this
   cases this
  rw[this]
  rfl
 | some acc=>
  rw[hd] at h
  obtain⟨h1,h2⟩:=h
  have h3:(List.range g.ds.length).all (firstOf g.ds)=true:=by
   rw[List.all_eq_true]
   intro i hi
   exact h2 i (List.mem_range.1 hi)
  rw[h3]
  have h4:(g.ds.all fun d=>d.t.ns.all (nodeOk2 g.ds))=allNamed acc g.ds:=by
   unfold allNamed
   rw[nodePairs_all]
   congr 1
   funext d
   congr 1
   funext n
   unfold nodeOk nodeOk2
   rw[h1.look]
  rw[h4]
  rfl
theorem firstOf_lt {ds:List Df} {i:Nat} (h:i < ds.length):firstOf ds i=decide (findAt ds[i].name ds 0=i):=by
 unfold firstOf
 rw[List.getElem?_eq_getElem h]
theorem firstAt_find (nm:ByteArray):∀ (ds:List Df) (i:Nat),firstAt nm ds i=bif decide (findAt nm ds i < 0) then none else some (findAt nm ds i)
 | [],i=>rfl
 | d::ds,i=>by
  unfold firstAt findAt
  rw[show decide (nm=d.name)=decide (d.name=nm) by rw[Bool.eq_iff_iff];simp[eq_comm]]
  cases decide (d.name=nm) with
  | true=>
   rw[cond_true,cond_true,decide_eq_false (by omega)]
   rfl
  | false=>
   rw[cond_false,cond_false]
   exact firstAt_find nm ds (i+1)
theorem look_find (nm:ByteArray) (ds:List Df):lookM nm (placesL ds)=bif decide (findAt nm ds 0 < 0) then none else some (findAt nm ds 0):=by
 rw[places_first,firstAt_find]
theorem findAt_of {nm:ByteArray} {ds:List Df} (h:(lookM nm (placesL ds)).isSome=true):∃ q:Nat,findAt nm ds 0=q∧q < ds.length∧((lookM nm (placesL ds)).getD 0).toNat=q:=by
 have hlk:=look_find nm ds
 cases hd:decide (findAt nm ds 0 < 0) with
 | true=>
  rw[hd,cond_true] at hlk
  rw[hlk] at h
  cases h
 | false=>
  rw[hd,cond_false] at hlk
  have h4:¬ findAt nm ds 0 < 0:=of_decide_eq_false hd
  obtain⟨q,hq⟩:=Int.eq_ofNat_of_zero_le (by omega:0≤findAt nm ds 0)
  have hlk':=hlk
  rw[places_first] at hlk'
  obtain⟨j,hj1,hj2⟩:=firstAt_lt hlk'
  refine⟨q,hq,by omega,?_⟩
  rw[hlk,hq]
  rfl
def Sy.marks (s:Sy) (i:Nat) (l:List Nat):Sy:=l.foldl (fun s k=>s.mark i k) s
theorem Sy.marks_app (s:Sy) (i:Nat) (l m:List Nat):s.marks i (l++m)=(s.marks i l).marks i m:=List.foldl_append
theorem Sy.marks_len:∀ (l:List Nat) (s:Sy) (i:Nat),(s.marks i l).m.length=s.m.length
 | [],s,i=>rfl
 | k::l,s,i=>by
  have:=Sy.marks_len l (s.mark i k) i
  unfold Sy.marks at this ⊢
  rw[List.foldl_cons,this]
  simp[Sy.mark]
def learnV (b1 b6 b7:Nat):Value:=.func (.func 143) #[] #[ptr b1,ptr b6,ptr b7]
set_option maxRecDepth 100000 in
set_option maxHeartbeats 8000000 in
theorem lefts_spec {I:GH} {g:Gr} (hg:g.ok I) (h64:g.n≤64) {t:Tr} (ht:t.ok I) (hkb:KB t) (hr:right t=true) (hno:namedOk (placesL g.ds) t.ns=true) {F:List Fl} {M1:List Blk} {b1 b6 b7 i:Nat} (hi:i < 64)
  (h1:(⟨b1,.cells #[.slice g.a g.n g.c] 30 (0,0)⟩:Blk)∈M1) (h7:(⟨b7,.cells #[.int .i64 i] 3 (0,0)⟩:Blk)∈M1) {xa:Option Addr} {xc:Nat} (hx:FsAt I M1 xa t.n (nodesF (placesL g.ds) F t.ns [])) :
  ∀ (m j:Nat),j < m→∀ (hj:j < t.ns.length) (s:Sy) (hs:s.m.length=64),Spec Tryz.prog 142 [t.val,.slice xa t.n xc,.int .i64 j,learnV b1 b6 b7] I (sBlk b6 s::M1) fun v I' M'=>I'=I∧M'=sBlk b6 (s.marks i (leftAt (placesL g.ds) F t.ns j).2)::M1
 | 0,j,h,_,_,_=>absurd h (Nat.not_lt_zero _)
 | m+1,j,hjm,hj,s,hs=>by
  have ih:=lefts_spec (b6:=b6) (xc:=xc) hg h64 ht hkb hr hno hi h1 h7 hx m
  have htn:=ht.n
  have hgn:=hg.n
  have hdm:=List.getElem_mem hj
  have hd:=ht.ns _ hdm
  have hkn:=hd.kn
  have hkbd:=hkb _ hdm
  have hfit:=right_fits hr hj
  have hfm:=fits_more hd.k.1 hfit
  have hkv:=right_kids hr j hj
  have hnm:=List.all_eq_true.1 hno _ hdm
  have hle:=left_eq (pl:=placesL g.ds) (F:=F) hr hj
  have hxl:=nodesF_len (placesL g.ds) F t.ns []
  simp only[List.length_nil,Nat.zero_add] at hxl
  obtain⟨ad,had,hrd⟩:=ht.rs.row Nd.cells_len (show j < t.n by omega) hj
  have hl2:(leftAt (placesL g.ds) F t.ns j).2=leftsD (placesL g.ds) t.ns[j] (t.ns[j].kids.map (leftAt (placesL g.ds) F t.ns)):=by rw[hle];rfl
  rw[hl2]
  clear hle hl2
  have hkid:∀ q (h:q < t.ns[j].kids.length),∃ k:Nat,t.ns[j].kids[q]=k∧k < j:=fun q h=>by
   have:=hkv _ (List.getElem_mem h)
   exact⟨t.ns[j].kids[q].toNat,by omega,by omega⟩
  generalize t.ns[j]=d at *
  refine spec_of_V [] TryzEOK Tryz.func142 rfl rfl rfl ?_
  intro B h0
  refine IdxOb.mk ad j had rfl (by omega) ?_
  refine LoadOb.mk _ (hrd _) ?_
  refine CondOb.mk (fun e=>?_) (fun e3=>?_)
  ·have e:d.k=3:=of_decide_eq_true e
   obtain⟨q,hq1,hq2,hq3⟩:=findAt_of (nm:=d.t) (ds:=g.ds) (by simpa[e] using hnm)
   refine CallOb.whole _ (learn1_spec hg hq1 (by omega) hi hs h1 h7) ?_
   rintro v J N - ⟨hJ,hN⟩
   subst J
   subst N
   refine⟨_,_,.refl,rfl,?_⟩
   rw[leftsD,decide_eq_true e,cond_true,hq3]
   rfl
  have e3:¬ d.k=3:=of_decide_eq_false e3
  refine CondOb.mk (fun e=>?_) (fun e4=>?_)
  ·have e:d.k=4:=of_decide_eq_true e
   have hlD:leftsD (placesL g.ds) d (d.kids.map (leftAt (placesL g.ds) F t.ns))=takeZ (d.kids.map (leftAt (placesL g.ds) F t.ns)):=by
    rw[leftsD,decide_eq_false e3,decide_eq_true e]
    rfl
   rw[hlD]
   refine LoopOb.inv (ι:=Nat×Sy) (fun x=>{ fl:=[(1,.val (.slice xa t.n xc)),(3,.val (learnV b1 b6 b7)),(4,.ref 4 0),(42,.val (.slice d.ka d.kn d.kc)),(43,.val (.int .i64 d.kn)),(44,.val (.int .i64 x.1))],cl:=[(4,t.cells)],gi:=I,mi:=sBlk b6 x.2::M1 })
    (fun x=>x.1≤d.kn∧x.2.m.length=64∧s.marks i (takeZ (d.kids.map (leftAt (placesL g.ds) F t.ns)))=x.2.marks i (takeZ ((d.kids.drop x.1).map (leftAt (placesL g.ds) F t.ns)))) (fun x=>d.kn - x.1) ?_ ?_
   ·exact⟨(0,s),⟨Nat.zero_le _,hs,rfl⟩,.refl,aF6,.cons rfl (.nil)⟩
   rintro⟨q,s'⟩ ⟨hq,hs',hgo⟩
   simp only at hq hs' hgo
   refine CondOb.mk (fun h=>?_) (fun h=>?_)
   rotate_left
   ·have hge:d.kids.length≤q:=by have:¬ (q:Int) < (d.kn:Int):=of_decide_eq_false h;omega
    rw[List.drop_of_length_le hge] at hgo
    refine⟨_,_,.refl,rfl,?_⟩
    rw[hgo]
    rfl
   have hlt:q < d.kn:=by have:(q:Int) < (d.kn:Int):=of_decide_eq_true h;omega
   have hlt':q < d.kids.length:=by omega
   obtain⟨ak,hak,hrk⟩:=hd.rs.one hlt hlt'
   obtain⟨k,hk,hkj⟩:=hkid q hlt'
   rw[hk] at hrk
   have hkx:k < (nodesF (placesL g.ds) F t.ns []).length:=by omega
   obtain⟨ax,hax,hrx⟩:=hx.rd k hkx
   have hdr:(d.kids.drop q).map (leftAt (placesL g.ds) F t.ns)=leftAt (placesL g.ds) F t.ns k::(d.kids.drop (q+1)).map (leftAt (placesL g.ds) F t.ns):=by
    rw[List.drop_eq_getElem_cons hlt',List.map_cons,hk]
   have hfl:(leftAt (placesL g.ds) F t.ns k).1=(nodesF (placesL g.ds) F t.ns [])[k]:=by
    rw[left_flow]
    simp[List.getD_eq_getElem?_getD,hkx]
   rw[hdr,takeZ,hfl,Sy.marks_app] at hgo
   refine IdxOb.mk ak q hak rfl hlt ?_
   refine LoadOb.mk _ (hrk _) ?_
   refine CallOb.whole _ (ih k (by omega) (by omega) s' hs') ?_
   rintro v J N - ⟨hJ,hN⟩
   subst J
   subst N
   refine IdxOb.mk ax k hax rfl (by omega) ?_
   refine LoadOb.mk _ ((hrx.sub fun x hx=>.tail _ hx).part (k:=0) (m:=1) (by decide)) ?_
   refine CondOb.mk (fun hz=>?_) (fun hz=>?_)
   ·have hz':(nodesF (placesL g.ds) F t.ns [])[k].z=false:=by simpa using hz
    rw[hz'] at hgo
    refine⟨_,_,.refl,rfl,?_⟩
    rw[hgo]
    rfl
   ·have hz':(nodesF (placesL g.ds) F t.ns [])[k].z=true:=by simpa using hz
    rw[hz'] at hgo
    refine ArithOb.mk _ (next_wr (i:=q) (by omega)) ?_
    exact⟨(q+1,s'.marks i (leftAt (placesL g.ds) F t.ns k).2),⟨⟨hlt,by rw[Sy.marks_len];exact hs',hgo⟩,by simp only;omega⟩,.refl,aF6,.cons rfl (.nil)⟩
  have e4:¬ d.k=4:=of_decide_eq_false e4
  refine CondOb.mk (fun e=>?_) (fun e6=>?_)
  ·have e:d.k=6:=of_decide_eq_true e
   have h1k:=hfm.one (by omega)
   have hk0:0 < d.kids.length:=by omega
   refine CondOb.mk (fun hh=>?_) (fun hh=>?_)
   ·have hh':decide (d.hi=0)=false:=by
     have hh2:(!decide (d.hi=0))=true:=hh
     simpa using hh2
    obtain⟨ak,hak,hrk⟩:=hd.rs.one (j:=0) (by omega) hk0
    obtain⟨k,hk,hkj⟩:=hkid 0 hk0
    rw[hk] at hrk
    have hlD:leftsD (placesL g.ds) d (d.kids.map (leftAt (placesL g.ds) F t.ns))=(leftAt (placesL g.ds) F t.ns k).2:=by
     have hkk:d.kids=[(k:Int)]:=by
      match hx:d.kids,hk0,h1k,hk with
      | [a],_,_,hk=>simp only[List.getElem_cons_zero] at hk;rw[hk]
      | _::_::_,_,h,_=>simp at h;omega
     rw[leftsD,decide_eq_false e3,decide_eq_false e4,hh',hkk]
     simp
    rw[hlD]
    refine CodeOb.draw TryzEOK rfl rfl rfl ?_
    refine IdxOb.mk ak 0 hak rfl (by omega) ?_
    refine LoadOb.mk _ (hrk _) ?_
    refine CallOb.whole _ (ih k (by omega) (by omega) s hs) ?_
    rintro v J N - ⟨hJ,hN⟩
    subst J
    subst N
    exact⟨_,_,.refl,rfl,rfl⟩
   ·have hh':decide (d.hi=0)=true:=by
     have hh2:(!decide (d.hi=0))=false:=hh
     simpa using hh2
    have hlD:leftsD (placesL g.ds) d (d.kids.map (leftAt (placesL g.ds) F t.ns))=[]:=by
     rw[leftsD,decide_eq_false e3,decide_eq_false e4,decide_eq_true e,hh']
     rfl
    rw[hlD]
    exact⟨_,_,.refl,rfl,rfl⟩
  have e6:¬ d.k=6:=of_decide_eq_false e6
  have hlD:leftsD (placesL g.ds) d (d.kids.map (leftAt (placesL g.ds) F t.ns))=(d.kids.map (leftAt (placesL g.ds) F t.ns)).flatMap (·.2):=by
   rw[leftsD,decide_eq_false e3,decide_eq_false e4,decide_eq_false e6]
   rfl
  rw[hlD]
  refine LoopOb.inv (ι:=Nat×Sy) (fun x=>{ fl:=[(1,.val (.slice xa t.n xc)),(3,.val (learnV b1 b6 b7)),(4,.ref 4 0),(21,.val (.slice d.ka d.kn d.kc)),(22,.val (.int .i64 d.kn)),(23,.val (.int .i64 x.1))],cl:=[(4,t.cells)],gi:=I,mi:=sBlk b6 x.2::M1 })
   (fun x=>x.1≤d.kn∧x.2.m.length=64∧s.marks i ((d.kids.map (leftAt (placesL g.ds) F t.ns)).flatMap (·.2))=x.2.marks i (((d.kids.drop x.1).map (leftAt (placesL g.ds) F t.ns)).flatMap (·.2))) (fun x=>d.kn - x.1) ?_ ?_
  ·exact⟨(0,s),⟨Nat.zero_le _,hs,rfl⟩,.refl,aF6,.cons rfl (.nil)⟩
  rintro⟨q,s'⟩ ⟨hq,hs',hgo⟩
  simp only at hq hs' hgo
  refine CondOb.mk (fun h=>?_) (fun h=>?_)
  rotate_left
  ·have hge:d.kids.length≤q:=by have:¬ (q:Int) < (d.kn:Int):=of_decide_eq_false h;omega
   rw[List.drop_of_length_le hge] at hgo
   refine⟨_,_,.refl,rfl,?_⟩
   rw[hgo]
   rfl
  have hlt:q < d.kn:=by have:(q:Int) < (d.kn:Int):=of_decide_eq_true h;omega
  have hlt':q < d.kids.length:=by omega
  obtain⟨ak,hak,hrk⟩:=hd.rs.one hlt hlt'
  obtain⟨k,hk,hkj⟩:=hkid q hlt'
  rw[hk] at hrk
  rw[List.drop_eq_getElem_cons hlt',List.map_cons,hk,List.flatMap_cons,Sy.marks_app] at hgo
  refine IdxOb.mk ak q hak rfl hlt ?_
  refine LoadOb.mk _ (hrk _) ?_
  refine CallOb.whole _ (ih k (by omega) (by omega) s' hs') ?_
  rintro v J N - ⟨hJ,hN⟩
  subst J
  subst N
  refine ArithOb.mk _ (next_wr (i:=q) (by omega)) ?_
  exact⟨(q+1,s'.marks i (leftAt (placesL g.ds) F t.ns k).2),⟨⟨hlt,by rw[Sy.marks_len];exact hs',hgo⟩,by simp only;omega⟩,.refl,aF6,.cons rfl (.nil)⟩
theorem Holds.permW {I:GH} {M N:List Blk} {w:World} (h:Holds I M w) (hp:M.Perm N):Holds I N w:=
 ⟨h.i,fun x hx=>h.m x (hp.mem_iff.2 hx),fun x hx=>h.d x (hp.mem_iff.2 hx),((hp.map (·.num)).nodup_iff).1 h.nd⟩
theorem Kept.permW {I I':GH} {M N M' N':List Blk} {w w':World} (h:Kept I M w I' M' w') (hp:M.Perm N) (hp':M'.Perm N'):Kept I N w I' N' w':=
 ⟨h.le,h.newI,fun x hx=>by
  rcases h.newM x (hp'.mem_iff.2 hx) with ⟨y,hy,e⟩ | h1
  ·exact .inl ⟨y,hp.mem_iff.1 hy,e⟩
  ·exact .inr h1,fun b hb hy=>h.old b hb fun y hy'=>hy y (hp.mem_iff.1 hy'),h.out,h.sz⟩
theorem Spec.permW {P:Program} {f:Nat} {args:List Value} {I:GH} {M N:List Blk} {p q:Value→GH→List Blk→Prop} (hp:M.Perm N) (hq:∀ v I' M',p v I' M'→∃ N',M'.Perm N'∧q v I' N') (h:Spec P f args I M p):Spec P f args I N q:=by
 rcases h with ⟨h1,h2⟩ | h2
 ·refine .inl ⟨h1,fun w hw=>(h2 w (hw.permW hp.symm)).mono ?_⟩
  rintro e w' ⟨v,I',M',h3,h4,h5,h6⟩
  obtain⟨N',h7,h8⟩:=hq _ _ _ h4
  exact⟨v,I',N',h3,h8,h5.permW h7,h6.permW hp h7⟩
 ·refine .inr fun w hw=>?_
  obtain⟨v,w',I',M',h3,h4,h5,h6⟩:=h2 w (hw.permW hp.symm)
  obtain⟨N',h7,h8⟩:=hq _ _ _ h4
  exact⟨v,w',I',N',h3,h8,h5.permW h7,h6.permW hp h7⟩
def Sy.loop (s:Sy) (i:Nat):Sy:=⟨s.n,s.m,s.w ||| bitW i⟩
def stepS (pl:List (ByteArray×Int)) (F:List Fl) (s:Sy) (i:Nat) (d:Df):Sy:=
 bif endlessN d.t.ns (nodesF pl F d.t.ns []) then (s.marks i (leftAt pl F d.t.ns d.t.root).2).loop i else s.marks i (leftAt pl F d.t.ns d.t.root).2
def sy0 (n:Nat):Sy:=⟨n,List.replicate 64 0,0⟩
def syGo (pl:List (ByteArray×Int)) (F:List Fl):Nat→List Df→Sy→Sy
 | _,[],s=>s
 | i,d::ds,s=>syGo pl F (i+1) ds (stepS pl F s i d)
def syOf (ds:List Df) (F:List Fl):Sy:=syGo (placesL ds) F 0 ds (sy0 ds.length)
theorem stepS_len (pl:List (ByteArray×Int)) (F:List Fl) (s:Sy) (i:Nat) (d:Df):(stepS pl F s i d).m.length=s.m.length:=by
 unfold stepS
 cases endlessN d.t.ns (nodesF pl F d.t.ns []) with
 | true=>exact Sy.marks_len _ s i
 | false=>exact Sy.marks_len _ s i
theorem syGo_snoc (pl:List (ByteArray×Int)) (F:List Fl):∀ (l:List Df) (i:Nat) (s:Sy) (d:Df),syGo pl F i (l++[d]) s=stepS pl F (syGo pl F i l s) (i+l.length) d
 | [],i,s,d=>rfl
 | a::l,i,s,d=>by
  rw[List.cons_append,syGo,syGo,syGo_snoc pl F l]
  congr 1
  simp
  omega
theorem syGo_len (pl:List (ByteArray×Int)) (F:List Fl):∀ (l:List Df) (i:Nat) (s:Sy),(syGo pl F i l s).m.length=s.m.length
 | [],i,s=>rfl
 | d::l,i,s=>by rw[syGo,syGo_len pl F l,stepS_len]
theorem sBlk_w {I:GH} {M:List Blk} {b:Nat} {s:Sy} (hM:sBlk b s∈M):Rd I M ((⟨b,0,none⟩:Addr).add 65) 1 [wordV s.w]:=by
 rw[addr_add _ rfl]
 refine⟨rfl,_,_,_,.inr ⟨_,hM,rfl,rfl⟩,?_,rfl⟩
 show (s.cells.drop (0+65)).take 1=_
 rw[Sy.cells,Nat.zero_add,List.drop_succ_cons,List.drop_left' (rowC_len _)]
 rfl
theorem sBlk_loop (s:Sy) (i:Nat):splice s.cells (0+65) [wordV (s.w ||| bitW i)]=(s.loop i).cells:=by
 unfold Sy.cells Sy.loop splice
 simp only[Nat.zero_add,List.length_cons,List.length_nil]
 rw[List.take_succ_cons,List.take_left' (rowC_len _),List.drop_succ_cons,List.drop_of_length_le (by simp[rowC_len])]
 simp
theorem sBlk_all {I:GH} {M:List Blk} {b:Nat} {s:Sy} (hM:sBlk b s∈M):Rd I M (⟨b,0,none⟩:Addr) 66 s.cells:=
 ⟨rfl,_,_,_,.inr ⟨_,hM,rfl,rfl⟩,by simp only[List.drop_zero];exact List.take_of_length_le (show s.cells.length≤66 by rw[Sy.cells_len];exact Nat.le_refl _),Sy.cells_len s⟩
set_option maxRecDepth 100000 in
set_option maxHeartbeats 8000000 in
theorem learn_spec {I:GH} {deb:List Int} (hT:Tabs I deb) {g:Gr} (hg:g.ok I) (hkb:∀ d∈g.ds,KB d.t) (h64:mayG deb g=0→g.n≤64):Spec Tryz.prog 99 [g.val] I [] fun v I' M'=>(∀ b o,I b=some o→I' b=some o)∧M'=[] ∧
  ((mayG deb g≠0∧v=.tuple #[(sy0 0).val,.int .i64 (mayG deb g)])∨(mayG deb g=0∧∃ F,IsFlow g.ds F∧v=.tuple #[(syOf g.ds F).val,.int .i64 0])):=by
 refine spec_of_V [1,2,6,7] TryzEOK Tryz.func99 rfl rfl rfl ?_
 intro B h0
 have hgn:=hg.n
 have hcap:=hg.rs.cap
 refine AllocOb.mk fun b1 hb1 hbM1=>?_
 refine AllocOb.mk fun b2 hb2 hbM2=>?_
 refine LoadOb.mk [.slice g.a g.n g.c] (blk_rd (cs:=[.slice g.a g.n g.c]) (k:=0) (n:=1) (.tail _ (.head _)) (by simp)) ?_
 refine CallOb.mk [] [sBlk b2 (sy0 0),⟨b1,.cells #[.slice g.a g.n g.c] 30 (0,0)⟩] _ (.refl _) (FOf_spec hT hg) ?_
 rintro v I1 N - ⟨hI1,⟨hm,rfl,rfl⟩ | ⟨hm,bf,F,rfl,rfl,hF⟩⟩
 ·refine CondOb.mk (fun _=>?_) (fun h=>absurd h (by simp[hm]))
  refine StoreOb.to [] _ _ _ rfl rfl rfl rfl (sy0 0).cells rfl ?_
  refine LoadOb.mk _ (sBlk_all (.head _)) ?_
  exact⟨_,_,.sub (List.nil_sublist _) .refl,hI1,rfl,.inl ⟨hm,rfl⟩⟩
 refine CondOb.mk (fun h=>absurd h (by simp)) (fun _=>?_)
 have hM:=mayF_of hgn hm
 have hFn:F.length=g.n:=by rw[hF.len,hgn]
 have hn64:=h64 hm
 refine LoadOb.mk [.slice g.a g.n g.c] (blk_rd (cs:=[.slice g.a g.n g.c]) (k:=0) (n:=1) (.tail _ (.tail _ (.head _))) (by simp)) ?_
 refine AllocOb.mk fun b6 hb6 hbM6=>?_
 refine StoreOb.to [] _ _ _ rfl rfl rfl rfl (sy0 g.n).cells rfl ?_
 refine LoadOb.mk [.slice g.a g.n g.c] (blk_rd (cs:=[.slice g.a g.n g.c]) (k:=0) (n:=1) (.tail _ (.tail _ (.tail _ (.head _)))) (by simp)) ?_
 refine LoopOb.inv (ι:=Nat×GH) (fun x=>{ fl:=[(1,.val (ptr b1)),(2,.val (ptr b2)),(4,.val (.slice (some ⟨bf,0,none⟩) g.n g.n)),(6,.val (ptr b6)),(25,.val (.slice g.a g.n g.c)),(26,.val (.int .i64 g.n)),(27,.val (.int .i64 x.1))],cl:=[],gi:=x.2,mi:=[sBlk b6 (syGo (placesL g.ds) F 0 (g.ds.take x.1) (sy0 g.n)),flRow bf F,sBlk b2 (sy0 0),⟨b1,.cells #[.slice g.a g.n g.c] 30 (0,0)⟩] })
  (fun x=>x.1≤g.n∧∀ b o,I b=some o→x.2 b=some o) (fun x=>g.n - x.1) ?_ ?_
 ·exact⟨(0,I1),⟨Nat.zero_le _,hI1⟩,.refl,aF7,.nil⟩
 rintro⟨i,J⟩ ⟨hi,hJ⟩
 simp only at hi hJ
 refine CondOb.mk (fun h=>?_) (fun h=>?_)
 rotate_left
 ·have hge:i=g.n:=by have:¬ (i:Int) < (g.n:Int):=of_decide_eq_false h;omega
  refine LoadOb.mk _ (sBlk_all (.head _)) ?_
  refine StoreOb.to [sBlk b6 (syGo (placesL g.ds) F 0 (g.ds.take i) (sy0 g.n)),flRow bf F] _ _ _ rfl rfl rfl rfl (syGo (placesL g.ds) F 0 (g.ds.take i) (sy0 g.n)).cells ?_ ?_
  ·rfl
  refine LoadOb.mk _ (sBlk_all (.tail _ (.tail _ (.head _)))) ?_
  refine⟨_,_,.sub (List.nil_sublist _) .refl,hJ,rfl,.inr ⟨hm,F,hF,?_⟩⟩
  rw[hge,List.take_of_length_le (l:=g.ds) (by omega),syOf,hgn]
  rfl
 have hlt:i < g.n:=by have:(i:Int) < (g.n:Int):=of_decide_eq_true h;omega
 have hlt':i < g.ds.length:=by omega
 have hgJ:=hg.mono hJ
 have hTJ:=hT.mono hJ
 obtain⟨ad,had,hrd⟩:=hgJ.rs.row Df.cells_len hlt hlt'
 have hdm:=List.getElem_mem hlt'
 have hd:=hgJ.ds _ hdm
 have hr:=hM.right _ hdm
 have hno:=hM.named _ hdm
 have hkbd:=hkb _ hdm
 have hsn:syGo (placesL g.ds) F 0 (g.ds.take (i+1)) (sy0 g.n)=stepS (placesL g.ds) F (syGo (placesL g.ds) F 0 (g.ds.take i) (sy0 g.n)) i g.ds[i]:=by
  rw[List.take_succ_eq_append_getElem hlt',syGo_snoc,List.length_take_of_le (by omega),Nat.zero_add]
 have hsl:(syGo (placesL g.ds) F 0 (g.ds.take i) (sy0 g.n)).m.length=64:=by rw[syGo_len];rfl
 generalize g.ds[i]=d at hrd hd hr hno hkbd hsn
 refine IdxOb.mk ad i had rfl hlt ?_
 refine LoadOb.mk _ (hrd _) ?_
 refine AllocOb.mk fun b7 hb7 hbM7=>?_
 refine StoreOb.to [] _ _ _ rfl rfl rfl rfl [.int .i64 i] rfl ?_
 refine LoadOb.mk [.slice g.a g.n g.c] (blk_rd (cs:=[.slice g.a g.n g.c]) (k:=0) (n:=1) (.tail _ (.tail _ (.tail _ (.tail _ (.head _))))) (by simp)) ?_
 generalize hsv:syGo (placesL g.ds) F 0 (g.ds.take i) (sy0 g.n)=s at hsl hsn ⊢
 have hat:∀ {M:List Blk},flRow bf F∈M→FsAt J M (some ⟨bf,0,none⟩) g.n F:=fun hM'=>by
  have:=flRow_at (I:=J) hM'
  rwa [hFn] at this
 have hnp:nodesP g F d.t=some (nodesF (placesL g.ds) F d.t.ns []):=by
  rw[nodesP,hr,hno,decide_eq_true hFn]
  rfl
 refine CallOb.whole _ (FNodes_spec (lc:=g.n) hTJ hgJ hd.t (hat (.tail _ (.tail _ (.head _))))) ?_
 rintro v J2 M2 - ⟨hJ2,⟨hn,-,-⟩ | ⟨r,bx,hn,rfl,rfl⟩⟩
 ·rw[hnp] at hn;cases hn
 rw[hnp] at hn
 obtain rfl:=Option.some.inj hn
 refine GuardOb.mk (fun h=>?_) (fun h=>?_)
 rotate_left
 ·cases h
 refine CondOb.mk (fun h=>absurd h (by simp)) (fun _=>?_)
 have hroot:=right_root hr
 have hls:=lefts_spec (b1:=b1) (b6:=b6) (b7:=b7) (i:=i) (xa:=some ⟨bx,0,none⟩) (xc:=d.t.n) (F:=F) (hgJ.mono hJ2) hn64 (hd.t.mono hJ2) hkbd hr hno (by omega) (M1:=[flRow bx (nodesF (placesL g.ds) F d.t.ns []),⟨b7,.cells #[.int .i64 i] 3 (0,0)⟩,flRow bf F,sBlk b2 (sy0 0),⟨b1,.cells #[.slice g.a g.n g.c] 30 (0,0)⟩]) (.tail _ (.tail _ (.tail _ (.tail _ (.head _))))) (.tail _ (.head _)) (by
  have:=flRow_at (I:=J2) (M:=[flRow bx (nodesF (placesL g.ds) F d.t.ns []),⟨b7,.cells #[.int .i64 i] 3 (0,0)⟩,flRow bf F,sBlk b2 (sy0 0),⟨b1,.cells #[.slice g.a g.n g.c] 30 (0,0)⟩]) (b:=bx) (l:=nodesF (placesL g.ds) F d.t.ns []) (.head _)
  rw[nodesF_len,hd.t.n] at this
  simpa using this) d.t.ns.length d.t.root.toNat (by omega) (by omega) s hsl
 rw[Int.toNat_of_nonneg hroot.1] at hls
 have hls2:=Spec.permW (q:=fun v I' M'=>I'=J2∧M'=sBlk b6 (s.marks i (leftAt (placesL g.ds) F d.t.ns d.t.root.toNat).2)::[flRow bx (nodesF (placesL g.ds) F d.t.ns []),⟨b7,.cells #[.int .i64 i] 3 (0,0)⟩,flRow bf F,sBlk b2 (sy0 0),⟨b1,.cells #[.slice g.a g.n g.c] 30 (0,0)⟩]) (List.perm_middle (a:=sBlk b6 s) (l₁:=[flRow bx (nodesF (placesL g.ds) F d.t.ns []),⟨b7,.cells #[.int .i64 i] 3 (0,0)⟩]) (l₂:=[flRow bf F,sBlk b2 (sy0 0),⟨b1,.cells #[.slice g.a g.n g.c] 30 (0,0)⟩])).symm (fun v I' M' h=>⟨M',.refl _,h⟩) hls
 refine CallOb.whole _ hls2 ?_
 rintro v J3 N - ⟨hJ3,hN⟩
 subst J3
 subst N
 generalize hs1:s.marks i (leftAt (placesL g.ds) F d.t.ns d.t.root.toNat).2=s1 at *
 have hs1l:s1.m.length=64:=by rw[←hs1,Sy.marks_len,hsl]
 refine CallOb.whole _ (endless_spec (xs:=nodesF (placesL g.ds) F d.t.ns []) (hd.t.mono hJ2) hr ?_) ?_
 ·have:=flRow_at (I:=J2) (M:=sBlk b6 s1::[flRow bx (nodesF (placesL g.ds) F d.t.ns []),⟨b7,.cells #[.int .i64 i] 3 (0,0)⟩,flRow bf F,sBlk b2 (sy0 0),⟨b1,.cells #[.slice g.a g.n g.c] 30 (0,0)⟩]) (b:=bx) (l:=nodesF (placesL g.ds) F d.t.ns []) (.tail _ (.head _))
  rw[nodesF_len,hd.t.n] at this
  simpa using this
 rintro v J3 N - ⟨hv,hJ3,hN⟩
 subst J3
 subst N
 subst v
 have hst:(sBlk b6 (stepS (placesL g.ds) F s i d))=(sBlk b6 (bif endlessN d.t.ns (nodesF (placesL g.ds) F d.t.ns []) then s1.loop i else s1)):=by
  rw[stepS,←hs1]
  rfl
 refine CondOb.mk (fun he=>?_) (fun he=>?_)
 rotate_left
 ·have he':endlessN d.t.ns (nodesF (placesL g.ds) F d.t.ns [])=false:=he
  refine ArithOb.mk _ (next_wr (i:=i) (by omega)) ?_
  refine⟨(i+1,J2),⟨⟨hlt,fun b o h=>hJ2 _ _ (hJ _ _ h)⟩,by simp only;omega⟩,.sub (.cons_cons _ (.cons _ (.cons _ (.refl _)))) (.eqM ?_),aF7,.nil⟩
  simp only
  rw[hsn,hst,he']
  rfl
 have he':endlessN d.t.ns (nodesF (placesL g.ds) F d.t.ns [])=true:=he
 refine CodeOb.draw TryzEOK rfl rfl rfl ?_
 refine LoadOb.mk _ (sBlk_w (.head _)) ?_
 refine LoadOb.mk [.int .i64 i] (blk_rd (cs:=[.int .i64 i]) (k:=0) (n:=1) (.tail _ (.tail _ (.head _))) (by simp)) ?_
 refine ShOb.mk i rfl ?_
 refine ArithOb.mk _ (shl_wr (by omega)) ?_
 refine StoreOb.addTo [] _ s1.cells _ rfl ?_ rfl (s1.loop i).cells ?_ ?_
 ·rw[Sy.cells_len]
  rfl
 ·show splice s1.cells (0+65) [Value.int .u64 (worV s1.w.toNat (bitW i).toNat)]=_
  rw[worV_bv]
  exact sBlk_loop s1 i
 refine ArithOb.mk _ (next_wr (i:=i) (by omega)) ?_
 refine⟨(i+1,J2),⟨⟨hlt,fun b o h=>hJ2 _ _ (hJ _ _ h)⟩,by simp only;omega⟩,.sub (.cons_cons _ (.cons _ (.cons _ (.refl _)))) (.eqM ?_),aF7,.nil⟩
 simp only
 rw[hsn,hst,he']
 rfl
def intsV (l:List Nat):List Value:=l.map fun n:Nat=>Value.int .i64 n
def wLoops (s:Sy):List Nat:=bitsOf s.w 64
open Classical in
noncomputable def wLeft (s:Sy):List Nat:=(List.range 64).filter fun i=>decide (ComesM s.m i i)
theorem wLeft_of {s:Sy} {b:W64} (h:∀ i,i < 64→(b.getLsbD i=true ↔ ComesM s.m i i)):bitsOf b 64=wLeft s:=by
 unfold bitsOf wLeft
 apply List.filter_congr
 intro i hi
 have:=h i (by simpa using hi)
 by_cases hc:ComesM s.m i i
 ·simp[hc,this.2 hc]
 ·have:b.getLsbD i=false:=by
   cases hb:b.getLsbD i with
   | false=>rfl
   | true=>exact absurd (this.1 hb) hc
  simp[hc,this]
theorem syGo_n (pl:List (ByteArray×Int)) (F:List Fl):∀ (l:List Df) (i:Nat) (s:Sy),(syGo pl F i l s).n=s.n
 | [],i,s=>rfl
 | d::l,i,s=>by
  rw[syGo,syGo_n pl F l]
  have hm:∀ (q:List Nat) (s:Sy),(s.marks i q).n=s.n:=fun q=>by
   induction q with
   | nil=>exact fun s=>rfl
   | cons k q ih=>exact fun s=>ih (s.mark i k)
  unfold stepS
  cases endlessN d.t.ns (nodesF pl F d.t.ns []) with
  | true=>exact hm _ s
  | false=>exact hm _ s
theorem syOf_n (ds:List Df) (F:List Fl):(syOf ds F).n=ds.length:=syGo_n _ _ _ _ _
theorem syOf_len (ds:List Df) (F:List Fl):(syOf ds F).m.length=64:=by rw[syOf,syGo_len];rfl
noncomputable def whereW (e:Int) (s:Sy):Int×Int:=
 if e≠0 then (0,e) else if 0 < (wLeft s).length then (((wLeft s).headD 0:Nat),42) else if 0 < (wLoops s).length then (((wLoops s).headD 0:Nat),43) else (0,0)
theorem OS.pos {os:OS} {l:List Nat} (h:os.ok 1 (intsV l)):l.length=os.n:=by
 have:=h.len
 simpa[intsV] using this
theorem os_head {I:GH} {M M0:List Blk} {os:OS} {l:List Nat} {e:Nat} (h:os.ok 1 (intsV l)) (hl:0 < l.length) (hM:os.blk e++M0=M):∃ ad,os.a.map (fun g=>(⟨g,0,none⟩:Addr))=some ad∧Rd I M (ad.add (0 * 1)) 1 [.int .i64 (l.headD 0:Nat)]:=by
 have hp:=OS.pos h
 cases ha:os.a with
 | none=>have:=(h.nil ha).1;omega
 | some b=>
  obtain⟨h1,h2,h3,h4⟩:=h.cap b ha
  refine⟨⟨b,0,none⟩,rfl,?_⟩
  subst hM
  cases l with
  | nil=>simp at hl
  | cons a l=>
   cases hc:os.cur with
   | nil=>rw[hc] at h4;simp[intsV] at h4
   | cons x xs=>
    rw[hc] at h4
    have hn:os.n * 1=(os.n - 1)+1:=by omega
    rw[hn,List.take_succ_cons] at h4
    have hx:x=.int .i64 a:=(List.cons.inj h4).1
    refine⟨rfl,_,_,_,.inr ⟨⟨b,.cells os.cur.toArray e (0,0)⟩,?_,rfl,rfl⟩,?_,rfl⟩
    ·unfold OS.blk
     rw[ha]
     exact .head _
    ·rw[hc,hx]
     rfl
set_option maxHeartbeats 4000000 in
theorem WWhere_spec {I:GH} {deb:List Int} (hT:Tabs I deb) {g:Gr} (hg:g.ok I) (hkb:∀ d∈g.ds,KB d.t) (h64:mayG deb g=0→g.n≤64):Spec Tryz.prog 58 [g.val] I [] fun v I' M'=>(∀ b o,I b=some o→I' b=some o)∧M'=[] ∧
  ∃ r:Int×Int,v=.tuple #[.int .i64 r.1,.int .i64 r.2]∧((mayG deb g≠0∧r=(0,mayG deb g))∨(mayG deb g=0∧∃ F,IsFlow g.ds F∧r=whereW 0 (syOf g.ds F))):=by
 refine spec_of_V [4] TryzEOK Tryz.func58 rfl rfl rfl ?_
 intro B h0
 have hgn:=hg.n
 refine CallOb.mk [] [] _ (.refl _) (learn_spec hT hg hkb h64) ?_
 rintro v I1 N - ⟨hI1,rfl,⟨hm,rfl⟩ | ⟨hm,F,hF,rfl⟩⟩
 ·refine AllocOb.mk fun b5 hb5 hbM5=>?_
  refine StoreOb.to [] _ _ _ rfl rfl rfl rfl (sy0 0).cells rfl ?_
  refine CondOb.mk (fun h=>?_) (fun h=>absurd h (by simp[hm]))
  exact⟨_,_,.sub (List.nil_sublist _) .refl,hI1,rfl,(0,mayG deb g),rfl,.inl ⟨hm,rfl⟩⟩
 refine AllocOb.mk fun b5 hb5 hbM5=>?_
 refine StoreOb.to [] _ _ _ rfl rfl rfl rfl (syOf g.ds F).cells rfl ?_
 have hsn:=syOf_n g.ds F
 have hsl:=syOf_len g.ds F
 have hn:=h64 hm
 generalize hs:syOf g.ds F=s at hsn hsl
 refine CondOb.mk (fun h=>absurd h (by simp)) (fun _=>?_)
 refine LoadOb.mk _ (sBlk_all (.head _)) ?_
 refine CallOb.whole _ (left_spec s ⟨hsl,by omega⟩) ?_
 rintro v J N - ⟨rfl,rfl,b,rfl,hb⟩
 refine CallOb.whole _ (wlist_spec b) ?_
 rintro v J N - ⟨rfl,os,hos,rfl,rfl⟩
 have hos:os.ok 1 (intsV (wLeft s)):=by rw[←wLeft_of hb];exact hos
 have hp:=OS.pos hos
 refine CondOb.mk (fun h=>?_) (fun h=>?_)
 ·have h':0 < (wLeft s).length:=by have:(0:Int) < (os.n:Int):=of_decide_eq_true h;omega
  obtain⟨ad,had,hrd⟩:=os_head (I:=J) hos h' rfl
  refine IdxOb.mk ad 0 had rfl (by omega) ?_
  refine LoadOb.mk _ hrd ?_
  exact⟨_,_,.sub (List.nil_sublist _) .refl,hI1,rfl,(((wLeft s).headD 0:Nat),42),rfl,.inr ⟨hm,F,hF,by rw[hs,whereW,if_neg (by simp),if_pos h']⟩⟩
 have h':¬ 0 < (wLeft s).length:=by have:¬ (0:Int) < (os.n:Int):=of_decide_eq_false h;omega
 refine LoadOb.mk _ (sBlk_w (List.mem_append_right _ (.head _))) ?_
 refine CallOb.whole _ (wlist_spec s.w) ?_
 rintro v J2 N - ⟨rfl,ot,hot,rfl,rfl⟩
 have hot:ot.ok 1 (intsV (wLoops s)):=hot
 have hp2:=OS.pos hot
 refine CondOb.mk (fun h=>?_) (fun h=>?_)
 ·have h2:0 < (wLoops s).length:=by have:(0:Int) < (ot.n:Int):=of_decide_eq_true h;omega
  obtain⟨ad,had,hrd⟩:=os_head (I:=J2) hot h2 rfl
  refine IdxOb.mk ad 0 had rfl (by omega) ?_
  refine LoadOb.mk _ hrd ?_
  exact⟨_,_,.sub (List.nil_sublist _) .refl,hI1,rfl,(((wLoops s).headD 0:Nat),43),rfl,.inr ⟨hm,F,hF,by rw[hs,whereW,if_neg (by simp),if_neg h',if_pos h2]⟩⟩
 have h2:¬ 0 < (wLoops s).length:=by have:¬ (0:Int) < (ot.n:Int):=of_decide_eq_false h;omega
 exact⟨_,_,.sub (List.nil_sublist _) .refl,hI1,rfl,(0,0),rfl,.inr ⟨hm,F,hF,by rw[hs,whereW,if_neg (by simp),if_neg h',if_neg h2]⟩⟩
def orW (l:List Nat) (w:W64):W64:=l.foldl (fun w k=>w ||| bitW k) w
theorem orW_get (l:List Nat) (w:W64) {i:Nat} (hi:i < 64):(orW l w).getLsbD i=(w.getLsbD i || l.contains i):=foldl_bits l w hi
theorem set_self (m:List W64) (i:Nat):m.set i (m.getD i 0)=m:=by
 apply List.ext_getElem?
 intro j
 rw[List.getElem?_set]
 by_cases h:i=j
 ·subst h
  by_cases hl:i < m.length
  ·simp[hl,List.getD_eq_getElem?_getD]
  ·simp[hl]
 ·simp[h]
theorem marks_m (i:Nat):∀ (l:List Nat) (s:Sy),i < s.m.length→(s.marks i l).m=s.m.set i (orW l (s.m.getD i 0))
 | [],s,h=>(set_self s.m i).symm
 | k::l,s,h=>by
  have ih:=marks_m i l (s.mark i k) (by simpa[Sy.mark] using h)
  show ((s.mark i k).marks i l).m=_
  rw[ih,Sy.mark]
  simp only
  rw[List.set_set,set_get (by simpa using h)]
  rfl
theorem marks_w (i:Nat):∀ (l:List Nat) (s:Sy),(s.marks i l).w=s.w
 | [],s=>rfl
 | k::l,s=>marks_w i l (s.mark i k)
theorem stepS_m (pl:List (ByteArray×Int)) (F:List Fl) (s:Sy) (i:Nat) (d:Df) (h:i < s.m.length):(stepS pl F s i d).m=s.m.set i (orW (leftAt pl F d.t.ns d.t.root).2 (s.m.getD i 0)):=by
 unfold stepS
 rw[←marks_m i _ s h]
 cases endlessN d.t.ns (nodesF pl F d.t.ns [])<;>rfl
theorem stepS_w (pl:List (ByteArray×Int)) (F:List Fl) (s:Sy) (i:Nat) (d:Df):(stepS pl F s i d).w=bif endlessN d.t.ns (nodesF pl F d.t.ns []) then s.w ||| bitW i else s.w:=by
 unfold stepS
 cases endlessN d.t.ns (nodesF pl F d.t.ns [])
 ·exact marks_w i _ s
 ·show (s.marks i _).w ||| bitW i=_
  rw[marks_w]
  rfl
theorem syGo_bits (pl:List (ByteArray×Int)) (F:List Fl):∀ (l:List Df) (i:Nat) (s:Sy),s.m.length=64→i+l.length≤64 →
  (∀ j,j < i∨i+l.length≤j→(syGo pl F i l s).m.getD j 0=s.m.getD j 0) ∧
  (∀ q (h:q < l.length),(syGo pl F i l s).m.getD (i+q) 0=orW (leftAt pl F l[q].t.ns l[q].t.root).2 (s.m.getD (i+q) 0)) ∧
  (∀ j,j < 64→j < i∨i+l.length≤j→(syGo pl F i l s).w.getLsbD j=s.w.getLsbD j) ∧
  (∀ q (h:q < l.length),(syGo pl F i l s).w.getLsbD (i+q)=(s.w.getLsbD (i+q) || endlessN l[q].t.ns (nodesF pl F l[q].t.ns [])))
 | [],i,s,_,_=>⟨fun _ _=>rfl,fun _ h=>absurd h (by simp),fun _ _ _=>rfl,fun _ h=>absurd h (by simp)⟩
 | d::l,i,s,hs,hl=>by
  rw[List.length_cons] at hl
  obtain⟨h1,h2,h3,h4⟩:=syGo_bits pl F l (i+1) (stepS pl F s i d) (by rw[stepS_len,hs]) (by omega)
  have hm:∀ j,j≠i→(stepS pl F s i d).m.getD j 0=s.m.getD j 0:=fun j hj=>by
   rw[stepS_m pl F s i d (by omega)]
   simp[List.getD_eq_getElem?_getD,List.getElem?_set,Ne.symm hj]
  have hw:∀ j,j < 64→j≠i→(stepS pl F s i d).w.getLsbD j=s.w.getLsbD j:=fun j hj hne=>by
   rw[stepS_w]
   cases endlessN d.t.ns (nodesF pl F d.t.ns [])
   ·rfl
   ·rw[cond_true,BitVec.getLsbD_or,bitW_get hj]
    simp[hne]
  refine⟨fun j hj=>?_,fun q h=>?_,fun j hj hj2=>?_,fun q h=>?_⟩
  ·rw[List.length_cons] at hj
   rw[syGo,h1 j (by omega),hm j (by omega)]
  ·cases q with
   | zero=>
    rw[syGo,h1 _ (by omega),stepS_m pl F s i d (by omega)]
    rw[Nat.add_zero,set_get (by omega)]
    rfl
   | succ q=>
    have:=h2 q (by simpa using h)
    rw[show i+1+q=i+(q+1) by omega] at this
    rw[syGo,this,hm _ (by omega)]
    rfl
  ·rw[List.length_cons] at hj2
   rw[syGo,h3 j hj (by omega),hw j hj (by omega)]
  ·cases q with
   | zero=>
    rw[syGo,h3 _ (by omega) (by omega),stepS_w,Nat.add_zero,List.getElem_cons_zero]
    cases he:endlessN d.t.ns (nodesF pl F d.t.ns [])
    ·simp
    ·rw[cond_true,BitVec.getLsbD_or,bitW_get (by omega)]
     simp
   | succ q=>
    have hq:q < l.length:=by simpa using h
    have:=h4 q hq
    rw[show i+1+q=i+(q+1) by omega] at this
    rw[syGo,this,hw _ (by omega) (by omega)]
    rfl
def rawL (ds:List Df) (F:List Fl) (i:Nat):List Nat:=match ds[i]? with
 | some d=>(leftAt (placesL ds) F d.t.ns d.t.root).2
 | none=>[]
def rawE (ds:List Df) (F:List Fl) (i:Nat):Bool:=match ds[i]? with
 | some d=>endlessN d.t.ns (nodesF (placesL ds) F d.t.ns [])
 | none=>false
theorem syOf_m {ds:List Df} {F:List Fl} (hn:ds.length≤64) {i k:Nat} (hk:k < 64):((syOf ds F).m.getD i 0).getLsbD k=(rawL ds F i).contains k:=by
 obtain⟨h1,h2,-,-⟩:=syGo_bits (placesL ds) F ds 0 (sy0 ds.length) (by rfl) (by omega)
 have h0:∀ j,(sy0 ds.length).m.getD j 0=0#64:=fun j=>by
  simp only[sy0,List.getD_eq_getElem?_getD,List.getElem?_replicate]
  by_cases h:j < 64<;>simp[h]
 unfold rawL syOf
 by_cases h:i < ds.length
 ·have:=h2 i h
  rw[Nat.zero_add] at this
  rw[this,h0,orW_get _ _ hk,List.getElem?_eq_getElem h]
  simp
 ·rw[h1 i (by omega),h0,List.getElem?_eq_none (by omega)]
  simp
theorem syOf_w {ds:List Df} {F:List Fl} (hn:ds.length≤64) {i:Nat} (hi:i < 64):(syOf ds F).w.getLsbD i=rawE ds F i:=by
 obtain⟨-,-,h1,h2⟩:=syGo_bits (placesL ds) F ds 0 (sy0 ds.length) (by rfl) (by omega)
 unfold rawE syOf
 by_cases h:i < ds.length
 ·have:=h2 i h
  rw[Nat.zero_add] at this
  rw[this,List.getElem?_eq_getElem h]
  simp[sy0]
 ·rw[h1 i hi (by omega),List.getElem?_eq_none (by omega)]
  simp[sy0]
section
variable {α:Type} {O:OrdB α} {n:Nat} {body:List α→Nat→α} (hmono:∀ {l m:List α},LeR O l m→∀ i,i < n→O.le (body l i) (body m i))
include hmono
end
section
variable {n:Nat} {body:List Fi→Nat→Fi} (hmono:∀ {l m:List Fi},LeR OI l m→∀ i,i < n→OI.le (body l i) (body m i))
include hmono
end
def ofL (d:Nd) (ls:List (List Nd)):List Nd:=ofNds d (ls.map cleanL)
structure TrSmall (t:Tr):Prop where
 n:t.n < 2500
 ns:∀ nd∈t.ns,NdSmall nd
theorem TrW.ok {I:GH} {t:Tr} (h:TrW I t) (hs:TrSmall t):t.ok I:=
 ⟨h.rs.big (by have:=hs.n;omega),fun nd hnd=>(h.ns nd hnd).ok (hs.ns nd hnd),h.root⟩
def bodies (g:Gr) (L0:List Tr) (i:Nat):List Tr:=L0++(g.ds.take i).map Df.t
structure L2 (L:List Tr) (n0:Nat) (x:Nat×Nat):Prop where
 i:x.2≤L.length
 n:x.1≤6000
 ge:n0≤x.1
 small:x.1 < 2500→x.2≤x.1∧∀ j (h:j < L.length),j < x.2→TrSmall L[j]
structure FA where
 l:List Fl
 a:Option Addr
 n:Nat
 c:Nat
def FA.val (x:FA):Value:=.slice x.a x.n x.c
theorem map_getD {ds:List Df} {f:Df→Fl} {i:Nat} (h:i < ds.length):(ds.map f).getD i fl0=f ds[i]:=by simp[List.getD_eq_getElem?_getD,h]
theorem PreF.all {ds:List Df} {l:List Fl} (h:PreF ds l):PreF ds (ds.map (bodyF (placesL ds) l))∧LeL l (ds.map (bodyF (placesL ds) l)):=by
 have hle:LeL l (ds.map (bodyF (placesL ds) l)):=LeL.of (by simp[h.len]) fun i hi=>by
  rw[map_getD (by rw[←h.len];exact hi)]
  exact h.up i _
 refine⟨⟨by simp,fun i hi=>?_,fun m hm hc=>LeL.of (by simp[hm]) fun i hi=>?_⟩,hle⟩
 ·rw[map_getD hi]
  exact body_mono hle _
 ·have hi':i < ds.length:=by simpa using hi
  rw[map_getD hi']
  exact(body_mono (h.least m hm hc) _).trans (hc i hi')
def okI (deb:List Int) (g:Gr) (l:List Fi) (t:Tr):Bool:=decide (l.length=g.n) && (decide (mayG deb g=0) && (right t && namedOk (placesL g.ds) t.ns))
def cutL (b:Bool) (xs:List (Fl×List Nat)):List Nat:=bif b then takeZ xs else xs.flatMap (·.2)
theorem cutL_nil (b:Bool):cutL b []=[]:=by cases b<;>rfl
theorem cutL_cons (b:Bool) (x:Fl×List Nat) (xs:List (Fl×List Nat)):cutL b (x::xs)=x.2++bif b && !x.1.z then [] else cutL b xs:=by
 cases b with
 | true=>
  cases hz:x.1.z<;>simp[cutL,takeZ,hz]
 | false=>simp[cutL]
theorem leftsD_cut {pl:List (ByteArray×Int)} {d:Nd} {xs:List (Fl×List Nat)} (h3:¬ d.k=3) (h6:¬ (d.k=6∧d.hi=0)):leftsD pl d xs=cutL (decide (d.k=4)) xs:=by
 unfold leftsD cutL
 rw[decide_eq_false h3,cond_false]
 cases h4:decide (d.k=4) with
 | true=>rfl
 | false=>
  rw[cond_false,cond_false]
  by_cases a:d.k=6
  ·have b:¬ d.hi=0:=fun e=>h6 ⟨a,e⟩
   rw[decide_eq_true a,decide_eq_false b]
   rfl
  ·rw[decide_eq_false a]
   rfl
def endF (pl:List (ByteArray×Int)) (F:List Fl) (d:Nd) (xs:List ((Fl×List Nat)×Bool)):Bool:=xs.any fun x=>(decide (d.k=6) && (decide (d.hi=-1) && x.1.1.z)) || x.2
def endG (pl:List (ByteArray×Int)) (F:List Fl) (d:Nd) (xs:List ((Fl×List Nat)×Bool)):(Fl×List Nat)×Bool:=(leftF pl F d (xs.map (·.1)),endF pl F d xs)
def endAt (pl:List (ByteArray×Int)) (F:List Fl) (ns:List Nd) (j:Int):(Fl×List Nat)×Bool:=tabOf ((fl0,[]),false) (fun d g=>endG pl F d (d.kids.map g)) ns j
theorem end_eq {pl:List (ByteArray×Int)} {F:List Fl} {t:Tr} (hr:right t=true) {j:Nat} (hj:j < t.ns.length):endAt pl F t.ns j=endG pl F t.ns[j] (t.ns[j].kids.map (endAt pl F t.ns)):=
 tabOf_eq (fun d g g' h=>by rw[List.map_congr_left h]) hr hj
theorem end_left {pl:List (ByteArray×Int)} {F:List Fl} {t:Tr} (hr:right t=true):∀ (m j:Nat),j < m→j < t.ns.length→(endAt pl F t.ns j).1=leftAt pl F t.ns j
 | 0,j,h,_=>absurd h (Nat.not_lt_zero _)
 | m+1,j,hm,hj=>by
  rw[end_eq hr hj,left_eq hr hj]
  have:(t.ns[j].kids.map (endAt pl F t.ns)).map (·.1)=t.ns[j].kids.map (leftAt pl F t.ns):=by
   rw[List.map_map]
   refine List.map_congr_left fun k hk=>?_
   obtain⟨h1,h2⟩:=right_kids hr j hj k hk
   obtain⟨q,rfl⟩:=Int.eq_ofNat_of_zero_le h1
   exact end_left hr m q (by omega) (by omega)
  show leftF pl F t.ns[j] _=_
  rw[this]
theorem end_ct (pl:List (ByteArray×Int)) (F:List Fl) (ns:List Nd) (j:Int):endAt pl F (ns.map Nd.ct) j=endAt pl F ns j:=by
 unfold endAt tabOf
 rw[tab_ct (f:=fun d g=>endG pl F d (d.kids.map g)) (g:=fun d g=>endG pl F d (d.kids.map g)) (fun d q=>rfl)]
def refLefts (ds:List Df) (F:List Fl) (i:Nat):List Nat:=(List.range ds.length).filter fun k=>(rawL ds F i).contains k
theorem range_filter_len (p:Nat→Bool) (i:Nat):((List.range i).filter p).length≤i:=by
 have:=List.length_filter_le p (List.range i)
 simpa using this
def endL (ds:List Df) (F:List Fl) (i:Nat):Bool:=match ds[i]? with
 | some d=>(endAt (placesL ds) F d.t.ns d.t.root).2
 | none=>false
def refLoops (ds:List Df) (F:List Fl):List Nat:=(List.range ds.length).filter (endL ds F)
inductive ComesL (A:Nat→List Nat):Nat→Nat→Prop
 | one {i k} (h:k∈A i):ComesL A i k
 | step {i j k} (h:j∈A i) (t:ComesL A j k):ComesL A i k
theorem ComesL.snoc {A:Nat→List Nat} {i j k:Nat} (h:ComesL A i j) (hk:k∈A j):ComesL A i k:=by
 induction h with
 | one h=>exact .step h (.one hk)
 | step h t ih=>exact .step h (ih hk)
def addAll:List Nat→List Nat→List Nat
 | [],l=>l
 | x::r,l=>addAll r (bif l.contains x then l else l++[x])
theorem addAll_mem:∀ (r l:List Nat) (x:Nat),x∈addAll r l ↔ x∈l∨x∈r
 | [],l,x=>by simp[addAll]
 | y::r,l,x=>by
  rw[addAll,addAll_mem r]
  cases h:l.contains y with
  | true=>
   have hy:y∈l:=by simpa using h
   rw[cond_true]
   constructor
   ·rintro(a | a)
    ·exact .inl a
    ·exact .inr (.tail _ a)
   ·rintro(a | a)
    ·exact .inl a
    ·rcases List.mem_cons.1 a with rfl | a
     ·exact .inl hy
     ·exact .inr a
  | false=>
   rw[cond_false]
   rw[List.mem_append,List.mem_singleton,List.mem_cons]
   constructor
   ·rintro((a | a) | a)
    ·exact .inl a
    ·exact .inr (.inl a)
    ·exact .inr (.inr a)
   ·rintro(a | a | a)
    ·exact .inl (.inl a)
    ·exact .inl (.inr a)
    ·exact .inr a
theorem addAll_pre:∀ (r l:List Nat),∃ s,addAll r l=l++s
 | [],l=>⟨[],by simp[addAll]⟩
 | y::r,l=>by
  obtain⟨s,hs⟩:=addAll_pre r (bif l.contains y then l else l++[y])
  rw[addAll,hs]
  cases l.contains y with
  | true=>exact⟨s,rfl⟩
  | false=>exact⟨[y]++s,by simp⟩
theorem addAll_nodup:∀ (r l:List Nat),l.Nodup→(addAll r l).Nodup
 | [],l,h=>h
 | y::r,l,h=>by
  rw[addAll]
  apply addAll_nodup r
  cases hc:l.contains y with
  | true=>exact h
  | false=>
   have hy:y ∉ l:=by simpa using hc
   rw[cond_false,List.nodup_append]
   refine⟨h,by simp,fun a ha b hb e=>?_⟩
   have:b=y:=by simpa using hb
   subst this
   subst e
   exact hy ha
theorem below_len:∀ (n:Nat) (l:List Nat),l.Nodup→(∀ x∈l,x < n)→l.length≤n
 | 0,[],_,_=>Nat.le_refl _
 | 0,a::l,_,h=>absurd (h a (.head _)) (Nat.not_lt_zero _)
 | n+1,l,hd,h=>by
  have h1:=below_len n (l.erase n) (hd.erase n) fun x hx=>by
   have h2:=h x (List.mem_of_mem_erase hx)
   have h3:x≠n:=(hd.mem_erase_iff.1 hx).1
   omega
  have h4:=List.length_erase (a:=n) (l:=l)
  split at h4<;>omega
def workGo (A:Nat→List Nat):Nat→Nat→List Nat→List Nat
 | 0,_,l=>l
 | f+1,k,l=>match l[k]? with
  | some x=>workGo A f (k+1) (addAll (A x) l)
  | none=>l
structure Work (A:Nat→List Nat) (n k:Nat) (l0 l:List Nat):Prop where
 nd:l.Nodup
 lt:∀ x∈l,x < n
 sub:∀ x∈l0,x∈l
 src:∀ x∈l,x∈l0∨∃ y∈l0,ComesL A y x
 dn:∀ j x,j < k→l[j]?=some x→∀ y∈A x,y∈l
 k:k≤l.length
theorem Work.len {A:Nat→List Nat} {n k:Nat} {l0 l:List Nat} (h:Work A n k l0 l):l.length≤n:=below_len n l h.nd h.lt
theorem Work.next {A:Nat→List Nat} {n k:Nat} {l0 l:List Nat} (hA:∀ x,∀ y∈A x,y < n) (h:Work A n k l0 l) {x:Nat} (hx:l[k]?=some x):Work A n (k+1) l0 (addAll (A x) l):=by
 obtain⟨s,hs⟩:=addAll_pre (A x) l
 have hk:k < l.length:=by
  rcases Nat.lt_or_ge k l.length with h1 | h1
  ·exact h1
  ·rw[List.getElem?_eq_none h1] at hx
   cases hx
 have hxl:x∈l:=List.mem_of_getElem? hx
 refine⟨addAll_nodup _ _ h.nd,fun z hz=>?_,fun z hz=>(addAll_mem _ _ _).2 (.inl (h.sub z hz)),fun z hz=>?_,fun j z hj hz y hy=>?_,by rw[hs];simp;omega⟩
 ·rcases(addAll_mem _ _ _).1 hz with a | a
  ·exact h.lt z a
  ·exact hA x z a
 ·rcases(addAll_mem _ _ _).1 hz with a | a
  ·exact h.src z a
  ·rcases h.src x hxl with b | ⟨w,hw,b⟩
   ·exact .inr ⟨x,b,.one a⟩
   ·exact .inr ⟨w,hw,b.snoc a⟩
 ·have hz':l[j]?=some z:=by
   rw[hs,List.getElem?_append_left (by omega)] at hz
   exact hz
  by_cases e:j=k
  ·subst e
   rw[hx] at hz'
   obtain rfl:=Option.some.inj hz'
   exact(addAll_mem _ _ _).2 (.inr hy)
  ·exact(addAll_mem _ _ _).2 (.inl (h.dn j z (by omega) hz' y hy))
theorem Work.done {A:Nat→List Nat} {n:Nat} {i:Nat} {l:List Nat} (h:Work A n l.length (A i) l) (x:Nat):x∈l ↔ ComesL A i x:=by
 constructor
 ·intro hx
  rcases h.src x hx with a | ⟨y,hy,a⟩
  ·exact .one a
  ·exact .step hy a
 ·have cl:∀ {y z:Nat},ComesL A y z→y∈l→z∈l:=fun {y z} hc=>by
   induction hc with
   | one hk=>
    intro hy
    obtain⟨j,hj,e⟩:=List.getElem_of_mem hy
    exact h.dn j _ hj (by rw[List.getElem?_eq_getElem hj,e]) _ hk
   | step hj t ih=>
    intro hy
    refine ih ?_
    obtain⟨q,hq,e⟩:=List.getElem_of_mem hy
    exact h.dn q _ hq (by rw[List.getElem?_eq_getElem hq,e]) _ hj
  intro hc
  cases hc with
  | one hk=>exact h.sub x hk
  | step hj t=>exact cl t (h.sub _ hj)
theorem endF_at {pl:List (ByteArray×Int)} {F:List Fl} {t:Tr} (hr:right t=true) {j:Nat} (hj:j < t.ns.length):(endAt pl F t.ns j).2=true ↔ ∃ k∈t.ns[j].kids,(t.ns[j].k=6∧t.ns[j].hi=-1∧(nodesF pl F t.ns []).getD k.toNat fl0=(nodesF pl F t.ns []).getD k.toNat fl0∧((nodesF pl F t.ns []).getD k.toNat fl0).z=true)∨(endAt pl F t.ns k).2=true:=by
 have hfl:∀ k∈t.ns[j].kids,(endAt pl F t.ns k).1.1=(nodesF pl F t.ns []).getD k.toNat fl0:=fun k hk=>by
  obtain⟨h1,h2⟩:=right_kids hr j hj k hk
  obtain⟨q,rfl⟩:=Int.eq_ofNat_of_zero_le h1
  rw[end_left hr (q+1) q (by omega) (by omega),left_flow]
 rw[end_eq hr hj]
 show endF pl F t.ns[j] _=true ↔ _
 unfold endF
 rw[List.any_eq_true]
 constructor
 ·rintro⟨x,hx,h⟩
  obtain⟨k,hk,rfl⟩:=List.mem_map.1 hx
  refine⟨k,hk,?_⟩
  rw[hfl k hk] at h
  simp only[Bool.or_eq_true,Bool.and_eq_true,decide_eq_true_eq] at h
  rcases h with ⟨a,b,c⟩ | h
  ·exact .inl ⟨a,b,rfl,c⟩
  ·exact .inr h
 ·rintro⟨k,hk,h⟩
  refine⟨_,List.mem_map.2 ⟨k,hk,rfl⟩,?_⟩
  rw[hfl k hk]
  simp only[Bool.or_eq_true,Bool.and_eq_true,decide_eq_true_eq]
  rcases h with ⟨a,b,-,c⟩ | h
  ·exact .inl ⟨a,b,c⟩
  ·exact .inr h
theorem end_up {pl:List (ByteArray×Int)} {F:List Fl} {t:Tr} (hr:right t=true):∀ (m j:Nat),j < t.ns.length→t.ns.length - j≤m→(endAt pl F t.ns j).2=true→(endAt pl F t.ns t.root).2=true
 | 0,j,hj,hm,_=>by omega
 | m+1,j,hj,hm,h=>by
  by_cases e:(j:Int)=t.root
  ·rw[←e]
   exact h
  ·obtain⟨p,hp,hk,hlt⟩:=right_parent hr hj e
   exact end_up hr m p hp (by omega) ((endF_at hr hp).2 ⟨_,hk,.inr h⟩)
theorem headD_mem1 {l:List Int} {k:Int} (hk:k∈l) (h:l.length=1):l.headD 0=k:=by
 match l,h with
 | [a],_=>exact(List.mem_singleton.1 hk).symm
theorem end_down {pl:List (ByteArray×Int)} {F:List Fl} {t:Tr} (hr:right t=true) (h1:∀ d∈t.ns,d.k=6→d.kids.length=1):∀ (m j:Nat),j < m→∀ (hj:j < t.ns.length),(endAt pl F t.ns j).2=true→endlessN t.ns (nodesF pl F t.ns [])=true
 | 0,j,h,_,_=>absurd h (Nat.not_lt_zero _)
 | m+1,j,hm,hj,h=>by
  obtain⟨k,hk,⟨a,b,-,c⟩ | h⟩:=(endF_at hr hj).1 h
  ·refine List.any_eq_true.2 ⟨t.ns[j],List.getElem_mem hj,?_⟩
   simp only[Bool.and_eq_true,decide_eq_true_eq]
   refine⟨a,b,?_⟩
   rw[headD_mem1 hk (h1 _ (List.getElem_mem hj) a)]
   exact c
  ·obtain⟨h2,h3⟩:=right_kids hr j hj k hk
   obtain⟨q,rfl⟩:=Int.eq_ofNat_of_zero_le h2
   exact end_down hr h1 m q (by omega) (by omega) h
theorem end_any {pl:List (ByteArray×Int)} {F:List Fl} {t:Tr} (hr:right t=true) (h1:∀ d∈t.ns,d.k=6→d.kids.length=1):(endAt pl F t.ns t.root).2=endlessN t.ns (nodesF pl F t.ns []):=by
 obtain⟨r0,r1⟩:=right_root hr
 obtain⟨r,hrr⟩:=Int.eq_ofNat_of_zero_le r0
 apply Bool.eq_iff_iff.2
 constructor
 ·intro h
  rw[hrr] at h
  exact end_down hr h1 (r+1) r (by omega) (by omega) h
 ·intro h
  obtain⟨d,hd,h⟩:=List.any_eq_true.1 h
  obtain⟨j,hj,rfl⟩:=List.getElem_of_mem hd
  simp only[Bool.and_eq_true,decide_eq_true_eq] at h
  obtain⟨a,b,c⟩:=h
  have hl:=h1 _ hd a
  have hk:t.ns[j].kids.headD 0∈t.ns[j].kids:=by
   match hx:t.ns[j].kids,hl with
   | [q],_=>simp
  exact end_up hr t.ns.length j hj (by omega) ((endF_at hr hj).2 ⟨_,hk,.inl ⟨a,b,rfl,c⟩⟩)
theorem cutL_mem {b:Bool} {x:Nat}:∀ {xs:List (Fl×List Nat)},x∈cutL b xs→∃ y∈xs,x∈y.2
 | [],h=>by rw[cutL_nil] at h;cases h
 | y::xs,h=>by
  rw[cutL_cons] at h
  rcases List.mem_append.1 h with h | h
  ·exact⟨y,.head _,h⟩
  ·cases hb:b && !y.1.z with
   | true=>rw[hb] at h;cases h
   | false=>
    rw[hb] at h
    obtain⟨z,hz,hx⟩:=cutL_mem (xs:=xs) h
    exact⟨z,.tail _ hz,hx⟩
theorem left_lt {ds:List Df} {F:List Fl} {t:Tr} (hr:right t=true) (hno:namedOk (placesL ds) t.ns=true):∀ (m j:Nat),j < m→j < t.ns.length→∀ x∈(leftAt (placesL ds) F t.ns j).2,x < ds.length
 | 0,j,h,_=>absurd h (Nat.not_lt_zero _)
 | m+1,j,hm,hj=>by
  intro x hx
  rw[left_eq hr hj] at hx
  have hx:x∈leftsD (placesL ds) t.ns[j] (t.ns[j].kids.map (leftAt (placesL ds) F t.ns)):=hx
  have hnm:=List.all_eq_true.1 hno _ (List.getElem_mem hj)
  by_cases h3:t.ns[j].k=3
  ·obtain⟨q,hq1,hq2,hq3⟩:=findAt_of (nm:=t.ns[j].t) (ds:=ds) (by simpa[h3] using hnm)
   rw[leftsD,decide_eq_true h3,cond_true,hq3] at hx
   have:x=q:=by simpa using hx
   omega
  by_cases h6:t.ns[j].k=6∧t.ns[j].hi=0
  ·rw[leftsD,decide_eq_false h3,cond_false,decide_eq_false (show ¬ t.ns[j].k=4 by omega),cond_false,decide_eq_true h6.1,decide_eq_true h6.2] at hx
   cases hx
  ·rw[leftsD_cut h3 h6] at hx
   obtain⟨y,hy,hxy⟩:=cutL_mem hx
   obtain⟨k,hk,rfl⟩:=List.mem_map.1 hy
   obtain⟨h1,h2⟩:=right_kids hr j hj k hk
   obtain⟨q,rfl⟩:=Int.eq_ofNat_of_zero_le h1
   exact left_lt hr hno m q (by omega) (by omega) x hxy
theorem rawL_lt {g:Gr} (hM:MayF g) {F:List Fl} (i:Nat):∀ k∈rawL g.ds F i,k < g.ds.length:=by
 intro k hk
 unfold rawL at hk
 by_cases h:i < g.ds.length
 ·rw[List.getElem?_eq_getElem h] at hk
  have hdm:=List.getElem_mem h
  have hr:=hM.right _ hdm
  obtain⟨r0,r1⟩:=right_root hr
  obtain⟨r,hrr⟩:=Int.eq_ofNat_of_zero_le r0
  have hk:k∈(leftAt (placesL g.ds) F g.ds[i].t.ns g.ds[i].t.root).2:=hk
  rw[hrr] at hk
  exact left_lt hr (hM.named _ hdm) (r+1) r (by omega) (by omega) k hk
 ·rw[List.getElem?_eq_none (by omega)] at hk
  cases hk
theorem comes_iff {g:Gr} (hM:MayF g) (h64:g.ds.length≤64) {F:List Fl} {i k:Nat} (hi:i < 64):ComesM (syOf g.ds F).m i k ↔ ComesL (rawL g.ds F) i k:=by
 constructor
 ·intro h
  induction h with
  | one hk h=>rw[syOf_m h64 hk] at h;exact .one (by simpa using h)
  | step h hj t ih=>rw[syOf_m h64 hj] at h;exact .step (by simpa using h) (ih hj)
 ·intro h
  induction h with
  | one h=>
   have:=rawL_lt hM _ _ h
   exact .one (by omega) (by rw[syOf_m h64 (by omega)];simpa using h)
  | step h t ih=>
   have:=rawL_lt hM _ _ h
   exact .step (by rw[syOf_m h64 (by omega)];simpa using h) (by omega) (ih (by omega))
theorem range64 {n:Nat} (hn:n≤64) (p q:Nat→Bool) (h1:∀ k,k < n→p k=q k) (h2:∀ k,n≤k→k < 64→p k=false):(List.range 64).filter p=(List.range n).filter q:=by
 have h64:(List.range 64)=List.range n++(List.range' n (64 - n)):=by
  rw[List.range_eq_range',List.range_eq_range',show 64=n+(64 - n) by omega,←List.range'_append_1]
  simp
 have h3:(List.range' n (64 - n)).filter p=[]:=by
  rw[List.filter_eq_nil_iff]
  intro k hk
  rw[List.mem_range'_1] at hk
  rw[h2 k (by omega) (by omega)]
  simp
 rw[h64,List.filter_append,h3,List.append_nil]
 apply List.filter_congr
 intro k hk
 exact h1 k (by simpa using hk)
theorem endL_raw {I:GH} {g:Gr} (hg:g.ok I) (hM:MayF g) (F:List Fl) (i:Nat):endL g.ds F i=rawE g.ds F i:=by
 unfold endL rawE
 by_cases h:i < g.ds.length
 ·rw[List.getElem?_eq_getElem h]
  have hdm:=List.getElem_mem h
  have hr:=hM.right _ hdm
  have ht:=(hg.ds _ hdm).t
  refine end_any hr fun d hd hk=>?_
  obtain⟨j,hj,rfl⟩:=List.getElem_of_mem hd
  have hnd:=ht.ns _ hd
  have:=(fits_more hnd.k.1 (right_fits hr hj)).one (by omega)
  omega
 ·rw[List.getElem?_eq_none (by omega)]
theorem loops_eq {I:GH} {g:Gr} (hg:g.ok I) (hM:MayF g) (h64:g.ds.length≤64) (F:List Fl):wLoops (syOf g.ds F)=refLoops g.ds F:=by
 unfold wLoops refLoops bitsOf
 refine range64 h64 _ _ (fun k hk=>?_) (fun k hk hk2=>?_)
 ·rw[syOf_w h64 (by omega),endL_raw hg hM]
 ·rw[syOf_w h64 hk2,rawE,List.getElem?_eq_none hk]
open Classical in
noncomputable def refLeft (ds:List Df) (F:List Fl):List Nat:=(List.range ds.length).filter fun i=>decide (ComesL (rawL ds F) i i)
theorem rawL_none {ds:List Df} {F:List Fl} {i:Nat} (h:ds.length≤i):rawL ds F i=[]:=by
 rw[rawL,List.getElem?_eq_none h]
open Classical in
theorem lefts_eq {g:Gr} (hM:MayF g) (h64:g.ds.length≤64) (F:List Fl):wLeft (syOf g.ds F)=refLeft g.ds F:=by
 unfold wLeft refLeft
 refine range64 h64 _ _ (fun k hk=>?_) (fun k hk hk2=>?_)
 ·exact decide_eq_decide.2 (comes_iff hM h64 (by omega))
 ·refine decide_eq_false fun hc=>?_
  have hc:=(comes_iff hM h64 hk2).1 hc
  have hn:=rawL_none (F:=F) hk
  cases hc with
  | one h=>rw[hn] at h;cases h
  | step h t=>rw[hn] at h;cases h
structure Ns11 (d:Nd):Prop where
 kn:d.kn < 400
 t:d.t.size < 8020
structure Ts11 (t:Tr):Prop where
 n:t.n < 400
 ns:∀ nd∈t.ns,Ns11 nd
structure Ds11 (d:Df):Prop where
 name:d.name.size < 8020
 t:Ts11 d.t
structure Gs11 (g:Gr):Prop where
 n:g.n < 400
 ds:∀ d∈g.ds,Ds11 d
theorem NdW.ok11 {I:GH} {d:Nd} (h:NdW I d) (hs:Ns11 d):d.ok I:=
 ⟨h.k,h.s0,h.s1,h.s2,h.s3,h.ts,h.lo,h.hi,h.rs.big (by have:=hs.kn;omega),h.kids⟩
theorem TrW.ok11 {I:GH} {t:Tr} (h:TrW I t) (hs:Ts11 t):t.ok I:=
 ⟨h.rs.big (by have:=hs.n;omega),fun nd hnd=>(h.ns nd hnd).ok11 (hs.ns nd hnd),h.root⟩
theorem GrW.ok11 {I:GH} {g:Gr} (h:GrW I g) (hs:Gs11 g):g.ok I:=
 ⟨h.rs.big (by have:=hs.n;omega),fun d hd=>⟨by have:=(hs.ds d hd).name;omega,(h.ds d hd).t.ok11 (hs.ds d hd).t⟩⟩
def iv (z:Int):List Value:=[.int .i64 z]
theorem may64 {deb:List Int} {g:Gr} (h:mayG deb g=0):g.n≤64:=by
 unfold mayG at h
 cases h1:decide ((g.n:Int)=0) with
 | true=>rw[h1] at h;simp at h
 | false=>
  rw[h1,cond_false] at h
  cases h2:okDefs g.ds with
  | false=>rw[h2] at h;simp at h
  | true=>
   rw[h2] at h
   cases h3:largeG deb g with
   | true=>rw[h3] at h;simp at h
   | false=>
    unfold largeG at h3
    simp only[Bool.or_eq_false_iff,decide_eq_false_iff_not] at h3
    omega
def IsLefts (deb:List Int) (g:Gr) (r:Int) (l:List Nat):Prop:=((mayG deb g≠0∨r < 0∨(g.n:Int)≤r)∧l=[])∨(mayG deb g=0∧∃ F k,r=(k:Nat)∧k < g.n∧IsFlow g.ds F∧l=refLefts g.ds F k)
def IsLoops (deb:List Int) (g:Gr) (l:List Nat):Prop:=(mayG deb g≠0∧l=[])∨(mayG deb g=0∧∃ F,IsFlow g.ds F∧l=refLoops g.ds F)
def IsLeft (deb:List Int) (g:Gr) (l:List Nat):Prop:=(mayG deb g≠0∧l=[])∨(mayG deb g=0∧∃ F,IsFlow g.ds F∧l=refLeft g.ds F)
theorem workGo_ok {A:Nat→List Nat} {n:Nat} {l0:List Nat} (hA:∀ x,∀ y∈A x,y < n):∀ (f k:Nat) (l:List Nat),Work A n k l0 l→n+1≤f+k→Work A n (workGo A f k l).length l0 (workGo A f k l)
 | 0,k,l,h,hf=>by
  have:=h.len
  have:=h.k
  omega
 | f+1,k,l,h,hf=>by
  rw[workGo]
  cases hx:l[k]? with
  | none=>
   have h1:k=l.length:=by
    have:=h.k
    have:=List.getElem?_eq_none_iff.1 hx
    omega
   subst h1
   exact h
  | some x=>exact workGo_ok hA f (k+1) _ (h.next hA hx) (by omega)
theorem ComesL.congr {A B:Nat→List Nat} (h:∀ i k,k∈A i→k∈B i) {i k:Nat} (hc:ComesL A i k):ComesL B i k:=by
 induction hc with
 | one h1=>exact .one (h _ _ h1)
 | step h1 t ih=>exact .step (h _ _ h1) ih
theorem ComesL.trans {A:Nat→List Nat} {i j k:Nat} (h:ComesL A i j) (h':ComesL A j k):ComesL A i k:=by
 induction h with
 | one h=>exact .step h h'
 | step h t ih=>exact .step h (ih h')
theorem refLefts_mem {g:Gr} (hM:MayF g) {F:List Fl} {i k:Nat}:k∈refLefts g.ds F i ↔ k∈rawL g.ds F i:=by
 unfold refLefts
 rw[List.mem_filter]
 constructor
 ·rintro⟨-,h⟩
  simpa using h
 ·intro h
  exact⟨by simpa using rawL_lt hM i k h,by simpa using h⟩
theorem refLefts_comes {g:Gr} (hM:MayF g) {F:List Fl} {i k:Nat}:ComesL (refLefts g.ds F) i k ↔ ComesL (rawL g.ds F) i k:=
 ⟨ComesL.congr fun _ _ h=>(refLefts_mem hM).1 h,ComesL.congr fun _ _ h=>(refLefts_mem hM).2 h⟩
theorem refLefts_lt {ds:List Df} {F:List Fl} {i k:Nat} (h:k∈refLefts ds F i):k < ds.length:=by
 unfold refLefts at h
 simpa using (List.mem_filter.1 h).1
theorem refLefts_nodup (ds:List Df) (F:List Fl) (i:Nat):(refLefts ds F i).Nodup:=List.Nodup.sublist List.filter_sublist List.nodup_range
theorem Work.start {ds:List Df} {F:List Fl} (i:Nat):Work (refLefts ds F) ds.length 0 (refLefts ds F i) (refLefts ds F i):=
 ⟨refLefts_nodup ds F i,fun x hx=>refLefts_lt hx,fun _ h=>h,fun _ h=>.inl h,fun j x hj=>absurd hj (Nat.not_lt_zero _),Nat.zero_le _⟩
def leftC (ds:List Df) (F:List Fl):List Nat:=(List.range ds.length).filter fun i=>(workGo (refLefts ds F) (ds.length+1) 0 (refLefts ds F i)).contains i
open Classical in
theorem leftC_eq {g:Gr} (hM:MayF g) (F:List Fl):leftC g.ds F=refLeft g.ds F:=by
 unfold leftC refLeft
 refine List.filter_congr fun i _=>?_
 have h1:=workGo_ok (fun x y hy=>refLefts_lt hy) (g.ds.length+1) 0 _ (Work.start (ds:=g.ds) (F:=F) i) (by omega)
 have h2:=(h1.done i).trans (refLefts_comes hM)
 cases hc:(workGo (refLefts g.ds F) (g.ds.length+1) 0 (refLefts g.ds F i)).contains i with
 | true=>exact(decide_eq_true (h2.1 (by simpa using hc))).symm
 | false=>
  refine(decide_eq_false fun h=>?_).symm
  have:=h2.2 h
  rw[←List.contains_iff_mem,hc] at this
  cases this
theorem getD_set_true (s:List Bool) (i k:Nat) (hi:i < s.length):(s.set i true).getD k false=(decide (k=i) || s.getD k false):=by
 simp only[List.getD_eq_getElem?_getD,List.getElem?_set]
 by_cases e:i=k
 ·subst e
  simp[hi]
 ·have:¬ k=i:=fun h=>e h.symm
  simp[e,this]
structure RowIn (A:Nat→List Nat) (n:Nat) (s:List Bool):Prop where
 len:s.length=n
 acyc:∀ i,s.getD i false=true→∀ x,(x=i∨ComesL A i x)→¬ ComesL A x x
theorem RowIn.put {A:Nat→List Nat} {n:Nat} {s:List Bool} (h:RowIn A n s) {i:Nat} (hi:i < n) (hf:s.getD i false=false) (hl:∀ k∈A i,s.getD k false=true):RowIn A n (s.set i true):=by
 refine⟨by rw[List.length_set];exact h.len,fun j hj x hx=>?_⟩
 rw[getD_set_true _ _ _ (by rw[h.len];exact hi)] at hj
 by_cases e:j=i
 ·subst e
  have key:∀ y,ComesL A j y→¬ ComesL A y y:=fun y hy=>by
   cases hy with
   | one h1=>exact h.acyc y (hl _ h1) y (.inl rfl)
   | step h1 t=>exact h.acyc _ (hl _ h1) y (.inr t)
  rcases hx with rfl | hx
  ·intro hc
   exact key _ hc hc
  ·exact key _ hx
 ·rw[decide_eq_false e,Bool.false_or] at hj
  exact h.acyc j hj x hx
structure Round (A:Nat→List Nat) (n:Nat) (s0 s:List Bool) (i:Nat):Prop where
 sub:∀ k,s0.getD k false=true→s.getD k false=true
 got:∀ j,j < i→j < n→(∀ k∈A j,s0.getD k false=true)→s.getD j false=true
theorem Round.put {A:Nat→List Nat} {n:Nat} {s0 s:List Bool} {i:Nat} (h:Round A n s0 s i) (hi:i < s.length):Round A n s0 (s.set i true) (i+1):=by
 refine⟨fun k hk=>?_,fun j hj hn hl=>?_⟩
 ·rw[getD_set_true _ _ _ hi,h.sub k hk,Bool.or_true]
 ·rw[getD_set_true _ _ _ hi]
  by_cases e:j=i
  ·simp[e]
  ·rw[h.got j (by omega) hn hl,Bool.or_true]
open Classical in
noncomputable def flowG (ds:List Df):List Fl:=if h:∃ F,IsFlow ds F then h.choose else []
theorem flowG_eq {ds:List Df} {F:List Fl} (h:IsFlow ds F):flowG ds=F:=by
 have hx:∃ F,IsFlow ds F:=⟨F,h⟩
 unfold flowG
 rw[dif_pos hx]
 exact hx.choose_spec.unique h
theorem may_pos {deb:List Int} {g:Gr} (h:mayG deb g=0):0 < g.n:=by
 rcases Nat.eq_zero_or_pos g.n with e | e
 ·unfold mayG at h
  rw[e] at h
  simp at h
 ·exact e
def IsWhere (deb:List Int) (g:Gr) (r:Int×Int):Prop:=(mayG deb g≠0∧r=(0,mayG deb g))∨(mayG deb g=0∧∃ F,IsFlow g.ds F∧r=if 0 < (refLeft g.ds F).length then ((((refLeft g.ds F).headD 0:Nat):Int),42) else if 0 < (refLoops g.ds F).length then ((((refLoops g.ds F).headD 0:Nat):Int),43) else (0,0))
theorem IsWhere.eq {deb:List Int} {g:Gr} {l m:Int×Int} (h:IsWhere deb g l) (h':IsWhere deb g m):l=m:=by
 rcases h with ⟨a,rfl⟩ | ⟨a,F,d,rfl⟩<;>rcases h' with ⟨a',rfl⟩ | ⟨a',F',d',rfl⟩
 ·rfl
 ·exact absurd a' a
 ·exact absurd a a'
 ·rw[d.unique d']
theorem WWhere_is {I:GH} {deb:List Int} (hT:Tabs I deb) {g:Gr} (hg:g.ok I) (hkb:∀ d∈g.ds,KB d.t):Spec Tryz.prog 58 [g.val] I [] fun v I' M'=>(∀ b o,I b=some o→I' b=some o)∧M'=[] ∧
  ∃ r:Int×Int,v=.tuple #[.int .i64 r.1,.int .i64 r.2]∧IsWhere deb g r:=
 Spec.weakK (WWhere_spec hT hg hkb may64) fun v I' M' h=>by
  obtain⟨h1,h2,r,h3,h5⟩:=h
  refine⟨h1,h2,r,h3,?_⟩
  rcases h5 with h5 | ⟨hm,F,c,d⟩
  ·exact .inl h5
  ·have hM:=mayF_of hg.n hm
   have h64:=may64 hm
   have hgn:=hg.n
   refine .inr ⟨hm,F,c,?_⟩
   rw[d,whereW,if_neg (by simp),lefts_eq hM (by omega),loops_eq hg hM (by omega)]
theorem WCheck_is {I:GH} {deb:List Int} (hT:Tabs I deb) {g:Gr} (hg:g.ok I) (hkb:∀ d∈g.ds,KB d.t):Spec Tryz.prog 21 [g.val] I [] fun v I' M'=>(∀ b o,I b=some o→I' b=some o)∧M'=[] ∧
  ∃ r:Int×Int,v=.int .i64 r.2∧IsWhere deb g r:=by
 refine spec_of_V [] TryzEOK Tryz.func21 rfl rfl rfl ?_
 intro B h0
 refine CallOb.mk [] [] _ (.refl _) (WWhere_is hT hg hkb) ?_
 rintro v I1 N - ⟨hI1,rfl,r,rfl,h⟩
 exact⟨_,_,.refl,hI1,rfl,r,rfl,h⟩
section
variable {I:GH} {M0:List Blk} {deb:List Int}
end
structure NdC where
 k:Int
 s0:Int
 s1:Int
 s2:Int
 s3:Int
 t:List UInt8
 lo:Int
 hi:Int
 kids:List Int
def NdC.nd (c:NdC) (a:Option Addr) (n k:Nat):Nd:=⟨c.k,c.s0,c.s1,c.s2,c.s3,⟨c.t.toArray⟩,c.lo,c.hi,a,n,k,c.kids⟩
inductive NdsR:List NdC→List Nd→Prop
 | nil:NdsR [] []
 | cons {c cs ns} (a:Option Addr) (n k:Nat) (t:NdsR cs ns):NdsR (c::cs) (c.nd a n k::ns)
structure TrC where
 ns:List NdC
 root:Int
structure TrR (c:TrC) (t:Tr):Prop where
 ns:NdsR c.ns t.ns
 root:t.root=c.root
structure DfC where
 name:List UInt8
 t:TrC
inductive DfsR:List DfC→List Df→Prop
 | nil:DfsR [] []
 | cons {c cs ds} {t:Tr} (h:TrR c.t t) (k:DfsR cs ds):DfsR (c::cs) (⟨⟨c.name.toArray⟩,t⟩::ds)
def okIk:Int→Bool
 | .ofNat k=>Nat.ble k 9223372036854775807
 | .negSucc k=>Nat.ble k 9223372036854775807
def okU:Int→Bool
 | .ofNat k=>Nat.ble k 18446744073709551615
 | .negSucc _=>false
def okB:Int→Bool
 | .ofNat k=>Nat.ble k 255
 | .negSucc _=>false
theorem okIk_eq {x:Int} (h:okIk x=true):i64ok x:=by
 cases x with
 | ofNat k=>
  have:=Nat.le_of_ble_eq_true h
  exact⟨by simp only[Int.ofNat_eq_natCast];omega,by simp only[Int.ofNat_eq_natCast];omega⟩
 | negSucc k=>
  have:=Nat.le_of_ble_eq_true h
  exact⟨by omega,by omega⟩
theorem okU_eq {x:Int} (h:okU x=true):u64ok x:=by
 cases x with
 | ofNat k=>
  have:=Nat.le_of_ble_eq_true h
  exact⟨by simp,by simp;omega⟩
 | negSucc k=>cases h
theorem okB_eq {x:Int} (h:okB x=true):0≤x∧x < 256:=by
 cases x with
 | ofNat k=>
  have:=Nat.le_of_ble_eq_true h
  exact⟨by simp,by simp;omega⟩
 | negSucc k=>cases h
noncomputable def asU8:EV→Option Int
 | .i .u8 n=>cnd (okB n) (some n) none
 | _=>none
noncomputable def asU64:EV→Option Int
 | .i .u64 n=>cnd (okU n) (some n) none
 | _=>none
noncomputable def asI64:EV→Option Int
 | .i .i64 n=>cnd (okIk n) (some n) none
 | _=>none
noncomputable def asS:EV→Option (List UInt8)
 | .s l=>cnd (Nat.ble l.length 140737488355328) (some l) none
 | _=>none
section
variable {D:Nm} {v:EV} {u:Value}
theorem asU8_ok {n:Int} (h:asU8 v=some n) (hv:VR D v u):u=.int .u8 n∧0≤n∧n < 256:=by
 unfold asU8 at h
 split at h
 ·obtain⟨h1,h2⟩:=cnd_some h
  cases h2
  simp only[VR] at hv
  exact⟨hv,okB_eq h1⟩
 ·cases h
theorem asU64_ok {n:Int} (h:asU64 v=some n) (hv:VR D v u):u=.int .u64 n∧u64ok n:=by
 unfold asU64 at h
 split at h
 ·obtain⟨h1,h2⟩:=cnd_some h
  cases h2
  simp only[VR] at hv
  exact⟨hv,okU_eq h1⟩
 ·cases h
theorem asI64_ok {n:Int} (h:asI64 v=some n) (hv:VR D v u):u=.int .i64 n∧i64ok n:=by
 unfold asI64 at h
 split at h
 ·obtain⟨h1,h2⟩:=cnd_some h
  cases h2
  simp only[VR] at hv
  exact⟨hv,okIk_eq h1⟩
 ·cases h
theorem asS_ok {l:List UInt8} (h:asS v=some l) (hv:VR D v u):u=.string ⟨l.toArray⟩∧(⟨l.toArray⟩:ByteArray).size≤140737488355328:=by
 unfold asS at h
 split at h
 ·obtain⟨h1,h2⟩:=cnd_some h
  cases h2
  simp only[VR] at hv
  exact⟨hv,Nat.le_of_ble_eq_true h1⟩
 ·cases h
end
noncomputable def readS {R:Type} (G:GT) (m:Tri Ent) (x:EV) (size b:Nat) (K:List EV→Option R):Option R:=match x with
 | .sn=>K []
 | .so=>K []
 | .sl id off n c=>cnd (Nat.ble n c) (cnd (Nat.ble (Nat.mul n b) 140737488355328) (loadE G m (.p id off) (Nat.mul n size) K) none) none
 | .sx id off e n=>cnd (Nat.ble (Nat.mul n b) 140737488355328) (loadE G m (.p id off) (Nat.mul n size) K) none
 | _=>none
noncomputable def ints:List EV→Option (List Int)
 | []=>some []
 | v::l=>opn (asI64 v) none fun n=>opn (ints l) none fun r=>some (n::r)
noncomputable def readNds (G:GT) (m:Tri Ent):List EV→Option (List NdC)
 | []=>some []
 | a::b::c::d::e::f::g::h::x::l=>opn (asU8 a) none fun a=>opn (asU64 b) none fun b=>opn (asU64 c) none fun c=>opn (asU64 d) none fun d=>opn (asU64 e) none fun e=>opn (asS f) none fun f=>opn (asI64 g) none fun g=>opn (asI64 h) none fun h=>
  opn (readS G m x 1 8 ints) none fun ks=>opn (readNds G m l) none fun ns=>some (⟨a,b,c,d,e,f,g,h,ks⟩::ns)
 | _=>none
noncomputable def readTr (G:GT) (m:Tri Ent) (x r:EV):Option TrC:=opn (readS G m x 9 96 (readNds G m)) none fun ns=>opn (asI64 r) none fun r=>some ⟨ns,r⟩
noncomputable def readDfs (G:GT) (m:Tri Ent):List EV→Option (List DfC)
 | []=>some []
 | a::x::r::l=>opn (asS a) none fun a=>opn (readTr G m x r) none fun t=>opn (readDfs G m l) none fun ds=>some (⟨a,t⟩::ds)
 | _=>none
noncomputable def readGr (G:GT) (m:Tri Ent):EV→Option (List DfC)
 | .a [x]=>readS G m x 3 48 (readDfs G m)
 | _=>none
section
variable {Y:RK} {D:Nm} {m:Me} {I J:GH} {M:List Blk}
theorem readS_ok {R:Type} (h:MS Y D m I M) (hJ:Frz I M J) {x:EV} {u:Value} (hx:VR D x u) {size b:Nat} {K:List EV→Option R} {r:R} (hr:readS Y.G m.t x size b K=some r) :
  ∃ a n c l vs,u=.slice a n c∧RS J a n c size b vs∧VRs D l vs∧K l=some r:=by
 unfold readS at hr
 split at hr
 ·simp only[VR] at hx
  exact⟨none,0,0,[],[],hx,⟨by simp,⟨Nat.le_refl _,by omega⟩,.inl rfl⟩,by simp[VRs],hr⟩
 ·simp only[VR] at hx
  obtain⟨a,c,hx⟩:=hx
  exact⟨some a,0,c,[],[],hx,⟨by simp,⟨Nat.zero_le _,by omega⟩,.inl rfl⟩,by simp[VRs],hr⟩
 ·rename_i id off n c
  obtain⟨h1,hr⟩:=cnd_some hr
  obtain⟨h2,hr⟩:=cnd_some hr
  simp only[VR] at hx
  obtain⟨a,ha,hx⟩:=hx
  obtain⟨ad,l,vs,e1,e2,e3,e4⟩:=loadE_ok h (x:=.p id off) (u:=.pointer (some ⟨a.b,a.o+off,none⟩)) (by simp only[VR];exact⟨a,ha,rfl⟩) hr
  cases e1
  obtain⟨g1,cs,T,f,g2,g3,g4⟩:=e2
  exact⟨_,n,c,l,vs,hx,⟨g4,⟨Nat.le_of_ble_eq_true h1,Nat.le_of_ble_eq_true h2⟩,.inr ⟨_,rfl,rfl,cs,T,f,hJ.kn _ _ g2,g3⟩⟩,e3,e4⟩
 ·rename_i id off e n
  obtain⟨h2,hr⟩:=cnd_some hr
  simp only[VR] at hx
  obtain⟨a,ha,hc,hx⟩:=hx
  obtain⟨ad,l,vs,e1,e2,e3,e4⟩:=loadE_ok h (x:=.p id off) (u:=.pointer (some ⟨a.b,a.o+off,none⟩)) (by simp only[VR];exact⟨a,ha,rfl⟩) hr
  cases e1
  obtain⟨g1,cs,T,f,g2,g3,g4⟩:=e2
  exact⟨_,n,a.c - e,l,vs,hx,⟨g4,⟨by omega,Nat.le_of_ble_eq_true h2⟩,.inr ⟨_,rfl,rfl,cs,T,f,hJ.kn _ _ g2,g3⟩⟩,e3,e4⟩
 ·cases hr
theorem ints_ok:∀ {l:List EV} {vs:List Value} {ks:List Int},ints l=some ks→VRs D l vs→vs=ks.map (Value.int .i64 ·)∧∀ x∈ks,i64ok x
 | [],vs,ks,h,hv=>by
  cases h
  simp only[VRs] at hv
  exact⟨hv,by simp⟩
 | v::l,vs,ks,h,hv=>by
  unfold ints at h
  obtain⟨n,h1,h⟩:=opn_eq h
  obtain⟨r,h2,h⟩:=opn_eq h
  cases h
  simp only[VRs] at hv
  obtain⟨x,xs,g1,g2,rfl⟩:=hv
  obtain⟨rfl,e1⟩:=asI64_ok h1 g1
  obtain⟨rfl,e2⟩:=ints_ok h2 g2
  exact⟨rfl,fun x hx=>(List.mem_cons.1 hx).elim (fun e=>e ▸ e1) (e2 x)⟩
theorem readNds_ok (h:MS Y D m I M) (hJ:Frz I M J):∀ (l:List EV) {vs:List Value} {cs:List NdC},readNds Y.G m.t l=some cs→VRs D l vs→∃ ns:List Nd,vs=ns.flatMap Nd.cells∧NdsR cs ns∧∀ d∈ns,d.ok J
 | [],vs,cs,hr,hv=>by
  cases hr
  simp only[VRs] at hv
  exact⟨[],hv,.nil,by simp⟩
 | a::b::c::d::e::f::g::i::x::l,vs,cs,hr,hv=>by
  unfold readNds at hr
  obtain⟨a',h1,hr⟩:=opn_eq hr
  obtain⟨b',h2,hr⟩:=opn_eq hr
  obtain⟨c',h3,hr⟩:=opn_eq hr
  obtain⟨d',h4,hr⟩:=opn_eq hr
  obtain⟨e',h5,hr⟩:=opn_eq hr
  obtain⟨f',h6,hr⟩:=opn_eq hr
  obtain⟨g',h7,hr⟩:=opn_eq hr
  obtain⟨i',h8,hr⟩:=opn_eq hr
  obtain⟨ks,h9,hr⟩:=opn_eq hr
  obtain⟨ns',h10,hr⟩:=opn_eq hr
  cases hr
  simp only[VRs] at hv
  obtain⟨_,_,k1,⟨_,_,k2,⟨_,_,k3,⟨_,_,k4,⟨_,_,k5,⟨_,_,k6,⟨_,_,k7,⟨_,_,k8,⟨_,_,k9,k10,rfl⟩,rfl⟩,rfl⟩,rfl⟩,rfl⟩,rfl⟩,rfl⟩,rfl⟩,rfl⟩:=hv
  obtain⟨rfl,e1⟩:=asU8_ok h1 k1
  obtain⟨rfl,e2⟩:=asU64_ok h2 k2
  obtain⟨rfl,e3⟩:=asU64_ok h3 k3
  obtain⟨rfl,e4⟩:=asU64_ok h4 k4
  obtain⟨rfl,e5⟩:=asU64_ok h5 k5
  obtain⟨rfl,e6⟩:=asS_ok h6 k6
  obtain⟨rfl,e7⟩:=asI64_ok h7 k7
  obtain⟨rfl,e8⟩:=asI64_ok h8 k8
  obtain⟨ka,kn,kc,li,vi,rfl,e9,e10,e11⟩:=readS_ok h hJ k9 h9
  obtain⟨rfl,e12⟩:=ints_ok e11 e10
  obtain⟨ns,rfl,e13,e14⟩:=readNds_ok h hJ l h10 k10
  refine⟨NdC.nd ⟨a',b',c',d',e',f',g',i',ks⟩ ka kn kc::ns,rfl,.cons ka kn kc e13,fun y hy=>?_⟩
  rcases List.mem_cons.1 hy with rfl | hy
  ·exact⟨e1,e2,e3,e4,e5,Nat.le_trans e6 (by decide),e7,e8,e9,e12⟩
  ·exact e14 y hy
theorem readTr_ok (h:MS Y D m I M) (hJ:Frz I M J) {x r:EV} {u w:Value} {c:TrC} (hr:readTr Y.G m.t x r=some c) (hx:VR D x u) (hw:VR D r w):∃ t:Tr,u=.slice t.a t.n t.c∧w=.int .i64 t.root∧t.ok J∧TrR c t:=by
 unfold readTr at hr
 obtain⟨ns,h1,hr⟩:=opn_eq hr
 obtain⟨k,h2,hr⟩:=opn_eq hr
 cases hr
 obtain⟨rfl,e1⟩:=asI64_ok h2 hw
 obtain⟨a,n,c,l,vs,rfl,e2,e3,e4⟩:=readS_ok h hJ hx h1
 obtain⟨ds,rfl,e5,e6⟩:=readNds_ok h hJ l e4 e3
 exact⟨⟨ds,a,n,c,k⟩,rfl,rfl,⟨e2,e6,e1⟩,⟨e5,rfl⟩⟩
theorem readDfs_ok (h:MS Y D m I M) (hJ:Frz I M J):∀ (l:List EV) {vs:List Value} {cs:List DfC},readDfs Y.G m.t l=some cs→VRs D l vs→∃ ds:List Df,vs=ds.flatMap Df.cells∧DfsR cs ds∧∀ d∈ds,d.ok J
 | [],vs,cs,hr,hv=>by
  cases hr
  simp only[VRs] at hv
  exact⟨[],hv,.nil,by simp⟩
 | a::x::r::l,vs,cs,hr,hv=>by
  unfold readDfs at hr
  obtain⟨a',h1,hr⟩:=opn_eq hr
  obtain⟨t',h2,hr⟩:=opn_eq hr
  obtain⟨ds',h3,hr⟩:=opn_eq hr
  cases hr
  simp only[VRs] at hv
  obtain⟨_,_,k1,⟨_,_,k2,⟨_,_,k3,k4,rfl⟩,rfl⟩,rfl⟩:=hv
  obtain⟨rfl,e1⟩:=asS_ok h1 k1
  obtain⟨t,rfl,rfl,e2,e3⟩:=readTr_ok h hJ h2 k2 k3
  obtain⟨ds,rfl,e4,e5⟩:=readDfs_ok h hJ l h3 k4
  refine⟨⟨⟨a'.toArray⟩,t⟩::ds,rfl,.cons (c:=⟨a',t'⟩) e3 e4,fun y hy=>?_⟩
  rcases List.mem_cons.1 hy with rfl | hy
  ·exact⟨e1,e2⟩
  ·exact e5 y hy
theorem readGr_ok (h:MS Y D m I M) (hJ:Frz I M J) {x:EV} {u:Value} {cs:List DfC} (hr:readGr Y.G m.t x=some cs) (hx:VR D x u):∃ g:Gr,u=g.val∧g.ok J∧DfsR cs g.ds:=by
 unfold readGr at hr
 split at hr
 ·simp only[VR,VRs] at hx
  obtain⟨_,⟨y,_,hx,rfl,rfl⟩,rfl⟩:=hx
  obtain⟨a,n,c,l,vs,rfl,e2,e3,e4⟩:=readS_ok h hJ hx hr
  obtain⟨ds,rfl,e5,e6⟩:=readDfs_ok h hJ l e4 e3
  exact⟨⟨ds,a,n,c⟩,rfl,⟨e2,e6⟩,e5⟩
 ·cases hr
end
noncomputable def grOf (f g:Nat) (text:List UInt8):Option (List DfC×Int×IntKind×Int):=opn (callF YK (E_code YK f) g [.s text] ⟨.nil,0⟩) none fun p=>match p.1 with
 | .t [x,.i .i64 a,.i k e]=>opn (readGr GTs p.2.t x) none fun c=>some (c,a,k,e)
 | _=>none
theorem grOf_spec {I:GH} (hT:Tabs I debL) {f g:Nat} {text:List UInt8} {c:List DfC} {a:Int} {k:IntKind} {e:Int} (h:grOf f g text=some (c,a,k,e)) :
  Spec Tryz.prog g [.string ⟨text.toArray⟩] I [] fun r J M''=>M''=[]∧(∀ b o,I b=some o→J b=some o)∧∃ G:Gr,r=.tuple #[G.val,.int .i64 a,.int k e]∧G.ok J∧DfsR c G.ds:=by
 unfold grOf at h
 obtain⟨⟨v,m'⟩,h1,h⟩:=opn_eq h
 refine Spec.weakK (reckonX hT h1 (us:=[.string ⟨text.toArray⟩]) (by simp[VRs,VR])) ?_
 rintro r J M'' ⟨rfl,hle,I',M',D',hv,hm,hJ⟩
 refine⟨rfl,hle,?_⟩
 simp only at h
 split at h
 ·obtain⟨c',h2,h⟩:=opn_eq h
  cases h
  simp only[VR,VRs] at hv
  obtain⟨_,⟨u,_,hu,⟨_,_,rfl,⟨_,_,rfl,rfl,rfl⟩,rfl⟩,rfl⟩,rfl⟩:=hv
  obtain⟨G,rfl,g1,g2⟩:=readGr_ok hm hJ h2 hu
  exact⟨G,rfl,g1,g2⟩
 ·cases h
def NdC.pl (c:NdC):Nd:=c.nd none 0 0
def TrC.tr (c:TrC):Tr:=⟨c.ns.map NdC.pl,none,c.ns.length,0,c.root⟩
def DfC.df (c:DfC):Df:=⟨⟨c.name.toArray⟩,c.t.tr⟩
def grC (cs:List DfC):Gr:=⟨cs.map DfC.df,none,cs.length,0⟩
theorem NdsR.ct {cs:List NdC} {ns:List Nd} (h:NdsR cs ns):ns.map Nd.ct=cs.map NdC.pl:=by
 induction h with
 | nil=>rfl
 | cons a n k t ih=>rw[List.map_cons,List.map_cons,ih];rfl
theorem NdsR.len {cs:List NdC} {ns:List Nd} (h:NdsR cs ns):ns.length=cs.length:=by
 induction h with
 | nil=>rfl
 | cons a n k t ih=>simp[ih]
theorem TrR.ct {I:GH} {c:TrC} {t:Tr} (h:TrR c t) (ht:t.ok I):t.ct=c.tr:=by
 unfold Tr.ct TrC.tr
 rw[h.ns.ct,h.root,←ht.n,h.ns.len]
theorem DfsR.ct {I:GH} {cs:List DfC} {ds:List Df} (h:DfsR cs ds) (hd:∀ d∈ds,d.ok I):ds.map Df.ct=cs.map DfC.df:=by
 induction h with
 | nil=>rfl
 | cons h k ih=>
  rw[List.map_cons,List.map_cons,ih fun d hd'=>hd d (.tail _ hd')]
  congr 1
  unfold Df.ct DfC.df
  rw[h.ct (hd _ (.head _)).t]
theorem DfsR.len {cs:List DfC} {ds:List Df} (h:DfsR cs ds):ds.length=cs.length:=by
 induction h with
 | nil=>rfl
 | cons h k ih=>simp[ih]
theorem gr_ct {I:GH} {cs:List DfC} {g:Gr} (h:DfsR cs g.ds) (hg:g.ok I):g.ct=grC cs:=by
 unfold Gr.ct grC
 rw[h.ct hg.ds,←hg.n,h.len]
def kbC (c:TrC):Bool:=c.ns.all fun n=>decide (n.kids.length≤1000)
theorem kb_of {I:GH} {c:TrC} {t:Tr} (h:TrR c t) (ht:t.ok I) (hk:kbC c=true):KB t:=fun n hn=>by
 have h1:=(ht.ns n hn).kn
 have h2:n.ct∈c.ns.map NdC.pl:=by
  rw[←h.ns.ct]
  exact List.mem_map.2 ⟨n,hn,rfl⟩
 obtain⟨x,hx,e⟩:=List.mem_map.1 h2
 have h3:=of_decide_eq_true (List.all_eq_true.1 hk x hx)
 have h4:x.kids=n.kids:=congrArg Nd.kids e
 rw[h4] at h3
 omega
theorem kbs_of {I:GH} {cs:List DfC} {ds:List Df} (h:DfsR cs ds) (hd:∀ d∈ds,d.ok I) (hk:(cs.all fun d=>d.t.ns.all fun n=>decide (n.kids.length≤1000))=true):∀ d∈ds,KB d.t:=by
 induction h with
 | nil=>intro d hd;cases hd
 | cons h k ih=>
  simp only[List.all_cons,Bool.and_eq_true] at hk
  intro d hm
  rcases List.mem_cons.1 hm with rfl | hm
  ·exact kb_of h (hd _ (.head _)).t hk.1
  ·exact ih (fun d hd'=>hd d (.tail _ hd')) (by simpa using hk.2) d hm
theorem rawL_ct (ds:List Df) (F:List Fl) (i:Nat):rawL (ds.map Df.ct) F i=rawL ds F i:=by
 unfold rawL
 rw[List.getElem?_map,placesL_ct]
 cases ds[i]? with
 | none=>rfl
 | some d=>
  show (leftAt (placesL ds) F (d.t.ns.map Nd.ct) d.t.root).2=_
  rw[left_ct]
theorem endL_ct (ds:List Df) (F:List Fl) (i:Nat):endL (ds.map Df.ct) F i=endL ds F i:=by
 unfold endL
 rw[List.getElem?_map,placesL_ct]
 cases ds[i]? with
 | none=>rfl
 | some d=>
  show (endAt (placesL ds) F (d.t.ns.map Nd.ct) d.t.root).2=_
  rw[end_ct]
theorem refLefts_ct (ds:List Df) (F:List Fl):refLefts (ds.map Df.ct) F=refLefts ds F:=by
 funext i
 unfold refLefts
 rw[List.length_map,rawL_ct]
theorem refLoops_ct (ds:List Df) (F:List Fl):refLoops (ds.map Df.ct) F=refLoops ds F:=by
 unfold refLoops
 rw[List.length_map]
 exact List.filter_congr fun i _=>endL_ct ds F i
theorem leftC_ct (ds:List Df) (F:List Fl):leftC (ds.map Df.ct) F=leftC ds F:=by
 unfold leftC
 rw[List.length_map,refLefts_ct]
theorem isFlow_of_ct {ds:List Df} {l:List Fl} (h:IsFlow (ds.map Df.ct) l):IsFlow ds l:=by
 refine⟨by rw[h.len,List.length_map],fun i hi=>?_,fun m hm hc=>?_⟩
 ·have:=h.fix i (by simpa using hi)
  rwa [placesL_ct,List.getElem_map,bodyF_ct] at this
 ·refine h.least m (by rw[hm,List.length_map]) fun i hi=>?_
  rw[placesL_ct,List.getElem_map,bodyF_ct]
  exact hc i (by simpa using hi)
def whereC (ds:List Df) (F:List Fl):Int×Int:=bif decide (0 < (leftC ds F).length) then ((((leftC ds F).headD 0:Nat):Int),42) else bif decide (0 < (refLoops ds F).length) then ((((refLoops ds F).headD 0:Nat):Int),43) else (0,0)
structure Known13 (cs:List DfC) (F:List Fl):Prop where
 may:mayG debL (grC cs)=0
 flow:IsFlow (grC cs).ds F
 kb:(cs.all fun d=>d.t.ns.all fun n=>decide (n.kids.length≤1000))=true
theorem Known13.of {I:GH} {cs:List DfC} {F:List Fl} (hK:Known13 cs F) {g:Gr} (hg:g.ok I) (hR:DfsR cs g.ds):mayG debL g=0∧IsFlow g.ds F∧(∀ d∈g.ds,KB d.t):=by
 have hct:=gr_ct hR hg
 have hds:g.ds.map Df.ct=(grC cs).ds:=congrArg Gr.ds hct
 have hm:mayG debL g=0:=by rw[←mayG_ct,hct];exact hK.may
 refine⟨hm,?_,kbs_of hR hg.ds hK.kb⟩
 have:=hK.flow
 rw[←hds] at this
 exact isFlow_of_ct this
theorem known_where {I:GH} {cs:List DfC} {F:List Fl} (hK:Known13 cs F) {g:Gr} (hg:g.ok I) (hR:DfsR cs g.ds) {r:Int×Int} (h:IsWhere debL g r):r=whereC (grC cs).ds F:=by
 obtain⟨hm,hF,-⟩:=hK.of hg hR
 have hds:g.ds.map Df.ct=(grC cs).ds:=congrArg Gr.ds (gr_ct hR hg)
 have hM:=mayF_of hg.n hm
 rcases h with ⟨a,-⟩ | ⟨-,F',hF',rfl⟩
 ·exact absurd hm a
 ·obtain rfl:=hF.unique hF'
  rw[←hds,whereC,leftC_ct,refLoops_ct,leftC_eq hM]
  by_cases h1:0 < (refLeft g.ds F).length
  ·rw[if_pos h1,decide_eq_true h1,cond_true]
  ·rw[if_neg h1,decide_eq_false h1,cond_false]
   by_cases h2:0 < (refLoops g.ds F).length
   ·rw[if_pos h2,decide_eq_true h2,cond_true]
   ·rw[if_neg h2,decide_eq_false h2,cond_false]
def itF (ds:List Df):Nat→List Fl→List Fl
 | 0,L=>L
 | k+1,L=>itF ds k (ds.map (bodyF (placesL ds) L))
theorem itF_ok {ds:List Df}:∀ (k:Nat) {L:List Fl},PreF ds L→ds.map (bodyF (placesL ds) (itF ds k L))=itF ds k L→IsFlow ds (itF ds k L)
 | 0,L,hp,h=>by
  refine⟨hp.len,fun i hi=>?_,hp.least⟩
  have:=map_getD (f:=bodyF (placesL ds) L) hi
  have h1:ds.map (bodyF (placesL ds) L)=L:=h
  rw[h1] at this
  exact this
 | k+1,L,hp,h=>itF_ok k hp.all.1 h
def flC (cs:List DfC) (k:Nat):List Fl:=itF (grC cs).ds k (List.replicate (grC cs).ds.length fl0)
def chk13 (cs:List DfC) (F:List Fl) (k:Nat):Bool:=decide (mayG debL (grC cs)=0) && (decide (flC cs k=F) && (decide ((grC cs).ds.map (bodyF (placesL (grC cs).ds) F)=F) && cs.all fun d=>d.t.ns.all fun n=>decide (n.kids.length≤1000)))
theorem known13_of {cs:List DfC} {F:List Fl} {k:Nat} (h:chk13 cs F k=true):Known13 cs F:=by
 simp only[chk13,Bool.and_eq_true,decide_eq_true_eq] at h
 obtain⟨h1,h2,h3,h4⟩:=h
 refine⟨h1,?_,by simpa using h4⟩
 have:=itF_ok k (PreF.start (grC cs).ds)
 unfold flC at h2
 rw[h2] at this
 exact this h3
structure IA where
 l:List Fi
 a:Option Addr
 n:Nat
 c:Nat
def IA.val (x:IA):Value:=.slice x.a x.n x.c
section
variable {H:Type} {enc:TypeId×Value→H} {W:World} {base:Nat} {sp:Nat→Bool} {held:Bool}
end
noncomputable def gives (f g:Nat) (args:List EV):Option EV:=opn (callF YK (E_code YK f) g args ⟨.nil,0⟩) none fun p=>some p.1
def FirRel (g:Gr) (l:List Fi):Prop:=(mayG debL g=0∧∃ F,IsFlow g.ds F∧IsFirst g.ds F l)∨(mayG debL g≠0∧l=[])
theorem FirRel.len {g:Gr} {l:List Fi} (h:FirRel g l):l.length≤g.ds.length:=by
 rcases h with ⟨a,F,hF,h⟩ | ⟨a,h⟩
 ·rw[h.len];exact Nat.le_refl _
 ·rw[h];exact Nat.zero_le _
def NodRel (g:Gr) (l:List Fi) (t:Tr) (r:List Fi):Prop:=(okI debL g l t=true∧∃ F,IsFlow g.ds F∧r=nodesI (placesL g.ds) l (nodesF (placesL g.ds) F t.ns []) t.ns [])∨(okI debL g l t=false∧r=[])
theorem NodRel.len {g:Gr} {l:List Fi} {t:Tr} {r:List Fi} (h:NodRel g l t r):r.length≤t.ns.length:=by
 rcases h with ⟨a,F,hF,rfl⟩ | ⟨a,rfl⟩
 ·rw[nodesI_len];simp
 ·exact Nat.zero_le _
section
variable {I:GH} {M0:List Blk}
end
theorem IsLefts.len {deb:List Int} {g:Gr} {r:Int} {l:List Nat} (h:IsLefts deb g r l):l.length≤g.ds.length:=by
 rcases h with ⟨-,rfl⟩ | ⟨-,F,k,-,-,-,rfl⟩
 ·exact Nat.zero_le _
 ·exact range_filter_len _ _
theorem IsLoops.len {deb:List Int} {g:Gr} {l:List Nat} (h:IsLoops deb g l):l.length≤g.ds.length:=by
 rcases h with ⟨-,rfl⟩ | ⟨-,F,-,rfl⟩
 ·exact Nat.zero_le _
 ·exact range_filter_len _ _
theorem IsLeft.len {deb:List Int} {g:Gr} {l:List Nat} (h:IsLeft deb g l):l.length≤g.ds.length:=by
 rcases h with ⟨-,rfl⟩ | ⟨-,F,-,rfl⟩
 ·exact Nat.zero_le _
 ·exact range_filter_len _ _
def namesR (ns:List Nd) (nm:ByteArray):Bool:=ns.any fun n=>decide (n.k=3) && decide (n.t=nm)
def callR (g:Gr) (i k:Nat):Bool:=match g.ds[i]?,g.ds[k]? with
 | some d,some e=>namesR d.t.ns e.name
 | _,_=>false
def baseR (g:Gr) (i k:Nat):Bool:=decide (i=k) || callR g i k
def PV (g:Gr):Nat→Nat→Nat→Prop
 | 0,i,k=>baseR g i k=true
 | m+1,i,k=>PV g m i k∨(PV g m i m∧PV g m m k)
theorem PV.trans {g:Gr}:∀ {m i j k:Nat},PV g m i j→PV g m j k→j < m→PV g m i k
 | m+1,i,j,k,h1,h2,hj=>by
  by_cases e:j=m
  ·subst e
   have a1:PV g j i j:=h1.elim id (·.1)
   have a2:PV g j j k:=h2.elim id (·.2)
   exact .inr ⟨a1,a2⟩
  ·have hj:j < m:=by omega
   rcases h1 with h1 | ⟨h1,h1'⟩<;>rcases h2 with h2 | ⟨h2,h2'⟩
   ·exact .inl (PV.trans h1 h2 hj)
   ·exact .inr ⟨PV.trans h1 h2 hj,h2'⟩
   ·exact .inr ⟨h1,PV.trans h1' h2 hj⟩
   ·exact .inr ⟨h1,h2'⟩
theorem thereL_at {ds:List Df} {n:Nat} (hn:ds.length=n):∀ (names:List ByteArray) (s:List Bool),s.length=n→∀ k,k < n→((names.foldl (fun s nm=>markK n s (findAt nm ds 0)) s).getD k false=true ↔ s.getD k false=true∨∃ nm∈names,findAt nm ds 0=(k:Int))
 | [],s,hs,k,hk=>by simp
 | nm::names,s,hs,k,hk=>by
  rw[List.foldl_cons,thereL_at hn names _ (by rw[markK_len];exact hs) k hk]
  have hm:(markK n s (findAt nm ds 0)).getD k false=true ↔ s.getD k false=true∨findAt nm ds 0=(k:Int):=by
   unfold markK
   cases hb:decide (0≤findAt nm ds 0) && decide (findAt nm ds 0 < n) with
   | true=>
    rw[cond_true]
    simp at hb
    simp only[List.getD_eq_getElem?_getD,List.getElem?_set]
    by_cases e:(findAt nm ds 0).toNat=k
    ·have:findAt nm ds 0=(k:Int):=by omega
     simp[e,this,hs,hk]
    ·have:¬ findAt nm ds 0=(k:Int):=by omega
     simp[e,this]
   | false=>
    rw[cond_false]
    have:¬ findAt nm ds 0=(k:Int):=by
     intro e
     rw[e] at hb
     simp at hb
     omega
    simp[this]
  rw[hm]
  constructor
  ·rintro((h | h) | ⟨x,hx,h⟩)
   ·exact .inl h
   ·exact .inr ⟨nm,by simp,h⟩
   ·exact .inr ⟨x,by simp[hx],h⟩
  ·rintro(h | ⟨x,hx,h⟩)
   ·exact .inl (.inl h)
   ·rcases List.mem_cons.1 hx with rfl | hx
    ·exact .inl (.inr h)
    ·exact .inr ⟨x,hx,h⟩
theorem may_first {deb:List Int} {g:Gr} (hn:g.ds.length=g.n) (h:mayG deb g=0):∀ i (hi:i < g.ds.length),findAt g.ds[i].name g.ds 0=(i:Int):=by
 rw[←mayR_eq] at h
 intro i hi
 have hall:(List.range g.ds.length).all (firstOf g.ds)=true:=by
  unfold mayR at h
  cases hb:(List.range g.ds.length).all (firstOf g.ds) with
  | true=>rfl
  | false=>
   rw[hb] at h
   exfalso
   revert h
   cases decide ((g.n:Int)=0)<;>cases (!okDefs g.ds)<;>cases largeG deb g<;>simp
 have:=List.all_eq_true.1 hall i (List.mem_range.2 hi)
 rw[firstOf_lt hi] at this
 simpa using this
def at2 (R:List (List Bool)) (i k:Nat):Bool:=(R.getD i []).getD k false
def set2 (R:List (List Bool)) (i k:Nat) (v:Bool):List (List Bool):=R.set i ((R.getD i []).set k v)
structure Sq (n:Nat) (R:List (List Bool)):Prop where
 len:R.length=n
 row:∀ i (h:i < R.length),R[i].length=n
theorem Sq.set {n:Nat} {R:List (List Bool)} (h:Sq n R) {i k:Nat} (hi:i < n) (v:Bool):Sq n (set2 R i k v):=by
 refine⟨by simp[set2,h.len],fun j hj=>?_⟩
 simp only[set2,List.length_set] at hj
 have hil:i < R.length:=by rw[h.len];exact hi
 simp only[set2,List.getElem_set]
 split
 ·rw[List.length_set]
  simp[List.getD_eq_getElem?_getD,hil,h.row i hil]
 ·exact h.row j hj
theorem at2_set {n:Nat} {R:List (List Bool)} (h:Sq n R) {i k:Nat} (hi:i < n) (hk:k < n) (v:Bool) (a b:Nat):at2 (set2 R i k v) a b=bif decide (a=i∧b=k) then v else at2 R a b:=by
 have hil:i < R.length:=by rw[h.len];exact hi
 have hkl:k < R[i].length:=by rw[h.row i hil];exact hk
 unfold at2 set2
 simp only[List.getD_eq_getElem?_getD,List.getElem?_set]
 by_cases ha:i=a
 ·subst ha
  simp only[if_true,hil,if_true,Option.getD_some,List.getElem?_eq_getElem hil]
  rw[List.getElem?_set]
  by_cases hb:k=b
  ·subst hb
   simp[hkl]
  ·have:¬ (b=k):=fun e=>hb e.symm
   simp[hb,this]
 ·have:¬ (a=i):=fun e=>ha e.symm
  simp[ha,this]
structure InRound (g:Gr) (m:Nat) (A R:List (List Bool)) (done:Nat→Nat→Prop):Prop where
 sound:∀ i k,at2 R i k=true→PV g g.n i k
 grow:∀ i k,at2 A i k=true→at2 R i k=true
 new:∀ i k,done i k→at2 A i m=true→at2 A m k=true→at2 R i k=true
theorem InRound.step {g:Gr} {m:Nat} {A R:List (List Bool)} {d d':Nat→Nat→Prop} (h:InRound g m A R d) (hR:Sq g.n R) {i k:Nat} (hi:i < g.n) (hk:k < g.n) (hm:m < g.n) (hd:∀ a b,d' a b→d a b∨(a=i∧b=k)) :
  InRound g m A (set2 R i k (at2 R i k || (at2 R i m && at2 R m k))) d':=by
 have hs:=at2_set hR hi hk (at2 R i k || (at2 R i m && at2 R m k))
 have up:∀ a b,at2 R a b=true→at2 (set2 R i k (at2 R i k || (at2 R i m && at2 R m k))) a b=true:=fun a b hab=>by
  rw[hs]
  by_cases e:a=i∧b=k
  ·obtain⟨rfl,rfl⟩:=e
   simp[hab]
  ·simp[e,hab]
 refine⟨fun a b hab=>?_,fun a b hab=>up a b (h.grow a b hab),fun a b hdab h1 h2=>?_⟩
 ·rw[hs] at hab
  by_cases e:a=i∧b=k
  ·obtain⟨rfl,rfl⟩:=e
   simp at hab
   rcases hab with hab | ⟨q1,q2⟩
   ·exact h.sound _ _ hab
   ·exact PV.trans (h.sound _ _ q1) (h.sound _ _ q2) hm
  ·simp[e] at hab
   exact h.sound _ _ hab
 ·rcases hd a b hdab with hdab | ⟨rfl,rfl⟩
  ·exact up a b (h.new a b hdab h1 h2)
  ·rw[hs]
   simp[h.grow _ _ h1,h.grow _ _ h2]
structure RoundInv (g:Gr) (m:Nat) (R:List (List Bool)):Prop where
 sq:Sq g.n R
 sound:∀ i k,at2 R i k=true→PV g g.n i k
 comp:∀ i k,i < g.n→k < g.n→PV g m i k→at2 R i k=true
theorem RoundInv.next {g:Gr} {m:Nat} {A R:List (List Bool)} (hA:RoundInv g m A) (hm:m < g.n) (hR:Sq g.n R) (h:InRound g m A R fun i k=>i < g.n∧k < g.n):RoundInv g (m+1) R:=by
 refine⟨hR,h.sound,fun i k hi hk hp=>?_⟩
 rcases hp with hp | ⟨h1,h2⟩
 ·exact h.grow _ _ (hA.comp i k hi hk hp)
 ·exact h.new i k ⟨hi,hk⟩ (hA.comp i m hi hm h1) (hA.comp m k hm hk h2)
theorem IsWhere.get {deb:List Int} {g:Gr} (hm:mayG deb g=0) {r:Int×Int} (h:IsWhere deb g r):r.2=0 ↔ (refLeft g.ds (flowG g.ds)).length=0∧(refLoops g.ds (flowG g.ds)).length=0:=by
 rcases h with ⟨a,-⟩ | ⟨-,F,c,rfl⟩
 ·exact absurd hm a
 ·rw[flowG_eq c]
  by_cases h1:0 < (refLeft g.ds F).length
  ·rw[if_pos h1]
   simp only
   omega
  ·rw[if_neg h1]
   by_cases h2:0 < (refLoops g.ds F).length
   ·rw[if_pos h2]
    simp only
    omega
   ·rw[if_neg h2]
    exact⟨fun _=>⟨by omega,by omega⟩,fun _=>rfl⟩
section
variable {X:Ctx} {β:Nat→Nat} {F:Fr} {C:Bx} {I:GH} {M:List Blk} {o:Oper} {K:KS}
theorem und_slice {P:Program} {E:Env} (hE:EOK P E) {t e:Nat} {ti:TI} (ht:E t=some ti) (hts:ti.sh=.slice e):P.underlying t=some (.slice e):=by
 obtain⟨dt,htd,hdt⟩:=(hE _ _ ht).und
 have hdt':dt=.slice e:=by
  rw[hts] at hdt
  cases dt<;>simp_all[shOf]
 rw[htd,hdt']
theorem BinOb.nilS {P:Program} {E:Env} (hE:EOK P E) {t e:Nat} {ti:TI} {x y:Operand} (ht:E t=some ti) (hts:ti.sh=.slice e) {a:Option Addr} {n c n' c':Nat} {V:Value→Prop} {other:Prop}
  (h:V (.bool a.isNone)):BinOb P .eql t x y (.val (.slice a n c)) (.val (.slice none n' c')) V other:=by
 have h1:=und_slice hE ht hts
 refine .mk _ _ _ rfl rfl (fun w=>?_) h
 have e1:(eqGuard .eql t x y (.slice a n c) (.slice none n' c')).run P w=.ok () w:=by unfold eqGuard;rfl
 simp only[Sem.run_bind,e1,Result.andThen_ok]
 exact Lib.run_eql_slice_nil w t e a n c n' c' h1
end
end Go.V
