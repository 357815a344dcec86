/-
  Part 6 of what the proofs of this seat share: the executor, data in memory, walks.
-/
import Derived.Test.YtmijfbjkkllhlaaGreatDoorK5
import Derived.Test.YtmijfbjkkllhlaaGreatDoorK2
import Derived.Test.YtmijfbjkkllhlaaGreatDoorK3
import Derived.Test.YtmijfbjkkllhlaaGreatDoorK4
import Derived.Lib.TrailingZeros
set_option linter.all false
namespace Go.V
open Go Go.Proofs
theorem lies_many (k:Nat):liesAt Tryz.prog Tryz.prog.depth 229 ((k+1) * 2 / Tryz.prog.cellsOf 229) 0 229 1=true:=by
 have h2:Tryz.prog.cellsOf 229=2:=by kernel_rfl
 have hd:Tryz.prog.depth=(Tryz.prog.depth - 1)+1:=by kernel_rfl
 have hsl:sameLayout Tryz.prog Tryz.prog.depth 229 229=true:=by kernel_rfl
 have hr:rowAt Tryz.prog (sameLayout Tryz.prog Tryz.prog.depth · 229) Tryz.prog.depth 229 (k+1) 0 1=true:=by
  generalize hf:(sameLayout Tryz.prog Tryz.prog.depth · 229)=f
  have hf':f 229=true:=by rw[←hf];exact hsl
  rw[hd]
  unfold rowAt
  simp only[h2,hf']
  simp
 rw[h2,Nat.mul_div_cancel _ (by decide:0 < 2)]
 rw[hd]
 unfold liesAt
 rw[hr]
 rfl
theorem copyCheckN {I:GH} (pre post:List Blk) (b:Nat) (v:Value) (k:Nat) (rest:List Value) (hr:rest.length=2 * k) :
  Spec Tryz.prog 203 [ptr b] I (pre++⟨b,.cells (.pointer none::v::rest).toArray 229 (0,0)⟩::post) fun r I' M'=>r=.tuple #[]∧I'=I∧M'=pre++⟨b,.cells (splice (.pointer none::v::rest) 0 [ptr b]).toArray 229 (0,0)⟩::post:=by
 obtain⟨inf,z,hi,hi1,_⟩:=(TryzEOK 229 _ rfl).inf
 refine spec_of_V [] TryzEOK Tryz.func203 rfl rfl rfl ?_
 intro B h0
 have hm:∀ {o:Obj},(⟨b,o⟩:Blk)∈pre++⟨b,o⟩::post:=fun {o}=>List.mem_append.2 (.inr (.head _))
 have hsz:(Value.pointer none::v::rest).toArray.size=(k+1) * 2:=by
  simp[hr]
  omega
 have hl:liesAt Tryz.prog Tryz.prog.depth 229 ((Value.pointer none::v::rest).toArray.size / Tryz.prog.cellsOf 229) 0 229 1=true:=by
  rw[hsz]
  exact lies_many k
 refine LoadOb.mk [.pointer none] (blk_rd (cs:=.pointer none::v::rest) (k:=0) (n:=1) (T:=229) hm (by simp)) ?_
 refine .other (OtherOb.eqNil TryzEOK rfl (by simp) rfl rfl rfl rfl ?_)
 refine CondOb.mk (fun _=>?_) (fun h=>by cases h)
 refine OtherOb.conv rfl (by simp) rfl (fun w hw=>Lib.run_to_unsafe (t:=229) (e:=229) w ⟨b,0,none⟩ (by kernel_rfl) (by kernel_rfl) (j:=inf) (cells:=(Value.pointer none::v::rest).toArray.size) hi (by rw[hi1];decide) (shape_of hw hm) (by rw[hsz];show 0 < _;omega)) ?_
 refine CallOb.mk (pre++⟨b,.cells (.pointer none::v::rest).toArray 229 (0,0)⟩::post) [] _ (by simp) (NoEscape_spec _) ?_
 rintro v I' M' - ⟨rfl,rfl,rfl⟩
 refine OtherOb.conv rfl (by simp) rfl (fun w hw=>Lib.run_from_unsafe (u:=229) (e:=229) w ⟨b,0,none⟩ (by kernel_rfl) (by kernel_rfl) (j:=inf) (cells:=(Value.pointer none::v::rest).toArray.size) hi (shape_of hw (List.mem_append.2 (.inl hm))) hl) ?_
 refine StoreOb.mk pre post _ _ (List.append_nil _) rfl (by rw[hsz];show 0+0+1≤(k+1) * 2;omega) rfl ?_
 exact⟨_,_,.refl,rfl,rfl,rfl⟩
theorem copyCheckU {I:GH} {M:List Blk} {b:Nat} {arr:Array Value} {T:Nat} (hM:(⟨b,.cells arr T (0,0)⟩:Blk)∈M) (h0:arr[0]?=some (ptr b)) :
  Spec Tryz.prog 203 [ptr b] I M fun r I' M'=>r=.tuple #[]∧I'=I∧M'=M:=by
 refine spec_of_V [] TryzEOK Tryz.func203 rfl rfl rfl ?_
 intro B h0'
 have hr:Rd I M ((⟨b,0,none⟩:Addr).add 0) 1 [ptr b]:=by
  obtain⟨l⟩:=arr
  cases l with
  | nil=>simp at h0
  | cons x l=>
   simp only[List.getElem?_toArray,List.getElem?_cons_zero,Option.some.injEq] at h0
   subst h0
   exact blk_rd (cs:=ptr b::l) (k:=0) (n:=1) hM (by simp)
 refine LoadOb.mk [ptr b] hr ?_
 refine .other (OtherOb.eqNil TryzEOK rfl (by simp) rfl rfl rfl rfl ?_)
 refine CondOb.mk (fun h=>by cases h) (fun _=>?_)
 refine LoadOb.mk [ptr b] hr ?_
 refine .other (OtherOb.neSame TryzEOK rfl (by simp) rfl rfl rfl rfl rfl ?_)
 refine CondOb.mk (fun h=>by cases h) (fun _=>?_)
 exact⟨_,_,.refl,rfl,rfl,rfl⟩
theorem store_at {Y:RK} {D:Nm} {m:Me} {I:GH} {M:List Blk} {R:Type} {id off:Nat} {cs:Tri EV} {T lim:Nat} {a:Loc} {arr:Array Value} {pre post:List Blk} (hm:MS Y D m I M) (hg:m.t.get id=some (.cells cs T lim)) (ha:D id=some a)
  (ho:a.o=0) (hsp:M=pre++⟨a.b,.cells arr T (0,0)⟩::post) (hsz:a.o+lim≤arr.size) (hc:∀ i v,i < lim→cs.get i=some v→∃ x,arr[a.o+i]?=some x∧VR D v x) (hk:∀ i,Y.E T=some i→arr.size=a.o+a.c * i.size) (hmx:a.c≤maxLen)
  {l:List EV} {vs:List Value} (hl:VRs D l vs) {K:Me→Option R} {r:R} (h:storeE m (.p id off) l K=some r) :
  ∃ m',K m'=some r∧m'.n=m.n∧off+vs.length≤arr.size∧MS Y D m' I (pre++⟨a.b,.cells (splice arr.toList off vs).toArray T (0,0)⟩::post):=by
 unfold storeE at h
 simp only[hg] at h
 cases hb:(Nat.ble (Nat.add off l.length) lim && l.all EV.one) with
 | false=>rw[hb] at h;cases h
 | true=>
  rw[hb] at h
  simp only[cond_true] at h
  rw[Bool.and_eq_true] at hb
  have hlim:off+l.length≤lim:=Nat.le_of_ble_eq_true hb.1
  obtain⟨cs',h1,h2⟩:=Tri.puts_ok l cs off
  rw[h1] at h
  obtain⟨t',h3,h4⟩:=Tri.set_ok (some (Ent.cells cs' T lim)) m.t id
  rw[h3] at h
  have hlen:=hl.len
  have hfit:off+vs.length≤arr.size:=by omega
  refine⟨_,h,rfl,hfit,?_⟩
  have hnew:∀ x∈M,x.num≠a.b→x∈pre++⟨a.b,.cells (splice arr.toList off vs).toArray T (0,0)⟩::post:=fun x hx hn=>by
   rw[hsp] at hx
   rcases List.mem_append.1 hx with hx | hx
   ·exact List.mem_append.2 (.inl hx)
   ·rcases List.mem_cons.1 hx with rfl | hx
    ·exact(hn rfl).elim
    ·exact List.mem_append.2 (.inr (List.mem_cons_of_mem _ hx))
  refine hm.step (fun i e hi=>(h4 i e hi).imp (fun q=>⟨q.1,some_inj' q.2⟩) fun q=>q) ha (Nm.le_refl D) (fun _ _=>rfl) hm.dom (fun _ _ h=>h) (fun i e a' hne hi hai x hx hn=>hnew x hx ?_) ?_ ?_
  ·rw[hn]
   exact fun hb=>hne (hm.inj _ _ _ _ _ _ hi hg hai ha hb)
  ·have hls:(splice arr.toList off vs).length=arr.size:=by rw[splice_len (by simpa using hfit)];simp
   refine .cells (splice arr.toList off vs).toArray ho (by simp) (by simp[hls];exact hsz) (fun i v hi hgi=>?_) (fun i hi=>by simp[hls];exact hk i hi) hmx
   rw[ho,Nat.zero_add]
   simp only[List.getElem?_toArray]
   rw[splice_get (by simpa using hfit)]
   rcases h2 i v hgi with ⟨g1,g2⟩ | ⟨g1,g2⟩
   ·have hlt:=(List.getElem?_eq_some_iff.1 g2).1
    rw[if_pos ⟨g1,by omega⟩]
    exact hl.get g2
   ·rw[if_neg (by omega)]
    have:=hc i v hi g2
    rw[ho,Nat.zero_add] at this
    simpa using this
  ·intro i e a' hne hi hai hb
   exact hne (hm.inj _ _ _ _ _ _ hi hg hai ha hb)
noncomputable def ccE (m:Me) (vs:List EV):Option (EV×Me):=match vs with
 | [.p id 0]=>(match m.t.get id with
  | some (.cells cs T lim)=>cnd (Nat.beq T 229 && Nat.ble 2 lim) (match cs.get 0 with
   | some .pn=>storeE m (.p id 0) [.p id 0] fun m=>some (.t [],m)
   | some (.p id' 0)=>cnd (Nat.beq id id') (some (.t [],m)) none
   | _=>none) none
  | _=>none)
 | _=>none
theorem cc_ok {Y:RK} (hY:Y.P=Tryz.prog) (hYE:Y.E=TryzE) {m m':Me} {vs:List EV} {v:EV} (h:ccE m vs=some (v,m')) {D:Nm} {I:GH} {M:List Blk} {us:List Value} (hu:VRs D vs us) (hm:MS Y D m I M) :
  Spec Y.P 203 us I M fun r I' M'=>∃ D',D.ext D' m.n∧VR D' v r∧MS Y D' m' I' M':=by
 unfold ccE at h
 split at h
 ·rename_i id
  obtain⟨x,xs,hx,hn,rfl⟩:=hu.uncons
  obtain rfl:=hn.unnil
  obtain⟨a,ha,rfl⟩:=hx.ptr
  split at h
  ·rename_i cs T lim hg
   obtain⟨h1,hq⟩:=cnd_some h
   clear h
   rw[Bool.and_eq_true] at h1
   obtain⟨hT,hlim⟩:=h1
   obtain rfl:=Nat.eq_of_beq_eq_true hT
   have hlim:=Nat.le_of_ble_eq_true hlim
   obtain⟨arr,ho,hM,hl,hc,hk,hmx⟩:=hm.ent _ _ _ hg ha
   have hsz:=hk _ (by rw[hYE];rfl)
   have hsz:arr.size=a.c * 2:=by
    rw[hsz,ho,Nat.zero_add]
   have hp:Value.pointer (some ⟨a.b,a.o+0,none⟩)=ptr a.b:=by rw[ho];rfl
   split at hq
   ·rename_i hc0
    obtain⟨x0,hx0,hv0⟩:=hc 0 _ (by omega) hc0
    obtain⟨pre,post,hsp⟩:=List.append_of_mem hM
    obtain⟨m1,h2,h3,h4,h5⟩:=store_at hm hg ha ho hsp hl hc hk hmx (l:=[.p id 0]) (vs:=[ptr a.b]) (by simp only[VRs,VR];exact⟨_,_,⟨a,ha,hp.symm⟩,rfl,rfl⟩) hq
    cases h2
    rw[hp,hY,hsp]
    obtain⟨l⟩:=arr
    have hx0':x0=.pointer none:=by simpa only[VR] using hv0
    rw[ho] at hx0
    match l,hx0,hsz with
    | [],hx0,_=>simp at hx0
    | [_],_,hsz=>simp at hsz;omega
    | y::w::rest,hx0,hsz=>
     have hy:y=.pointer none:=by simpa[hx0'] using hx0
     subst hy
     have hrl:rest.length=2 * (a.c - 1):=by simp at hsz;omega
     refine Spec.weakK (copyCheckN pre post a.b w (a.c - 1) rest hrl) ?_
     rintro r I' M' ⟨rfl,rfl,rfl⟩
     exact⟨D,Nm.ext_refl,by simp only[VR,VRs];exact⟨[],rfl,rfl⟩,h5⟩
   ·rename_i id' hc0
    obtain⟨h2,hq2⟩:=cnd_some hq
    obtain rfl:=Nat.eq_of_beq_eq_true h2
    cases hq2
    obtain⟨x0,hx0,hv0⟩:=hc 0 _ (by omega) hc0
    obtain⟨a',ha',rfl⟩:=hv0.ptr
    rw[ha] at ha'
    cases ha'
    rw[hp] at hx0 ⊢
    rw[hY]
    refine Spec.weakK (copyCheckU hM (by rw[←hx0,ho])) ?_
    rintro r I' M' ⟨rfl,rfl,rfl⟩
    exact⟨D,Nm.ext_refl,by simp only[VR,VRs];exact⟨[],rfl,rfl⟩,hm⟩
   ·cases hq
  ·cases h
 ·cases h
def frz (I:GH):List Blk→GH
 | []=>I
 | x::l=>ins (frz I l) x.num x.obj
theorem frz_inv {I:GH}:∀ {M:List Blk} {b:Nat} {o:Obj},frz I M b=some o→I b=some o∨∃ x∈M,x.num=b∧x.obj=o
 | [],b,o,h=>.inl h
 | x::l,b,o,h=>by
  unfold frz ins at h
  by_cases e:b=x.num
  ·subst e
   simp only[beq_self',cond_true,Option.some.injEq] at h
   exact .inr ⟨x,by simp,rfl,h⟩
  ·simp only[beq_ne e,cond_false] at h
   rcases frz_inv h with h | ⟨y,h1,h2,h3⟩
   ·exact .inl h
   ·exact .inr ⟨y,by simp[h1],h2,h3⟩
theorem frz_mem {I:GH}:∀ {M:List Blk} (hn:(M.map (·.num)).Nodup) {x:Blk},x∈M→frz I M x.num=some x.obj
 | y::l,hn,x,h=>by
  simp only[List.map_cons,List.nodup_cons] at hn
  rcases List.mem_cons.1 h with rfl | h
  ·unfold frz ins
   simp only[beq_self',cond_true]
  ·have e:x.num≠y.num:=fun e=>hn.1 (List.mem_map.2 ⟨x,h,e⟩)
   unfold frz ins
   simp only[beq_ne e,cond_false]
   exact frz_mem hn.2 h
theorem frz_le {I:GH}:∀ {M:List Blk} (hd:∀ x∈M,I x.num=none) {b:Nat} {o:Obj},I b=some o→frz I M b=some o
 | [],hd,b,o,h=>h
 | y::l,hd,b,o,h=>by
  have e:b≠y.num:=fun e=>by
   have:=hd y (by simp)
   rw[←e,h] at this
   cases this
  unfold frz ins
  simp only[beq_ne e,cond_false]
  exact frz_le (fun x hx=>hd x (by simp[hx])) h
theorem kn_frz {I:GH} {M:List Blk} (hn:(M.map (·.num)).Nodup) (hd:∀ x∈M,I x.num=none) {b:Nat} {o:Obj} (h:Kn I M b o):frz I M b=some o:=by
 rcases h with h | ⟨x,h1,rfl,rfl⟩
 ·exact frz_le hd h
 ·exact frz_mem hn h1
structure Frz (I:GH) (M:List Blk) (J:GH):Prop where
 kn:∀ b o,Kn I M b o→J b=some o
 inv:∀ b o,J b=some o→Kn I M b o
theorem Frz.rd {I J:GH} {M:List Blk} (h:Frz I M J) {a:Addr} {n:Nat} {vs:List Value} (hr:Rd I M a n vs) (M':List Blk):Rd J M' a n vs:=by
 obtain⟨h1,cs,T,f,h2,h3,h4⟩:=hr
 exact⟨h1,cs,T,f,.inl (h.kn _ _ h2),h3,h4⟩
theorem Frz.le {I J:GH} {M:List Blk} (h:Frz I M J):∀ b o,I b=some o→J b=some o:=fun b o hb=>h.kn b o (.inl hb)
theorem frz_end {I I':GH} {M':List Blk} {w w':World} (h1:Holds I' M' w') (h2:Kept I [] w I' M' w'):Frz I' M' (frz I' M')∧Holds (frz I' M') [] w'∧Kept I [] w (frz I' M') [] w':=by
 refine⟨⟨fun b o h=>kn_frz h1.nd h1.d h,fun b o h=>?_⟩,⟨fun b o h=>?_,by simp,by simp,by simp⟩,⟨fun b o h=>frz_le h1.d (h2.le _ _ h),fun b o h=>?_,by simp,h2.old,h2.out,h2.sz⟩⟩
 ·rcases frz_inv h with h | ⟨x,g1,g2,g3⟩
  ·exact .inl h
  ·exact .inr ⟨x,g1,g2,g3⟩
 ·rcases frz_inv h with h | ⟨x,g1,rfl,rfl⟩
  ·exact h1.i _ _ h
  ·exact h1.m _ g1
 ·rcases frz_inv h with h | ⟨x,g1,rfl,rfl⟩
  ·exact h2.newI _ _ h
  ·rcases h2.newM _ g1 with ⟨y,hy,_⟩ | h
   ·cases hy
   ·exact .inr h
theorem Spec.frz {P:Program} {f:Nat} {args:List Value} {I:GH} {Q:Value→GH→List Blk→Prop} (h:Spec P f args I [] Q):Spec P f args I [] fun r J M''=>M''=[]∧(∀ b o,I b=some o→J b=some o)∧∃ I' M',Q r I' M'∧Frz I' M' J:=by
 rcases h with ⟨h1,h2⟩ | h
 ·refine .inl ⟨h1,fun w hw=>?_⟩
  refine(h2 w hw).mono ?_
  rintro e w' ⟨v,I',M',e1,e2,e3,e4⟩
  obtain⟨g1,g2,g3⟩:=frz_end e3 e4
  exact⟨v,_,[],e1,⟨rfl,g3.le,I',M',e2,g1⟩,g2,g3⟩
 ·refine .inr fun w hw=>?_
  obtain⟨v,w',I',M',e1,e2,e3,e4⟩:=h w hw
  obtain⟨g1,g2,g3⟩:=frz_end e3 e4
  exact⟨v,w',_,[],e1,⟨rfl,g3.le,I',M',e2,g1⟩,g2,g3⟩
noncomputable def triL {α:Type} (l:List α):Tri α:=Tri.putsK l .nil 0 id
theorem triL_get {α:Type} {l:List α} {i:Nat} {v:α} (h:(triL l).get i=some v):l[i]?=some v:=by
 obtain⟨t,h1,h2⟩:=Tri.puts_ok l (.nil:Tri α) 0
 unfold triL at h
 rw[h1] at h
 rcases h2 _ _ h with ⟨_,h⟩ | ⟨_,h⟩
 ·simpa using h
 ·cases h
noncomputable def GTs:GT:=fun g=>cnd (Nat.beq g 0) (some (triL (countsL.map (EV.i .i64))))
 (cnd (Nat.beq g 1) (some (triL (signsL.map EV.s)))
 (cnd (Nat.beq g 2) (some (triL [.i .i64 0,.i .i64 1,.s [63],.i .i64 0,.i .i64 (-1),.s [42],.i .i64 1,.i .i64 (-1),.s [43]]))
 (cnd (Nat.beq g 4) (some (triL (debL.map (EV.i .u8)))) none)))
theorem gi_map {α:Type} {f:α→EV} {h:α→Value} (hf:∀ x D,VR D (f x) (h x)) {l:List α} {i:Nat} {v:EV} (hv:(triL (l.map f)).get i=some v):∃ x,(l.map h).toArray[i]?=some x∧∀ D,VR D v x:=by
 have:=triL_get hv
 rw[List.getElem?_map] at this
 cases hx:l[i]? with
 | none=>rw[hx] at this;cases this
 | some x=>
  rw[hx] at this
  simp only[Option.map_some,Option.some.injEq] at this
  subst this
  exact⟨h x,by simp[hx],hf x⟩
theorem gi_tabs {I:GH} (hT:Tabs I debL):GI GTs I:=by
 intro g cs h
 unfold GTs at h
 rw[cnd_eq,cnd_eq,cnd_eq,cnd_eq] at h
 cases h1:Nat.beq g 0 with
 | true=>
  rw[h1,cond_true] at h
  obtain rfl:=Nat.eq_of_beq_eq_true h1
  have h:=Option.some.inj h
  subst h
  obtain⟨T,f,h⟩:=hT.c
  exact⟨_,T,f,h,fun i v hv=>gi_map (f:=EV.i .i64) (h:=Value.int .i64) (fun x D=>by simp only[VR]) hv⟩
 | false=>
 rw[h1,cond_false] at h
 cases h2:Nat.beq g 1 with
 | true=>
  rw[h2,cond_true] at h
  obtain rfl:=Nat.eq_of_beq_eq_true h2
  have h:=Option.some.inj h
  subst h
  obtain⟨T,f,h⟩:=hT.s
  exact⟨_,T,f,h,fun i v hv=>gi_map (f:=EV.s) (h:=fun l=>Value.string (strOf l)) (fun x D=>by simp only[VR,strOf]) hv⟩
 | false=>
 rw[h2,cond_false] at h
 cases h3:Nat.beq g 2 with
 | true=>
  rw[h3,cond_true] at h
  obtain rfl:=Nat.eq_of_beq_eq_true h3
  have h:=Option.some.inj h
  subst h
  obtain⟨T,f,h⟩:=hT.p
  refine⟨_,T,f,h,fun i v hv=>?_⟩
  have hv:=triL_get hv
  rcases i with _ | _ | _ | _ | _ | _ | _ | _ | _ | i
  all_goals first | (cases hv;exact⟨_,rfl,fun D=>by simp only[VR]<;>rfl⟩) | (simp at hv)
 | false=>
 rw[h3,cond_false] at h
 cases h4:Nat.beq g 4 with
 | true=>
  rw[h4,cond_true] at h
  obtain rfl:=Nat.eq_of_beq_eq_true h4
  have h:=Option.some.inj h
  subst h
  obtain⟨_,_,T,f,h⟩:=hT.d
  exact⟨_,T,f,h,fun i v hv=>gi_map (f:=EV.i .u8) (h:=Value.int .u8) (fun x D=>by simp only[VR]) hv⟩
 | false=>
 rw[h4,cond_false] at h
 cases h
noncomputable def idxN:List UInt8→Nat→Nat→Int
 | [],_,_=>-1
 | b::l,c,k=>cnd (Nat.beq b.toNat c) (Int.ofNat k) (idxN l c (Nat.succ k))
theorem idxN_eq (c:UInt8):∀ (l:List UInt8) (k:Nat),idxN l c.toNat k=if Lib.indexByte l c=-1 then -1 else Lib.indexByte l c+k
 | [],k=>rfl
 | b::l,k=>by
  have hge:=Lib.indexByte_ge l c
  unfold idxN Lib.indexByte
  rw[cnd_eq]
  by_cases h:b=c
  ·subst h
   simp
  ·have h1:Nat.beq b.toNat c.toNat=false:=by
    cases hb:Nat.beq b.toNat c.toNat with
    | false=>rfl
    | true=>exact absurd (UInt8.toNat_inj.1 (Nat.eq_of_beq_eq_true hb)) h
   have h2:(b == c)=false:=by simpa using h
   rw[h1,cond_false,h2,idxN_eq c l]
   simp only[Bool.false_eq_true,if_false]
   by_cases h3:Lib.indexByte l c=-1
   ·simp[h3]
   ·have h4:(Lib.indexByte l c == -1)=false:=by simpa using h3
    rw[h4,if_neg h3]
    simp only[Bool.false_eq_true,if_false]
    rw[if_neg (by omega)]
    omega
theorem yk_funs:FunsOK Tryz.prog:=funsOK_of (by kernel_rfl)
theorem yk_orders:Tryz.prog.follows .mixedOrders=true:=by kernel_rfl
noncomputable def YZ:RK:=⟨Tryz.prog,TryzE,fun _=>none,fun _ _ _=>none⟩
noncomputable def rdM:List SE:=[.map [(.i .u8 123,.f 217 [] []),(.i .u8 34,.f 218 [] []),(.i .u8 91,.f 219 [] []),(.i .u8 46,.f 220 [] []),(.i .u8 47,.f 236 [] [.p 1 0]),(.i .u8 38,.f 236 [] [.p 2 0]),(.i .u8 33,.f 236 [] [.p 3 0]),(.i .u8 63,.f 236 [] [.p 4 0]),(.i .u8 42,.f 236 [] [.p 5 0]),(.i .u8 43,.f 236 [] [.p 6 0]),(.i .u8 40,.f 236 [] [.p 7 0]),(.i .u8 41,.f 236 [] [.p 8 0]),(.i .u8 60,.f 222 [] []),(.i .u8 62,.f 236 [] [.p 10 0]),(.i .u8 58,.f 236 [] [.p 11 0]),(.i .u8 65,.f 223 [] []),(.i .u8 66,.f 223 [] []),(.i .u8 67,.f 223 [] []),(.i .u8 68,.f 223 [] []),(.i .u8 69,.f 223 [] []),(.i .u8 70,.f 223 [] []),(.i .u8 71,.f 223 [] []),(.i .u8 72,.f 223 [] []),(.i .u8 73,.f 223 [] []),(.i .u8 74,.f 223 [] []),(.i .u8 75,.f 223 [] []),(.i .u8 76,.f 223 [] []),(.i .u8 77,.f 223 [] []),(.i .u8 78,.f 223 [] []),(.i .u8 79,.f 223 [] []),(.i .u8 80,.f 223 [] []),(.i .u8 81,.f 223 [] []),(.i .u8 82,.f 223 [] []),(.i .u8 83,.f 223 [] []),(.i .u8 84,.f 223 [] []),(.i .u8 85,.f 223 [] []),(.i .u8 86,.f 223 [] []),(.i .u8 87,.f 223 [] []),(.i .u8 88,.f 223 [] []),(.i .u8 89,.f 223 [] []),(.i .u8 90,.f 223 [] []),(.i .u8 95,.f 223 [] []),(.i .u8 97,.f 223 [] []),(.i .u8 98,.f 223 [] []),(.i .u8 99,.f 223 [] []),(.i .u8 100,.f 223 [] []),(.i .u8 101,.f 223 [] []),(.i .u8 102,.f 223 [] []),(.i .u8 103,.f 223 [] []),(.i .u8 104,.f 223 [] []),(.i .u8 105,.f 223 [] []),(.i .u8 106,.f 223 [] []),(.i .u8 107,.f 223 [] []),(.i .u8 108,.f 223 [] []),(.i .u8 109,.f 223 [] []),(.i .u8 110,.f 223 [] []),(.i .u8 111,.f 223 [] []),(.i .u8 112,.f 223 [] []),(.i .u8 113,.f 223 [] []),(.i .u8 114,.f 223 [] []),(.i .u8 115,.f 223 [] []),(.i .u8 116,.f 223 [] []),(.i .u8 117,.f 223 [] []),(.i .u8 118,.f 223 [] []),(.i .u8 119,.f 223 [] []),(.i .u8 120,.f 223 [] []),(.i .u8 121,.f 223 [] []),(.i .u8 122,.f 223 [] [])],
 .cells [.i .u8 3] 5,
 .cells [.i .u8 4] 5,
 .cells [.i .u8 5] 5,
 .cells [.i .u8 6] 5,
 .cells [.i .u8 7] 5,
 .cells [.i .u8 8] 5,
 .cells [.i .u8 9] 5,
 .cells [.i .u8 10] 5,
 .cells [.i .u8 11] 5,
 .cells [.i .u8 12] 5,
 .cells [.i .u8 13] 5]
theorem rd_run:(opn (callF YZ (E_code YZ 100000) 205 [] ⟨.nil,0⟩) none fun p=>opn (readAll p.2.t 0 p.2.n) none fun L=>some (p.1,L))=some (EV.m 0,rdM):=by kernel_rfl
noncomputable def prL:PR:=fun g vs m=>cnd (Nat.beq g 253) (match vs with
 | [.s l,.i .u8 (.ofNat k)]=>cnd (Nat.blt k 256) (some (.i .i64 (idxN l k 0),m)) none
 | _=>none) (cnd (Nat.beq g 216) (match vs with
 | [v]=>some (v,m)
 | _=>none) (cnd (Nat.beq g 205) (match vs with
 | []=>memo (.m 0) rdM m
 | _=>none) (cnd (Nat.beq g 203) (ccE m vs) none)))
noncomputable def YK:RK:=⟨Tryz.prog,TryzE,GTs,prL⟩
theorem prim_ok:PrimOK YK:=by
 intro g vs m v m' h D I M us hu hm
 change prL g vs m=some (v,m') at h
 unfold prL at h
 rw[cnd_eq] at h
 cases h1:Nat.beq g 253 with
 | true=>
  rw[h1,cond_true] at h
  obtain rfl:=Nat.eq_of_beq_eq_true h1
  split at h
  ·rename_i l k
   rw[cnd_eq] at h
   cases hk:Nat.blt k 256 with
   | false=>rw[hk] at h;cases h
   | true=>
    rw[hk,cond_true] at h
    have hk':k < 256:=Nat.blt_eq ▸ hk
    cases h
    simp only[VRs,VR] at hu
    obtain⟨x,xs,rfl,⟨y,ys,rfl,rfl,rfl⟩,rfl⟩:=hu
    have hkc:(UInt8.ofNat k).toNat=k:=by simp;omega
    have:=IndexByteString_spec (I:=I) (M:=M) ⟨l.toArray⟩ (UInt8.ofNat k)
    rw[hkc] at this
    refine Spec.weakK this ?_
    rintro r I' M' ⟨rfl,rfl,rfl⟩
    refine⟨D,Nm.ext_refl,?_,hm⟩
    simp only[VR]
    have:=idxN_eq (UInt8.ofNat k) l 0
    rw[hkc] at this
    rw[this]
    split
    ·rename_i e
     simp[e]
    ·simp
  ·cases h
 | false=>
 rw[h1,cond_false,cnd_eq] at h
 cases h2:Nat.beq g 216 with
 | true=>
  rw[h2,cond_true] at h
  obtain rfl:=Nat.eq_of_beq_eq_true h2
  split at h
  ·cases h
   simp only[VRs] at hu
   obtain⟨x,xs,hu,rfl,rfl⟩:=hu
   refine Spec.weakK (NoEscape_spec _) ?_
   rintro r I' M' ⟨rfl,rfl,rfl⟩
   exact⟨D,Nm.ext_refl,hu,hm⟩
  ·cases h
 | false=>
 rw[h2,cond_false,cnd_eq] at h
 cases h3:Nat.beq g 205 with
 | true=>
  rw[h3,cond_true] at h
  obtain rfl:=Nat.eq_of_beq_eq_true h3
  split at h
  ·obtain⟨⟨v0,m0⟩,h4,h5⟩:=opn_eq rd_run
   obtain⟨L,h6,h7⟩:=opn_eq h5
   cases h7
   exact memo_ok (Y:=YK) TryzEOK yk_funs yk_orders h4 h6 (fun D us h=>by simpa only[VRs] using h) h hu hm
  ·cases h
 | false=>
 rw[h3,cond_false,cnd_eq] at h
 cases h4:Nat.beq g 203 with
 | true=>
  rw[h4,cond_true] at h
  obtain rfl:=Nat.eq_of_beq_eq_true h4
  exact cc_ok rfl rfl h hu hm
 | false=>
 rw[h4,cond_false] at h
 cases h
theorem reckonX {I:GH} (hT:Tabs I debL) {f g:Nat} {args:List EV} {m':Me} {v:EV} (h:callF YK (E_code YK f) g args ⟨.nil,0⟩=some (v,m')) {us:List Value} (hu:VRs (fun _=>none) args us) :
  Spec Tryz.prog g us I [] fun r J M''=>M''=[]∧(∀ b o,I b=some o→J b=some o)∧∃ I' M' D',VR D' v r∧MS YK D' m' I' M'∧Frz I' M' J:=by
 have hm:MS YK (fun _=>none) ⟨.nil,0⟩ I []:=⟨fun id e a h h'=>(by cases h'),fun id id' e e' a a' h h1 h'=>(by cases h'),fun id a h=>(by cases h),gi_tabs hT⟩
 refine Spec.weakK (reckon (Y:=YK) TryzEOK yk_funs prim_ok yk_orders h hu hm).frz ?_
 rintro r J M'' ⟨rfl,h1,I',M',⟨D',-,h2,h3⟩,h4⟩
 exact⟨rfl,h1,I',M',D',h2,h3,h4⟩
theorem headD_get:∀ {l:List Int} (h:0 < l.length),l.headD 0=l[0]
 | a::l,_=>rfl
def endlessN (ns:List Nd) (xs:List Fl):Bool:=ns.any fun d=>decide (d.k=6) && (decide (d.hi=-1) && (xs.getD (d.kids.headD 0).toNat fl0).z)
theorem any_snoc {α:Type} (p:α→Bool) (l:List α) (x:α):(l++[x]).any p=(l.any p || p x):=by simp
theorem any_pre {α:Type} {p:α→Bool} {l:List α} {i:Nat} (h:(l.take i).any p=true):l.any p=true:=by
 rw[List.any_eq_true] at h ⊢
 obtain⟨x,hx,hp⟩:=h
 exact⟨x,List.mem_of_mem_take hx,hp⟩
set_option maxHeartbeats 4000000 in
theorem endless_spec {I:GH} {M0:List Blk} {t:Tr} (ht:t.ok I) (hr:right t=true) {xa:Option Addr} {xc:Nat} {xs:List Fl} (hx:FsAt I M0 xa t.n xs):Spec Tryz.prog 110 [t.val,.slice xa t.n xc] I M0 fun v I' M'=>v=.bool (endlessN t.ns xs)∧I'=I∧M'=M0:=by
 refine spec_of_V [] TryzEOK Tryz.func110 rfl rfl rfl ?_
 intro B h0
 have htn:=ht.n
 have hcap:=ht.rs.cap
 have hxn:=hx.n
 refine LoopOb.inv (ι:=Nat) (fun i=>{ fl:=[(1,.val (.slice xa t.n xc)),(8,.val (.slice t.a t.n t.c)),(9,.val (.int .i64 t.n)),(10,.val (.int .i64 i))],gi:=I,mi:=M0 }) (fun i=>i≤t.n∧(t.ns.take i).any (fun d=>decide (d.k=6) && (decide (d.hi=-1) && (xs.getD (d.kids.headD 0).toNat fl0).z))=false) (fun i=>t.n - i) ?_ ?_
 ·exact⟨0,⟨Nat.zero_le _,rfl⟩,.refl,aF4,.nil⟩
 rintro i ⟨hi,hno⟩
 refine CondOb.mk (fun h=>?_) (fun h=>?_)
 rotate_left
 ·have hge:i=t.n:=by have:¬ (i:Int) < (t.n:Int):=of_decide_eq_false h;omega
  rw[List.take_of_length_le (by omega)] at hno
  refine⟨_,_,.refl,?_,rfl,rfl⟩
  rw[endlessN,hno]
 have hlt:i < t.n:=by have:(i:Int) < (t.n:Int):=of_decide_eq_true h;omega
 have hlt':i < t.ns.length:=by omega
 obtain⟨ad,had,hrd⟩:=ht.rs.row Nd.cells_len hlt hlt'
 have hd:=ht.ns _ (List.getElem_mem hlt')
 have hft:=right_fits hr hlt'
 have hkv:=right_kids hr i hlt'
 have hkn:=hd.kn
 have hsn:(t.ns.take (i+1)).any (fun d=>decide (d.k=6) && (decide (d.hi=-1) && (xs.getD (d.kids.headD 0).toNat fl0).z))=(decide (t.ns[i].k=6) && (decide (t.ns[i].hi=-1) && (xs.getD (t.ns[i].kids.headD 0).toNat fl0).z)):=by
  rw[List.take_succ_eq_append_getElem hlt',any_snoc,hno,Bool.false_or]
 generalize t.ns[i]=d at hrd hd hft hkv hkn hsn
 refine IdxOb.mk ad i had rfl hlt ?_
 refine LoadOb.mk _ (hrd _) ?_
 refine GuardOb.mk (fun h6=>?_) (fun h6=>?_)
 rotate_left
 ·have h6':decide (d.k=6)=false:=h6
  rw[h6'] at hsn
  refine ArithOb.mk _ (next_wr (i:=i) (by omega)) ?_
  exact⟨i+1,⟨⟨hlt,hsn⟩,by omega⟩,.refl,aF4,.nil⟩
 have h6':decide (d.k=6)=true:=h6
 have h6e:d.k=6:=of_decide_eq_true h6'
 rw[h6',Bool.true_and] at hsn
 refine GuardOb.mk (fun h1=>?_) (fun h1=>?_)
 rotate_left
 ·have h1':decide (d.hi=-1)=false:=h1
  rw[h1'] at hsn
  refine ArithOb.mk _ (next_wr (i:=i) (by omega)) ?_
  exact⟨i+1,⟨⟨hlt,hsn⟩,by omega⟩,.refl,aF4,.nil⟩
 have h1':decide (d.hi=-1)=true:=h1
 rw[h1',Bool.true_and] at hsn
 have hk0:0 < d.kids.length:=by have:=fits_kid hd.k.1 hft (by omega);omega
 obtain⟨ak,hak,hrk⟩:=hd.rs.one (j:=0) (by omega) hk0
 have hv:=hkv _ (List.getElem_mem hk0)
 have hh:d.kids.headD 0=d.kids[0]:=headD_get hk0
 rw[hh] at hsn
 have hql:d.kids[0].toNat < xs.length:=by omega
 obtain⟨ax,hax,hrx⟩:=hx.rd _ hql
 have hg:xs.getD d.kids[0].toNat fl0=xs[d.kids[0].toNat]:=by simp[List.getD_eq_getElem?_getD,hql]
 rw[hg] at hsn
 refine IdxOb.mk ak 0 hak rfl (by omega) ?_
 refine LoadOb.mk _ (hrk _) ?_
 refine IdxOb.mk ax d.kids[0].toNat hax (by omega) (by omega) ?_
 refine LoadOb.mk _ (hrx.part (k:=0) (m:=1) (by decide)) ?_
 refine CondOb.mk (fun hz=>?_) (fun hz=>?_)
 ·have hz':xs[d.kids[0].toNat].z=true:=hz
  refine⟨_,_,.refl,?_,rfl,rfl⟩
  rw[endlessN,any_pre (i:=i+1) (by rw[hsn,hz'])]
 ·have hz':xs[d.kids[0].toNat].z=false:=hz
  rw[hz'] at hsn
  refine ArithOb.mk _ (next_wr (i:=i) (by omega)) ?_
  exact⟨i+1,⟨⟨hlt,hsn⟩,by omega⟩,.refl,aF4,.nil⟩
def Sy.mark (s:Sy) (i k:Nat):Sy:=⟨s.n,s.m.set i (s.m.getD i 0 ||| bitW k),s.w⟩
def sBlk (b:Nat) (s:Sy):Blk:=⟨b,.cells s.cells.toArray 111 (0,0)⟩
theorem Sy.cells_len (s:Sy):s.cells.length=66:=by simp[Sy.cells,rowC_len]
theorem sBlk_m {I:GH} {M:List Blk} {b:Nat} {s:Sy} (hM:sBlk b s∈M) {j:Nat} (hj:j < 64):Rd I M (((⟨b,0,none⟩:Addr).add 1).add (j * 1)) 1 [wordV (s.m.getD j 0)]:=by
 rw[addr_add (⟨b,0,none⟩:Addr) rfl,addr_add _ rfl]
 refine⟨rfl,_,_,_,.inr ⟨_,hM,rfl,rfl⟩,?_,rfl⟩
 simp only[Nat.zero_add,Nat.mul_one]
 show (s.cells.drop (1+j)).take 1=_
 rw[Sy.cells,Nat.add_comm 1 j,List.drop_succ_cons,List.drop_append_of_le_length (by rw[rowC_len];omega),List.drop_eq_getElem_cons (by rw[rowC_len];exact hj),List.cons_append,List.take_succ_cons,List.take_zero]
 simp[rowC]
theorem sBlk_set {s:Sy} (hs:s.m.length=64) {i k:Nat} (hi:i < 64):splice s.cells (0+1+i * 1) [wordV (s.m.getD i 0 ||| bitW k)]=(s.mark i k).cells:=by
 unfold Sy.cells Sy.mark
 simp only
 have e1:splice (Value.int .i64 s.n::(rowC s.m++[wordV s.w])) (0+1+i * 1) [wordV (s.m.getD i 0 ||| bitW k)]=Value.int .i64 s.n::(splice (rowC s.m) (0+i * 1) [wordV (s.m.getD i 0 ||| bitW k)]++[wordV s.w]):=by
  have h:=splice_mid' [Value.int .i64 s.n] (rowC s.m) [wordV s.w] i [wordV (s.m.getD i 0 ||| bitW k)] (by rw[rowC_len];show i+1≤64;omega)
  simp only[List.length_singleton,List.singleton_append,List.length_cons,List.length_nil,Nat.zero_add,Nat.mul_one] at h ⊢
  exact h
 rw[e1,mRow_set s.m hs i hi]
theorem StoreOb.addTwo {M:List Blk} {b x y:Nat} {vs:List Value} {K:List Blk→Prop} (pre post:List Blk) (cs:List Value) (T:Nat) (hM:M=pre++⟨b,.cells cs.toArray T (0,0)⟩::post) (hb:0+x+y+vs.length≤cs.length) (h1:allOne vs=true)
  (cs':List Value) (he:splice cs (0+x+y) vs=cs') (h:K (pre++⟨b,.cells cs'.toArray T (0,0)⟩::post)):StoreOb M (((⟨b,0,none⟩:Addr).add x).add y) vs K:=by
 rw[addr_add (⟨b,0,none⟩:Addr) rfl,addr_add _ rfl]
 exact StoreOb.to pre post cs.toArray T hM rfl (by rw[Nat.ble_eq];simpa using hb) h1 cs' he h
theorem learn1_spec {I:GH} {M1:List Blk} {g:Gr} (hg:g.ok I) {nm:ByteArray} {k:Nat} (hk:findAt nm g.ds 0=k) (hk64:k < 64) {b1 b6 b7 i:Nat} (hi:i < 64) {s:Sy} (hs:s.m.length=64)
  (h1:(⟨b1,.cells #[.slice g.a g.n g.c] 24 (0,0)⟩:Blk)∈M1) (h7:(⟨b7,.cells #[.int .i64 i] 3 (0,0)⟩:Blk)∈M1) :
  Spec Tryz.prog 109 [.string nm,ptr b1,ptr b6,ptr b7] I (sBlk b6 s::M1) fun v I' M'=>I'=I∧M'=sBlk b6 (s.mark i k)::M1:=by
 refine spec_of_V [] TryzEOK Tryz.func109 rfl rfl rfl ?_
 intro B h0
 refine LoadOb.mk [.slice g.a g.n g.c] ⟨rfl,_,_,_,.inr ⟨_,.tail _ h1,rfl,rfl⟩,rfl,rfl⟩ ?_
 have hf:Spec Tryz.prog 48 [g.val,.string nm] I (sBlk b6 s::M1) fun v I' M'=>v=.int .i64 k∧I'=I∧M'=sBlk b6 s::M1:=by
  refine Spec.weakK (Spec.frame (Find_spec hg nm)) ?_
  rintro v J M ⟨M',rfl,-,-,rfl,rfl,rfl⟩
  rw[hk]
  exact⟨rfl,rfl,rfl⟩
 refine CallOb.whole _ hf ?_
 rintro v J N - ⟨rfl,hJ,hN⟩
 subst J
 subst N
 refine CondOb.mk (fun _=>?_) (fun h=>?_)
 rotate_left
 ·have:¬ (0:Int)≤(k:Int):=of_decide_eq_false h
  omega
 refine CodeOb.draw TryzEOK rfl rfl rfl ?_
 refine LoadOb.mk [.int .i64 i] ⟨rfl,_,_,_,.inr ⟨_,.tail _ h7,rfl,rfl⟩,rfl,rfl⟩ ?_
 refine ArrOb.mk i rfl hi ?_
 refine LoadOb.mk _ (sBlk_m (.head _) hi) ?_
 refine ShOb.mk k rfl ?_
 refine ArithOb.mk _ (shl_wr hk64) ?_
 refine ArrOb.mk i rfl hi ?_
 refine StoreOb.addTwo [] M1 s.cells _ rfl ?_ rfl (s.mark i k).cells ?_ ?_
 ·rw[Sy.cells_len]
  show 0+1+i * 1+1≤66
  omega
 ·show splice s.cells (0+1+i * 1) [Value.int .u64 (worV (s.m.getD i 0).toNat (bitW k).toNat)]=_
  rw[worV_bv]
  exact sBlk_set hs hi
 exact⟨_,_,.refl,rfl,rfl⟩
theorem Ws.ints (w:Ws):∀ x∈[(w.a.toNat:Int),(w.b.toNat:Int),(w.c.toNat:Int),(w.d.toNat:Int)],u64ok x:=by
 have h1:=w.a.isLt
 have h2:=w.b.isLt
 have h3:=w.c.isLt
 have h4:=w.d.isLt
 intro x hx
 simp only[List.mem_cons,List.not_mem_nil,or_false] at hx
 unfold u64ok
 rcases hx with rfl | rfl | rfl | rfl<;>omega
section
variable {I:GH} {M:List Blk} {d:Nd} {a:Option Addr} {n c:Nat} {ks:List Fl}
end
def runR (p:UInt8×UInt8):List UInt8:=putB p.1 clsL++((bif decide ((p.1.toNat:Int)+1 < p.2.toNat) then [45] else [])++(bif decide ((p.1.toNat:Int) < p.2.toNat) then putB p.2 clsL else []))
def isAll (rs:List (UInt8×UInt8)):Bool:=match rs with
 | [p]=>((p.1.toNat:Int) == 0) && ((p.2.toNat:Int) == 255)
 | _=>false
def classR (rs:List (UInt8×UInt8)):List UInt8:=bif isAll rs then [46] else [91]++rs.flatMap runR++[93]
structure FitsMore (d:Nd) (n:Int):Prop where
 z:d.k=0→d.t=⟨#[]⟩
 leaf:d.k≤3→n=0
 one:6≤d.k→n=1
 two:d.k=4∨d.k=5→2≤n
set_option maxHeartbeats 1000000 in
theorem fits_more {d:Nd} {n:Int} (h0:0≤d.k) (h:fits d n=true):FitsMore d n:=by
 have hs:=(fits_says h).k
 have hk:d.k=0∨d.k=1∨d.k=2∨d.k=3∨d.k=4∨d.k=5∨d.k=6∨d.k=7∨d.k=8∨d.k=9:=by omega
 have hcl:∀ j:Fin 10,cntLo j.val=countsL.getD (j.val * 2) 0∧cntHi j.val=countsL.getD (j.val * 2+1) 0:=by decide
 unfold fits at h
 rcases hk with e | e | e | e | e | e | e | e | e | e<;>rw[e] at h<;>simp[cntLo,cntHi,countsL] at h <;>
  refine⟨fun q=>?_,fun q=>?_,fun q=>?_,fun q=>?_⟩<;>first | (omega;done) | (exact h.2.2.1;done) | (exact h.2.1;done) | (simp_all;done)
def ClsOk (deb:List Int):Prop:=∀ a b c d:Int,(∀ x∈[a,b,c,d],u64ok x)→classR (runsR (hasR [a,b,c,d]) 256)=classB deb a b c d
theorem firstAt_find (nm:ByteArray):∀ (ds:List Df) (i:Nat),firstAt nm ds i=bif decide (findAt nm ds i < 0) then none else some (findAt nm ds i)
 | [],i=>rfl
 | d::ds,i=>by
  unfold firstAt findAt
  rw[show decide (nm=d.name)=decide (d.name=nm) by rw[Bool.eq_iff_iff];simp[eq_comm]]
  cases decide (d.name=nm) with
  | true=>
   rw[cond_true,cond_true,decide_eq_false (by omega)]
   rfl
  | false=>
   rw[cond_false,cond_false]
   exact firstAt_find nm ds (i+1)
theorem look_find (nm:ByteArray) (ds:List Df):lookM nm (placesL ds)=bif decide (findAt nm ds 0 < 0) then none else some (findAt nm ds 0):=by
 rw[places_first,firstAt_find]
theorem findAt_of {nm:ByteArray} {ds:List Df} (h:(lookM nm (placesL ds)).isSome=true):∃ q:Nat,findAt nm ds 0=q∧q < ds.length∧((lookM nm (placesL ds)).getD 0).toNat=q:=by
 have hlk:=look_find nm ds
 cases hd:decide (findAt nm ds 0 < 0) with
 | true=>
  rw[hd,cond_true] at hlk
  rw[hlk] at h
  cases h
 | false=>
  rw[hd,cond_false] at hlk
  have h4:¬ findAt nm ds 0 < 0:=of_decide_eq_false hd
  obtain⟨q,hq⟩:=Int.eq_ofNat_of_zero_le (by omega:0≤findAt nm ds 0)
  have hlk':=hlk
  rw[places_first] at hlk'
  obtain⟨j,hj1,hj2⟩:=firstAt_lt hlk'
  refine⟨q,hq,by omega,?_⟩
  rw[hlk,hq]
  rfl
def Sy.marks (s:Sy) (i:Nat) (l:List Nat):Sy:=l.foldl (fun s k=>s.mark i k) s
theorem Sy.marks_app (s:Sy) (i:Nat) (l m:List Nat):s.marks i (l++m)=(s.marks i l).marks i m:=List.foldl_append
theorem Sy.marks_len:∀ (l:List Nat) (s:Sy) (i:Nat),(s.marks i l).m.length=s.m.length
 | [],s,i=>rfl
 | k::l,s,i=>by
  have:=Sy.marks_len l (s.mark i k) i
  unfold Sy.marks at this ⊢
  rw[List.foldl_cons,this]
  simp[Sy.mark]
def learnV (b1 b6 b7:Nat):Value:=.func (.func 109) #[] #[ptr b1,ptr b6,ptr b7]
set_option maxRecDepth 100000 in
set_option maxHeartbeats 8000000 in
theorem lefts_spec {I:GH} {g:Gr} (hg:g.ok I) (h64:g.n≤64) {t:Tr} (ht:t.ok I) (hkb:KB t) (hr:right t=true) (hno:namedOk (placesL g.ds) t.ns=true) {F:List Fl} {M1:List Blk} {b1 b6 b7 i:Nat} (hi:i < 64)
  (h1:(⟨b1,.cells #[.slice g.a g.n g.c] 24 (0,0)⟩:Blk)∈M1) (h7:(⟨b7,.cells #[.int .i64 i] 3 (0,0)⟩:Blk)∈M1) {xa:Option Addr} {xc:Nat} (hx:FsAt I M1 xa t.n (nodesF (placesL g.ds) F t.ns [])) :
  ∀ (m j:Nat),j < m→∀ (hj:j < t.ns.length) (s:Sy) (hs:s.m.length=64),Spec Tryz.prog 108 [t.val,.slice xa t.n xc,.int .i64 j,learnV b1 b6 b7] I (sBlk b6 s::M1) fun v I' M'=>I'=I∧M'=sBlk b6 (s.marks i (leftAt (placesL g.ds) F t.ns j).2)::M1
 | 0,j,h,_,_,_=>absurd h (Nat.not_lt_zero _)
 | m+1,j,hjm,hj,s,hs=>by
  have ih:=lefts_spec (b6:=b6) (xc:=xc) hg h64 ht hkb hr hno hi h1 h7 hx m
  have htn:=ht.n
  have hgn:=hg.n
  have hdm:=List.getElem_mem hj
  have hd:=ht.ns _ hdm
  have hkn:=hd.kn
  have hkbd:=hkb _ hdm
  have hfit:=right_fits hr hj
  have hfm:=fits_more hd.k.1 hfit
  have hkv:=right_kids hr j hj
  have hnm:=List.all_eq_true.1 hno _ hdm
  have hle:=left_eq (pl:=placesL g.ds) (F:=F) hr hj
  have hxl:=nodesF_len (placesL g.ds) F t.ns []
  simp only[List.length_nil,Nat.zero_add] at hxl
  obtain⟨ad,had,hrd⟩:=ht.rs.row Nd.cells_len (show j < t.n by omega) hj
  have hl2:(leftAt (placesL g.ds) F t.ns j).2=leftsD (placesL g.ds) t.ns[j] (t.ns[j].kids.map (leftAt (placesL g.ds) F t.ns)):=by rw[hle];rfl
  rw[hl2]
  clear hle hl2
  have hkid:∀ q (h:q < t.ns[j].kids.length),∃ k:Nat,t.ns[j].kids[q]=k∧k < j:=fun q h=>by
   have:=hkv _ (List.getElem_mem h)
   exact⟨t.ns[j].kids[q].toNat,by omega,by omega⟩
  generalize t.ns[j]=d at *
  refine spec_of_V [] TryzEOK Tryz.func108 rfl rfl rfl ?_
  intro B h0
  refine IdxOb.mk ad j had rfl (by omega) ?_
  refine LoadOb.mk _ (hrd _) ?_
  refine CondOb.mk (fun e=>?_) (fun e3=>?_)
  ·have e:d.k=3:=of_decide_eq_true e
   obtain⟨q,hq1,hq2,hq3⟩:=findAt_of (nm:=d.t) (ds:=g.ds) (by simpa[e] using hnm)
   refine CallOb.whole _ (learn1_spec hg hq1 (by omega) hi hs h1 h7) ?_
   rintro v J N - ⟨hJ,hN⟩
   subst J
   subst N
   refine⟨_,_,.refl,rfl,?_⟩
   rw[leftsD,decide_eq_true e,cond_true,hq3]
   rfl
  have e3:¬ d.k=3:=of_decide_eq_false e3
  refine CondOb.mk (fun e=>?_) (fun e4=>?_)
  ·have e:d.k=4:=of_decide_eq_true e
   have hlD:leftsD (placesL g.ds) d (d.kids.map (leftAt (placesL g.ds) F t.ns))=takeZ (d.kids.map (leftAt (placesL g.ds) F t.ns)):=by
    rw[leftsD,decide_eq_false e3,decide_eq_true e]
    rfl
   rw[hlD]
   refine LoopOb.inv (ι:=Nat×Sy) (fun x=>{ fl:=[(1,.val (.slice xa t.n xc)),(3,.val (learnV b1 b6 b7)),(4,.ref 4 0),(42,.val (.slice d.ka d.kn d.kc)),(43,.val (.int .i64 d.kn)),(44,.val (.int .i64 x.1))],cl:=[(4,t.cells)],gi:=I,mi:=sBlk b6 x.2::M1 })
    (fun x=>x.1≤d.kn∧x.2.m.length=64∧s.marks i (takeZ (d.kids.map (leftAt (placesL g.ds) F t.ns)))=x.2.marks i (takeZ ((d.kids.drop x.1).map (leftAt (placesL g.ds) F t.ns)))) (fun x=>d.kn - x.1) ?_ ?_
   ·exact⟨(0,s),⟨Nat.zero_le _,hs,rfl⟩,.refl,aF6,.cons rfl (.nil)⟩
   rintro⟨q,s'⟩ ⟨hq,hs',hgo⟩
   simp only at hq hs' hgo
   refine CondOb.mk (fun h=>?_) (fun h=>?_)
   rotate_left
   ·have hge:d.kids.length≤q:=by have:¬ (q:Int) < (d.kn:Int):=of_decide_eq_false h;omega
    rw[List.drop_of_length_le hge] at hgo
    refine⟨_,_,.refl,rfl,?_⟩
    rw[hgo]
    rfl
   have hlt:q < d.kn:=by have:(q:Int) < (d.kn:Int):=of_decide_eq_true h;omega
   have hlt':q < d.kids.length:=by omega
   obtain⟨ak,hak,hrk⟩:=hd.rs.one hlt hlt'
   obtain⟨k,hk,hkj⟩:=hkid q hlt'
   rw[hk] at hrk
   have hkx:k < (nodesF (placesL g.ds) F t.ns []).length:=by omega
   obtain⟨ax,hax,hrx⟩:=hx.rd k hkx
   have hdr:(d.kids.drop q).map (leftAt (placesL g.ds) F t.ns)=leftAt (placesL g.ds) F t.ns k::(d.kids.drop (q+1)).map (leftAt (placesL g.ds) F t.ns):=by
    rw[List.drop_eq_getElem_cons hlt',List.map_cons,hk]
   have hfl:(leftAt (placesL g.ds) F t.ns k).1=(nodesF (placesL g.ds) F t.ns [])[k]:=by
    rw[left_flow]
    simp[List.getD_eq_getElem?_getD,hkx]
   rw[hdr,takeZ,hfl,Sy.marks_app] at hgo
   refine IdxOb.mk ak q hak rfl hlt ?_
   refine LoadOb.mk _ (hrk _) ?_
   refine CallOb.whole _ (ih k (by omega) (by omega) s' hs') ?_
   rintro v J N - ⟨hJ,hN⟩
   subst J
   subst N
   refine IdxOb.mk ax k hax rfl (by omega) ?_
   refine LoadOb.mk _ ((hrx.sub fun x hx=>.tail _ hx).part (k:=0) (m:=1) (by decide)) ?_
   refine CondOb.mk (fun hz=>?_) (fun hz=>?_)
   ·have hz':(nodesF (placesL g.ds) F t.ns [])[k].z=false:=by simpa using hz
    rw[hz'] at hgo
    refine⟨_,_,.refl,rfl,?_⟩
    rw[hgo]
    rfl
   ·have hz':(nodesF (placesL g.ds) F t.ns [])[k].z=true:=by simpa using hz
    rw[hz'] at hgo
    refine ArithOb.mk _ (next_wr (i:=q) (by omega)) ?_
    exact⟨(q+1,s'.marks i (leftAt (placesL g.ds) F t.ns k).2),⟨⟨hlt,by rw[Sy.marks_len];exact hs',hgo⟩,by simp only;omega⟩,.refl,aF6,.cons rfl (.nil)⟩
  have e4:¬ d.k=4:=of_decide_eq_false e4
  refine CondOb.mk (fun e=>?_) (fun e6=>?_)
  ·have e:d.k=6:=of_decide_eq_true e
   have h1k:=hfm.one (by omega)
   have hk0:0 < d.kids.length:=by omega
   refine CondOb.mk (fun hh=>?_) (fun hh=>?_)
   ·have hh':decide (d.hi=0)=false:=by
     have hh2:(!decide (d.hi=0))=true:=hh
     simpa using hh2
    obtain⟨ak,hak,hrk⟩:=hd.rs.one (j:=0) (by omega) hk0
    obtain⟨k,hk,hkj⟩:=hkid 0 hk0
    rw[hk] at hrk
    have hlD:leftsD (placesL g.ds) d (d.kids.map (leftAt (placesL g.ds) F t.ns))=(leftAt (placesL g.ds) F t.ns k).2:=by
     have hkk:d.kids=[(k:Int)]:=by
      match hx:d.kids,hk0,h1k,hk with
      | [a],_,_,hk=>simp only[List.getElem_cons_zero] at hk;rw[hk]
      | _::_::_,_,h,_=>simp at h;omega
     rw[leftsD,decide_eq_false e3,decide_eq_false e4,hh',hkk]
     simp
    rw[hlD]
    refine CodeOb.draw TryzEOK rfl rfl rfl ?_
    refine IdxOb.mk ak 0 hak rfl (by omega) ?_
    refine LoadOb.mk _ (hrk _) ?_
    refine CallOb.whole _ (ih k (by omega) (by omega) s hs) ?_
    rintro v J N - ⟨hJ,hN⟩
    subst J
    subst N
    exact⟨_,_,.refl,rfl,rfl⟩
   ·have hh':decide (d.hi=0)=true:=by
     have hh2:(!decide (d.hi=0))=false:=hh
     simpa using hh2
    have hlD:leftsD (placesL g.ds) d (d.kids.map (leftAt (placesL g.ds) F t.ns))=[]:=by
     rw[leftsD,decide_eq_false e3,decide_eq_false e4,decide_eq_true e,hh']
     rfl
    rw[hlD]
    exact⟨_,_,.refl,rfl,rfl⟩
  have e6:¬ d.k=6:=of_decide_eq_false e6
  have hlD:leftsD (placesL g.ds) d (d.kids.map (leftAt (placesL g.ds) F t.ns))=(d.kids.map (leftAt (placesL g.ds) F t.ns)).flatMap (·.2):=by
   rw[leftsD,decide_eq_false e3,decide_eq_false e4,decide_eq_false e6]
   rfl
  rw[hlD]
  refine LoopOb.inv (ι:=Nat×Sy) (fun x=>{ fl:=[(1,.val (.slice xa t.n xc)),(3,.val (learnV b1 b6 b7)),(4,.ref 4 0),(21,.val (.slice d.ka d.kn d.kc)),(22,.val (.int .i64 d.kn)),(23,.val (.int .i64 x.1))],cl:=[(4,t.cells)],gi:=I,mi:=sBlk b6 x.2::M1 })
   (fun x=>x.1≤d.kn∧x.2.m.length=64∧s.marks i ((d.kids.map (leftAt (placesL g.ds) F t.ns)).flatMap (·.2))=x.2.marks i (((d.kids.drop x.1).map (leftAt (placesL g.ds) F t.ns)).flatMap (·.2))) (fun x=>d.kn - x.1) ?_ ?_
  ·exact⟨(0,s),⟨Nat.zero_le _,hs,rfl⟩,.refl,aF6,.cons rfl (.nil)⟩
  rintro⟨q,s'⟩ ⟨hq,hs',hgo⟩
  simp only at hq hs' hgo
  refine CondOb.mk (fun h=>?_) (fun h=>?_)
  rotate_left
  ·have hge:d.kids.length≤q:=by have:¬ (q:Int) < (d.kn:Int):=of_decide_eq_false h;omega
   rw[List.drop_of_length_le hge] at hgo
   refine⟨_,_,.refl,rfl,?_⟩
   rw[hgo]
   rfl
  have hlt:q < d.kn:=by have:(q:Int) < (d.kn:Int):=of_decide_eq_true h;omega
  have hlt':q < d.kids.length:=by omega
  obtain⟨ak,hak,hrk⟩:=hd.rs.one hlt hlt'
  obtain⟨k,hk,hkj⟩:=hkid q hlt'
  rw[hk] at hrk
  rw[List.drop_eq_getElem_cons hlt',List.map_cons,hk,List.flatMap_cons,Sy.marks_app] at hgo
  refine IdxOb.mk ak q hak rfl hlt ?_
  refine LoadOb.mk _ (hrk _) ?_
  refine CallOb.whole _ (ih k (by omega) (by omega) s' hs') ?_
  rintro v J N - ⟨hJ,hN⟩
  subst J
  subst N
  refine ArithOb.mk _ (next_wr (i:=q) (by omega)) ?_
  exact⟨(q+1,s'.marks i (leftAt (placesL g.ds) F t.ns k).2),⟨⟨hlt,by rw[Sy.marks_len];exact hs',hgo⟩,by simp only;omega⟩,.refl,aF6,.cons rfl (.nil)⟩
theorem Holds.permW {I:GH} {M N:List Blk} {w:World} (h:Holds I M w) (hp:M.Perm N):Holds I N w:=
 ⟨h.i,fun x hx=>h.m x (hp.mem_iff.2 hx),fun x hx=>h.d x (hp.mem_iff.2 hx),((hp.map (·.num)).nodup_iff).1 h.nd⟩
theorem Kept.permW {I I':GH} {M N M' N':List Blk} {w w':World} (h:Kept I M w I' M' w') (hp:M.Perm N) (hp':M'.Perm N'):Kept I N w I' N' w':=
 ⟨h.le,h.newI,fun x hx=>by
  rcases h.newM x (hp'.mem_iff.2 hx) with ⟨y,hy,e⟩ | h1
  ·exact .inl ⟨y,hp.mem_iff.1 hy,e⟩
  ·exact .inr h1,fun b hb hy=>h.old b hb fun y hy'=>hy y (hp.mem_iff.1 hy'),h.out,h.sz⟩
theorem Spec.permW {P:Program} {f:Nat} {args:List Value} {I:GH} {M N:List Blk} {p q:Value→GH→List Blk→Prop} (hp:M.Perm N) (hq:∀ v I' M',p v I' M'→∃ N',M'.Perm N'∧q v I' N') (h:Spec P f args I M p):Spec P f args I N q:=by
 rcases h with ⟨h1,h2⟩ | h2
 ·refine .inl ⟨h1,fun w hw=>(h2 w (hw.permW hp.symm)).mono ?_⟩
  rintro e w' ⟨v,I',M',h3,h4,h5,h6⟩
  obtain⟨N',h7,h8⟩:=hq _ _ _ h4
  exact⟨v,I',N',h3,h8,h5.permW h7,h6.permW hp h7⟩
 ·refine .inr fun w hw=>?_
  obtain⟨v,w',I',M',h3,h4,h5,h6⟩:=h2 w (hw.permW hp.symm)
  obtain⟨N',h7,h8⟩:=hq _ _ _ h4
  exact⟨v,w',I',N',h3,h8,h5.permW h7,h6.permW hp h7⟩
def Sy.loop (s:Sy) (i:Nat):Sy:=⟨s.n,s.m,s.w ||| bitW i⟩
def stepS (pl:List (ByteArray×Int)) (F:List Fl) (s:Sy) (i:Nat) (d:Df):Sy:=
 bif endlessN d.t.ns (nodesF pl F d.t.ns []) then (s.marks i (leftAt pl F d.t.ns d.t.root).2).loop i else s.marks i (leftAt pl F d.t.ns d.t.root).2
def sy0 (n:Nat):Sy:=⟨n,List.replicate 64 0,0⟩
def syGo (pl:List (ByteArray×Int)) (F:List Fl):Nat→List Df→Sy→Sy
 | _,[],s=>s
 | i,d::ds,s=>syGo pl F (i+1) ds (stepS pl F s i d)
def syOf (ds:List Df) (F:List Fl):Sy:=syGo (placesL ds) F 0 ds (sy0 ds.length)
theorem stepS_len (pl:List (ByteArray×Int)) (F:List Fl) (s:Sy) (i:Nat) (d:Df):(stepS pl F s i d).m.length=s.m.length:=by
 unfold stepS
 cases endlessN d.t.ns (nodesF pl F d.t.ns []) with
 | true=>exact Sy.marks_len _ s i
 | false=>exact Sy.marks_len _ s i
theorem syGo_snoc (pl:List (ByteArray×Int)) (F:List Fl):∀ (l:List Df) (i:Nat) (s:Sy) (d:Df),syGo pl F i (l++[d]) s=stepS pl F (syGo pl F i l s) (i+l.length) d
 | [],i,s,d=>rfl
 | a::l,i,s,d=>by
  rw[List.cons_append,syGo,syGo,syGo_snoc pl F l]
  congr 1
  simp
  omega
theorem syGo_len (pl:List (ByteArray×Int)) (F:List Fl):∀ (l:List Df) (i:Nat) (s:Sy),(syGo pl F i l s).m.length=s.m.length
 | [],i,s=>rfl
 | d::l,i,s=>by rw[syGo,syGo_len pl F l,stepS_len]
theorem sBlk_w {I:GH} {M:List Blk} {b:Nat} {s:Sy} (hM:sBlk b s∈M):Rd I M ((⟨b,0,none⟩:Addr).add 65) 1 [wordV s.w]:=by
 rw[addr_add _ rfl]
 refine⟨rfl,_,_,_,.inr ⟨_,hM,rfl,rfl⟩,?_,rfl⟩
 show (s.cells.drop (0+65)).take 1=_
 rw[Sy.cells,Nat.zero_add,List.drop_succ_cons,List.drop_left' (rowC_len _)]
 rfl
theorem sBlk_loop (s:Sy) (i:Nat):splice s.cells (0+65) [wordV (s.w ||| bitW i)]=(s.loop i).cells:=by
 unfold Sy.cells Sy.loop splice
 simp only[Nat.zero_add,List.length_cons,List.length_nil]
 rw[List.take_succ_cons,List.take_left' (rowC_len _),List.drop_succ_cons,List.drop_of_length_le (by simp[rowC_len])]
 simp
theorem sBlk_all {I:GH} {M:List Blk} {b:Nat} {s:Sy} (hM:sBlk b s∈M):Rd I M (⟨b,0,none⟩:Addr) 66 s.cells:=
 ⟨rfl,_,_,_,.inr ⟨_,hM,rfl,rfl⟩,by simp only[List.drop_zero];exact List.take_of_length_le (show s.cells.length≤66 by rw[Sy.cells_len];exact Nat.le_refl _),Sy.cells_len s⟩
set_option maxRecDepth 100000 in
set_option maxHeartbeats 8000000 in
theorem learn_spec {I:GH} {deb:List Int} (hT:Tabs I deb) {g:Gr} (hg:g.ok I) (hkb:∀ d∈g.ds,KB d.t) (h64:mayG deb g=0→g.n≤64):Spec Tryz.prog 65 [g.val] I [] fun v I' M'=>(∀ b o,I b=some o→I' b=some o)∧M'=[] ∧
  ((mayG deb g≠0∧v=.tuple #[(sy0 0).val,.int .i64 (mayG deb g)])∨(mayG deb g=0∧∃ F,IsFlow g.ds F∧v=.tuple #[(syOf g.ds F).val,.int .i64 0])):=by
 refine spec_of_V [1,2,6,7] TryzEOK Tryz.func65 rfl rfl rfl ?_
 intro B h0
 have hgn:=hg.n
 have hcap:=hg.rs.cap
 refine AllocOb.mk fun b1 hb1 hbM1=>?_
 refine AllocOb.mk fun b2 hb2 hbM2=>?_
 refine LoadOb.mk [.slice g.a g.n g.c] (blk_rd (cs:=[.slice g.a g.n g.c]) (k:=0) (n:=1) (.tail _ (.head _)) (by simp)) ?_
 refine CallOb.mk [] [sBlk b2 (sy0 0),⟨b1,.cells #[.slice g.a g.n g.c] 24 (0,0)⟩] _ (.refl _) (FOf_spec hT hg) ?_
 rintro v I1 N - ⟨hI1,⟨hm,rfl,rfl⟩ | ⟨hm,bf,F,rfl,rfl,hF⟩⟩
 ·refine CondOb.mk (fun _=>?_) (fun h=>absurd h (by simp[hm]))
  refine StoreOb.to [] _ _ _ rfl rfl rfl rfl (sy0 0).cells rfl ?_
  refine LoadOb.mk _ (sBlk_all (.head _)) ?_
  exact⟨_,_,.sub (List.nil_sublist _) .refl,hI1,rfl,.inl ⟨hm,rfl⟩⟩
 refine CondOb.mk (fun h=>absurd h (by simp)) (fun _=>?_)
 have hM:=mayF_of hgn hm
 have hFn:F.length=g.n:=by rw[hF.len,hgn]
 have hn64:=h64 hm
 refine LoadOb.mk [.slice g.a g.n g.c] (blk_rd (cs:=[.slice g.a g.n g.c]) (k:=0) (n:=1) (.tail _ (.tail _ (.head _))) (by simp)) ?_
 refine AllocOb.mk fun b6 hb6 hbM6=>?_
 refine StoreOb.to [] _ _ _ rfl rfl rfl rfl (sy0 g.n).cells rfl ?_
 refine LoadOb.mk [.slice g.a g.n g.c] (blk_rd (cs:=[.slice g.a g.n g.c]) (k:=0) (n:=1) (.tail _ (.tail _ (.tail _ (.head _)))) (by simp)) ?_
 refine LoopOb.inv (ι:=Nat×GH) (fun x=>{ fl:=[(1,.val (ptr b1)),(2,.val (ptr b2)),(4,.val (.slice (some ⟨bf,0,none⟩) g.n g.n)),(6,.val (ptr b6)),(25,.val (.slice g.a g.n g.c)),(26,.val (.int .i64 g.n)),(27,.val (.int .i64 x.1))],cl:=[],gi:=x.2,mi:=[sBlk b6 (syGo (placesL g.ds) F 0 (g.ds.take x.1) (sy0 g.n)),flRow bf F,sBlk b2 (sy0 0),⟨b1,.cells #[.slice g.a g.n g.c] 24 (0,0)⟩] })
  (fun x=>x.1≤g.n∧∀ b o,I b=some o→x.2 b=some o) (fun x=>g.n - x.1) ?_ ?_
 ·exact⟨(0,I1),⟨Nat.zero_le _,hI1⟩,.refl,aF7,.nil⟩
 rintro⟨i,J⟩ ⟨hi,hJ⟩
 simp only at hi hJ
 refine CondOb.mk (fun h=>?_) (fun h=>?_)
 rotate_left
 ·have hge:i=g.n:=by have:¬ (i:Int) < (g.n:Int):=of_decide_eq_false h;omega
  refine LoadOb.mk _ (sBlk_all (.head _)) ?_
  refine StoreOb.to [sBlk b6 (syGo (placesL g.ds) F 0 (g.ds.take i) (sy0 g.n)),flRow bf F] _ _ _ rfl rfl rfl rfl (syGo (placesL g.ds) F 0 (g.ds.take i) (sy0 g.n)).cells ?_ ?_
  ·rfl
  refine LoadOb.mk _ (sBlk_all (.tail _ (.tail _ (.head _)))) ?_
  refine⟨_,_,.sub (List.nil_sublist _) .refl,hJ,rfl,.inr ⟨hm,F,hF,?_⟩⟩
  rw[hge,List.take_of_length_le (l:=g.ds) (by omega),syOf,hgn]
  rfl
 have hlt:i < g.n:=by have:(i:Int) < (g.n:Int):=of_decide_eq_true h;omega
 have hlt':i < g.ds.length:=by omega
 have hgJ:=hg.mono hJ
 have hTJ:=hT.mono hJ
 obtain⟨ad,had,hrd⟩:=hgJ.rs.row Df.cells_len hlt hlt'
 have hdm:=List.getElem_mem hlt'
 have hd:=hgJ.ds _ hdm
 have hr:=hM.right _ hdm
 have hno:=hM.named _ hdm
 have hkbd:=hkb _ hdm
 have hsn:syGo (placesL g.ds) F 0 (g.ds.take (i+1)) (sy0 g.n)=stepS (placesL g.ds) F (syGo (placesL g.ds) F 0 (g.ds.take i) (sy0 g.n)) i g.ds[i]:=by
  rw[List.take_succ_eq_append_getElem hlt',syGo_snoc,List.length_take_of_le (by omega),Nat.zero_add]
 have hsl:(syGo (placesL g.ds) F 0 (g.ds.take i) (sy0 g.n)).m.length=64:=by rw[syGo_len];rfl
 generalize g.ds[i]=d at hrd hd hr hno hkbd hsn
 refine IdxOb.mk ad i had rfl hlt ?_
 refine LoadOb.mk _ (hrd _) ?_
 refine AllocOb.mk fun b7 hb7 hbM7=>?_
 refine StoreOb.to [] _ _ _ rfl rfl rfl rfl [.int .i64 i] rfl ?_
 refine LoadOb.mk [.slice g.a g.n g.c] (blk_rd (cs:=[.slice g.a g.n g.c]) (k:=0) (n:=1) (.tail _ (.tail _ (.tail _ (.tail _ (.head _))))) (by simp)) ?_
 generalize hsv:syGo (placesL g.ds) F 0 (g.ds.take i) (sy0 g.n)=s at hsl hsn ⊢
 have hat:∀ {M:List Blk},flRow bf F∈M→FsAt J M (some ⟨bf,0,none⟩) g.n F:=fun hM'=>by
  have:=flRow_at (I:=J) hM'
  rwa [hFn] at this
 have hnp:nodesP g F d.t=some (nodesF (placesL g.ds) F d.t.ns []):=by
  rw[nodesP,hr,hno,decide_eq_true hFn]
  rfl
 refine CallOb.whole _ (FNodes_spec (lc:=g.n) hTJ hgJ hd.t (hat (.tail _ (.tail _ (.head _))))) ?_
 rintro v J2 M2 - ⟨hJ2,⟨hn,-,-⟩ | ⟨r,bx,hn,rfl,rfl⟩⟩
 ·rw[hnp] at hn;cases hn
 rw[hnp] at hn
 obtain rfl:=Option.some.inj hn
 refine GuardOb.mk (fun h=>?_) (fun h=>?_)
 rotate_left
 ·cases h
 refine CondOb.mk (fun h=>absurd h (by simp)) (fun _=>?_)
 have hroot:=right_root hr
 have hls:=lefts_spec (b1:=b1) (b6:=b6) (b7:=b7) (i:=i) (xa:=some ⟨bx,0,none⟩) (xc:=d.t.n) (F:=F) (hgJ.mono hJ2) hn64 (hd.t.mono hJ2) hkbd hr hno (by omega) (M1:=[flRow bx (nodesF (placesL g.ds) F d.t.ns []),⟨b7,.cells #[.int .i64 i] 3 (0,0)⟩,flRow bf F,sBlk b2 (sy0 0),⟨b1,.cells #[.slice g.a g.n g.c] 24 (0,0)⟩]) (.tail _ (.tail _ (.tail _ (.tail _ (.head _))))) (.tail _ (.head _)) (by
  have:=flRow_at (I:=J2) (M:=[flRow bx (nodesF (placesL g.ds) F d.t.ns []),⟨b7,.cells #[.int .i64 i] 3 (0,0)⟩,flRow bf F,sBlk b2 (sy0 0),⟨b1,.cells #[.slice g.a g.n g.c] 24 (0,0)⟩]) (b:=bx) (l:=nodesF (placesL g.ds) F d.t.ns []) (.head _)
  rw[nodesF_len,hd.t.n] at this
  simpa using this) d.t.ns.length d.t.root.toNat (by omega) (by omega) s hsl
 rw[Int.toNat_of_nonneg hroot.1] at hls
 have hls2:=Spec.permW (q:=fun v I' M'=>I'=J2∧M'=sBlk b6 (s.marks i (leftAt (placesL g.ds) F d.t.ns d.t.root.toNat).2)::[flRow bx (nodesF (placesL g.ds) F d.t.ns []),⟨b7,.cells #[.int .i64 i] 3 (0,0)⟩,flRow bf F,sBlk b2 (sy0 0),⟨b1,.cells #[.slice g.a g.n g.c] 24 (0,0)⟩]) (List.perm_middle (a:=sBlk b6 s) (l₁:=[flRow bx (nodesF (placesL g.ds) F d.t.ns []),⟨b7,.cells #[.int .i64 i] 3 (0,0)⟩]) (l₂:=[flRow bf F,sBlk b2 (sy0 0),⟨b1,.cells #[.slice g.a g.n g.c] 24 (0,0)⟩])).symm (fun v I' M' h=>⟨M',.refl _,h⟩) hls
 refine CallOb.whole _ hls2 ?_
 rintro v J3 N - ⟨hJ3,hN⟩
 subst J3
 subst N
 generalize hs1:s.marks i (leftAt (placesL g.ds) F d.t.ns d.t.root.toNat).2=s1 at *
 have hs1l:s1.m.length=64:=by rw[←hs1,Sy.marks_len,hsl]
 refine CallOb.whole _ (endless_spec (xs:=nodesF (placesL g.ds) F d.t.ns []) (hd.t.mono hJ2) hr ?_) ?_
 ·have:=flRow_at (I:=J2) (M:=sBlk b6 s1::[flRow bx (nodesF (placesL g.ds) F d.t.ns []),⟨b7,.cells #[.int .i64 i] 3 (0,0)⟩,flRow bf F,sBlk b2 (sy0 0),⟨b1,.cells #[.slice g.a g.n g.c] 24 (0,0)⟩]) (b:=bx) (l:=nodesF (placesL g.ds) F d.t.ns []) (.tail _ (.head _))
  rw[nodesF_len,hd.t.n] at this
  simpa using this
 rintro v J3 N - ⟨hv,hJ3,hN⟩
 subst J3
 subst N
 subst v
 have hst:(sBlk b6 (stepS (placesL g.ds) F s i d))=(sBlk b6 (bif endlessN d.t.ns (nodesF (placesL g.ds) F d.t.ns []) then s1.loop i else s1)):=by
  rw[stepS,←hs1]
  rfl
 refine CondOb.mk (fun he=>?_) (fun he=>?_)
 rotate_left
 ·have he':endlessN d.t.ns (nodesF (placesL g.ds) F d.t.ns [])=false:=he
  refine ArithOb.mk _ (next_wr (i:=i) (by omega)) ?_
  refine⟨(i+1,J2),⟨⟨hlt,fun b o h=>hJ2 _ _ (hJ _ _ h)⟩,by simp only;omega⟩,.sub (.cons_cons _ (.cons _ (.cons _ (.refl _)))) (.eqM ?_),aF7,.nil⟩
  simp only
  rw[hsn,hst,he']
  rfl
 have he':endlessN d.t.ns (nodesF (placesL g.ds) F d.t.ns [])=true:=he
 refine CodeOb.draw TryzEOK rfl rfl rfl ?_
 refine LoadOb.mk _ (sBlk_w (.head _)) ?_
 refine LoadOb.mk [.int .i64 i] (blk_rd (cs:=[.int .i64 i]) (k:=0) (n:=1) (.tail _ (.tail _ (.head _))) (by simp)) ?_
 refine ShOb.mk i rfl ?_
 refine ArithOb.mk _ (shl_wr (by omega)) ?_
 refine StoreOb.addTo [] _ s1.cells _ rfl ?_ rfl (s1.loop i).cells ?_ ?_
 ·rw[Sy.cells_len]
  rfl
 ·show splice s1.cells (0+65) [Value.int .u64 (worV s1.w.toNat (bitW i).toNat)]=_
  rw[worV_bv]
  exact sBlk_loop s1 i
 refine ArithOb.mk _ (next_wr (i:=i) (by omega)) ?_
 refine⟨(i+1,J2),⟨⟨hlt,fun b o h=>hJ2 _ _ (hJ _ _ h)⟩,by simp only;omega⟩,.sub (.cons_cons _ (.cons _ (.cons _ (.refl _)))) (.eqM ?_),aF7,.nil⟩
 simp only
 rw[hsn,hst,he']
 rfl
def intsV (l:List Nat):List Value:=l.map fun n:Nat=>Value.int .i64 n
def wLefts (s:Sy) (k:Nat):List Nat:=bitsOf (s.m.getD k 0) 64
def wLoops (s:Sy):List Nat:=bitsOf s.w 64
open Classical in
noncomputable def wLeft (s:Sy):List Nat:=(List.range 64).filter fun i=>decide (ComesM s.m i i)
theorem wLeft_of {s:Sy} {b:W64} (h:∀ i,i < 64→(b.getLsbD i=true ↔ ComesM s.m i i)):bitsOf b 64=wLeft s:=by
 unfold bitsOf wLeft
 apply List.filter_congr
 intro i hi
 have:=h i (by simpa using hi)
 by_cases hc:ComesM s.m i i
 ·simp[hc,this.2 hc]
 ·have:b.getLsbD i=false:=by
   cases hb:b.getLsbD i with
   | false=>rfl
   | true=>exact absurd (this.1 hb) hc
  simp[hc,this]
theorem syGo_n (pl:List (ByteArray×Int)) (F:List Fl):∀ (l:List Df) (i:Nat) (s:Sy),(syGo pl F i l s).n=s.n
 | [],i,s=>rfl
 | d::l,i,s=>by
  rw[syGo,syGo_n pl F l]
  have hm:∀ (q:List Nat) (s:Sy),(s.marks i q).n=s.n:=fun q=>by
   induction q with
   | nil=>exact fun s=>rfl
   | cons k q ih=>exact fun s=>ih (s.mark i k)
  unfold stepS
  cases endlessN d.t.ns (nodesF pl F d.t.ns []) with
  | true=>exact hm _ s
  | false=>exact hm _ s
theorem syOf_n (ds:List Df) (F:List Fl):(syOf ds F).n=ds.length:=syGo_n _ _ _ _ _
theorem syOf_len (ds:List Df) (F:List Fl):(syOf ds F).m.length=64:=by rw[syOf,syGo_len];rfl
theorem sBlk_n {I:GH} {M:List Blk} {b:Nat} {s:Sy} (hM:sBlk b s∈M):Rd I M (⟨b,0,none⟩:Addr) 1 [.int .i64 s.n]:=
 ⟨rfl,_,_,_,.inr ⟨_,hM,rfl,rfl⟩,rfl,rfl⟩
set_option maxHeartbeats 4000000 in
theorem WLefts_spec {I:GH} {deb:List Int} (hT:Tabs I deb) {g:Gr} (hg:g.ok I) (hkb:∀ d∈g.ds,KB d.t) (h64:mayG deb g=0→g.n≤64) (r:Int):Spec Tryz.prog 26 [g.val,.int .i64 r] I [] fun v I' M'=>(∀ b o,I b=some o→I' b=some o) ∧
  ∃ (os:OS) (l:List Nat),os.ok 1 (intsV l)∧v=os.val∧M'=os.blk 3++[]∧(((mayG deb g≠0∨r < 0∨(g.n:Int)≤r)∧l=[])∨(mayG deb g=0∧∃ F k,r=(k:Nat)∧k < g.n∧IsFlow g.ds F∧l=wLefts (syOf g.ds F) k)):=by
 refine spec_of_V [5] TryzEOK Tryz.func26 rfl rfl rfl ?_
 intro B h0
 have hgn:=hg.n
 refine CallOb.mk [] [] _ (.refl _) (learn_spec hT hg hkb h64) ?_
 rintro v I1 N - ⟨hI1,rfl,⟨hm,rfl⟩ | ⟨hm,F,hF,rfl⟩⟩
 ·refine AllocOb.mk fun b5 hb5 hbM5=>?_
  refine StoreOb.to [] _ _ _ rfl rfl rfl rfl (sy0 0).cells rfl ?_
  refine GuardOb.mk (fun h=>?_) (fun h=>?_)
  ·exact absurd h (by simp[hm])
  exact⟨_,_,.sub (List.nil_sublist _) .refl,hI1,OS0,[],OS0_ok 1,rfl,rfl,.inl ⟨.inl hm,rfl⟩⟩
 refine AllocOb.mk fun b5 hb5 hbM5=>?_
 refine StoreOb.to [] _ _ _ rfl rfl rfl rfl (syOf g.ds F).cells rfl ?_
 have hsn:=syOf_n g.ds F
 have hsl:=syOf_len g.ds F
 generalize hs:syOf g.ds F=s at hsn hsl
 refine GuardOb.mk (fun _=>?_) (fun h=>by cases h)
 refine GuardOb.mk (fun h1=>?_) (fun h1=>?_)
 rotate_left
 ·have h1':r < 0:=by have:decide (r < 0)=true:=h1;simpa using this
  exact⟨_,_,.sub (List.nil_sublist _) .refl,hI1,OS0,[],OS0_ok 1,rfl,rfl,.inl ⟨.inr (.inl h1'),rfl⟩⟩
 have h1':¬ r < 0:=by have:decide (r < 0)=false:=h1;simpa using this
 refine LoadOb.mk _ (sBlk_n (.head _)) ?_
 refine CondOb.mk (fun h2=>?_) (fun h2=>?_)
 ·have h2':(s.n:Int)≤r:=of_decide_eq_true h2
  exact⟨_,_,.sub (List.nil_sublist _) .refl,hI1,OS0,[],OS0_ok 1,rfl,rfl,.inl ⟨.inr (.inr (by omega)),rfl⟩⟩
 have h2':¬ (s.n:Int)≤r:=of_decide_eq_false h2
 have hn:=h64 hm
 obtain⟨k,rfl⟩:∃ k:Nat,r=k:=⟨r.toNat,by omega⟩
 refine ArrOb.mk k rfl (by omega) ?_
 refine LoadOb.mk _ (sBlk_m (.head _) (by omega)) ?_
 refine CallOb.whole _ (wlist_spec (s.m.getD k 0)) ?_
 rintro v J N - ⟨rfl,os,hos,rfl,rfl⟩
 refine⟨_,_,.sub (List.sublist_append_left _ _) .refl,hI1,os,_,hos,rfl,by rw[List.append_nil],.inr ⟨hm,F,k,rfl,by omega,hF,?_⟩⟩
 rw[hs]
 rfl
set_option maxHeartbeats 4000000 in
theorem WLeft_spec {I:GH} {deb:List Int} (hT:Tabs I deb) {g:Gr} (hg:g.ok I) (hkb:∀ d∈g.ds,KB d.t) (h64:mayG deb g=0→g.n≤64):Spec Tryz.prog 24 [g.val] I [] fun v I' M'=>(∀ b o,I b=some o→I' b=some o) ∧
  ∃ (os:OS) (l:List Nat),os.ok 1 (intsV l)∧v=os.val∧M'=os.blk 3++[]∧((mayG deb g≠0∧l=[])∨(mayG deb g=0∧∃ F,IsFlow g.ds F∧l=wLeft (syOf g.ds F))):=by
 refine spec_of_V [3] TryzEOK Tryz.func24 rfl rfl rfl ?_
 intro B h0
 have hgn:=hg.n
 refine CallOb.mk [] [] _ (.refl _) (learn_spec hT hg hkb h64) ?_
 rintro v I1 N - ⟨hI1,rfl,⟨hm,rfl⟩ | ⟨hm,F,hF,rfl⟩⟩
 ·refine AllocOb.mk fun b5 hb5 hbM5=>?_
  refine StoreOb.to [] _ _ _ rfl rfl rfl rfl (sy0 0).cells rfl ?_
  refine CondOb.mk (fun h=>?_) (fun h=>absurd h (by simp[hm]))
  exact⟨_,_,.sub (List.nil_sublist _) .refl,hI1,OS0,[],OS0_ok 1,rfl,rfl,.inl ⟨hm,rfl⟩⟩
 refine AllocOb.mk fun b5 hb5 hbM5=>?_
 refine StoreOb.to [] _ _ _ rfl rfl rfl rfl (syOf g.ds F).cells rfl ?_
 have hsn:=syOf_n g.ds F
 have hsl:=syOf_len g.ds F
 have hn:=h64 hm
 generalize hs:syOf g.ds F=s at hsn hsl
 refine CondOb.mk (fun h=>absurd h (by simp)) (fun _=>?_)
 refine LoadOb.mk _ (sBlk_all (.head _)) ?_
 refine CallOb.whole _ (left_spec s ⟨hsl,by omega⟩) ?_
 rintro v J N - ⟨rfl,rfl,b,rfl,hb⟩
 refine CallOb.whole _ (wlist_spec b) ?_
 rintro v J N - ⟨rfl,os,hos,rfl,rfl⟩
 refine⟨_,_,.sub (List.sublist_append_left _ _) .refl,hI1,os,_,hos,rfl,by rw[List.append_nil],.inr ⟨hm,F,hF,?_⟩⟩
 rw[hs]
 exact wLeft_of hb
set_option maxHeartbeats 4000000 in
theorem WLoops_spec {I:GH} {deb:List Int} (hT:Tabs I deb) {g:Gr} (hg:g.ok I) (hkb:∀ d∈g.ds,KB d.t) (h64:mayG deb g=0→g.n≤64):Spec Tryz.prog 25 [g.val] I [] fun v I' M'=>(∀ b o,I b=some o→I' b=some o) ∧
  ∃ (os:OS) (l:List Nat),os.ok 1 (intsV l)∧v=os.val∧M'=os.blk 3++[]∧((mayG deb g≠0∧l=[])∨(mayG deb g=0∧∃ F,IsFlow g.ds F∧l=wLoops (syOf g.ds F))):=by
 refine spec_of_V [3] TryzEOK Tryz.func25 rfl rfl rfl ?_
 intro B h0
 have hgn:=hg.n
 refine CallOb.mk [] [] _ (.refl _) (learn_spec hT hg hkb h64) ?_
 rintro v I1 N - ⟨hI1,rfl,⟨hm,rfl⟩ | ⟨hm,F,hF,rfl⟩⟩
 ·refine AllocOb.mk fun b5 hb5 hbM5=>?_
  refine StoreOb.to [] _ _ _ rfl rfl rfl rfl (sy0 0).cells rfl ?_
  refine CondOb.mk (fun h=>?_) (fun h=>absurd h (by simp[hm]))
  exact⟨_,_,.sub (List.nil_sublist _) .refl,hI1,OS0,[],OS0_ok 1,rfl,rfl,.inl ⟨hm,rfl⟩⟩
 refine AllocOb.mk fun b5 hb5 hbM5=>?_
 refine StoreOb.to [] _ _ _ rfl rfl rfl rfl (syOf g.ds F).cells rfl ?_
 have hsn:=syOf_n g.ds F
 have hsl:=syOf_len g.ds F
 have hn:=h64 hm
 generalize hs:syOf g.ds F=s at hsn hsl
 refine CondOb.mk (fun h=>absurd h (by simp)) (fun _=>?_)
 refine LoadOb.mk _ (sBlk_w (.head _)) ?_
 refine CallOb.whole _ (wlist_spec s.w) ?_
 rintro v J N - ⟨rfl,os,hos,rfl,rfl⟩
 refine⟨_,_,.sub (List.sublist_append_left _ _) .refl,hI1,os,_,hos,rfl,by rw[List.append_nil],.inr ⟨hm,F,hF,?_⟩⟩
 rw[hs]
 rfl
noncomputable def whereW (e:Int) (s:Sy):Int×Int:=
 if e≠0 then (0,e) else if 0 < (wLeft s).length then (((wLeft s).headD 0:Nat),42) else if 0 < (wLoops s).length then (((wLoops s).headD 0:Nat),43) else (0,0)
theorem OS.pos {os:OS} {l:List Nat} (h:os.ok 1 (intsV l)):l.length=os.n:=by
 have:=h.len
 simpa[intsV] using this
theorem os_head {I:GH} {M M0:List Blk} {os:OS} {l:List Nat} {e:Nat} (h:os.ok 1 (intsV l)) (hl:0 < l.length) (hM:os.blk e++M0=M):∃ ad,os.a.map (fun g=>(⟨g,0,none⟩:Addr))=some ad∧Rd I M (ad.add (0 * 1)) 1 [.int .i64 (l.headD 0:Nat)]:=by
 have hp:=OS.pos h
 cases ha:os.a with
 | none=>have:=(h.nil ha).1;omega
 | some b=>
  obtain⟨h1,h2,h3,h4⟩:=h.cap b ha
  refine⟨⟨b,0,none⟩,rfl,?_⟩
  subst hM
  cases l with
  | nil=>simp at hl
  | cons a l=>
   cases hc:os.cur with
   | nil=>rw[hc] at h4;simp[intsV] at h4
   | cons x xs=>
    rw[hc] at h4
    have hn:os.n * 1=(os.n - 1)+1:=by omega
    rw[hn,List.take_succ_cons] at h4
    have hx:x=.int .i64 a:=(List.cons.inj h4).1
    refine⟨rfl,_,_,_,.inr ⟨⟨b,.cells os.cur.toArray e (0,0)⟩,?_,rfl,rfl⟩,?_,rfl⟩
    ·unfold OS.blk
     rw[ha]
     exact .head _
    ·rw[hc,hx]
     rfl
set_option maxHeartbeats 4000000 in
theorem WWhere_spec {I:GH} {deb:List Int} (hT:Tabs I deb) {g:Gr} (hg:g.ok I) (hkb:∀ d∈g.ds,KB d.t) (h64:mayG deb g=0→g.n≤64):Spec Tryz.prog 20 [g.val] I [] fun v I' M'=>(∀ b o,I b=some o→I' b=some o)∧M'=[] ∧
  ∃ r:Int×Int,v=.tuple #[.int .i64 r.1,.int .i64 r.2]∧((mayG deb g≠0∧r=(0,mayG deb g))∨(mayG deb g=0∧∃ F,IsFlow g.ds F∧r=whereW 0 (syOf g.ds F))):=by
 refine spec_of_V [4] TryzEOK Tryz.func20 rfl rfl rfl ?_
 intro B h0
 have hgn:=hg.n
 refine CallOb.mk [] [] _ (.refl _) (learn_spec hT hg hkb h64) ?_
 rintro v I1 N - ⟨hI1,rfl,⟨hm,rfl⟩ | ⟨hm,F,hF,rfl⟩⟩
 ·refine AllocOb.mk fun b5 hb5 hbM5=>?_
  refine StoreOb.to [] _ _ _ rfl rfl rfl rfl (sy0 0).cells rfl ?_
  refine CondOb.mk (fun h=>?_) (fun h=>absurd h (by simp[hm]))
  exact⟨_,_,.sub (List.nil_sublist _) .refl,hI1,rfl,(0,mayG deb g),rfl,.inl ⟨hm,rfl⟩⟩
 refine AllocOb.mk fun b5 hb5 hbM5=>?_
 refine StoreOb.to [] _ _ _ rfl rfl rfl rfl (syOf g.ds F).cells rfl ?_
 have hsn:=syOf_n g.ds F
 have hsl:=syOf_len g.ds F
 have hn:=h64 hm
 generalize hs:syOf g.ds F=s at hsn hsl
 refine CondOb.mk (fun h=>absurd h (by simp)) (fun _=>?_)
 refine LoadOb.mk _ (sBlk_all (.head _)) ?_
 refine CallOb.whole _ (left_spec s ⟨hsl,by omega⟩) ?_
 rintro v J N - ⟨rfl,rfl,b,rfl,hb⟩
 refine CallOb.whole _ (wlist_spec b) ?_
 rintro v J N - ⟨rfl,os,hos,rfl,rfl⟩
 have hos:os.ok 1 (intsV (wLeft s)):=by rw[←wLeft_of hb];exact hos
 have hp:=OS.pos hos
 refine CondOb.mk (fun h=>?_) (fun h=>?_)
 ·have h':0 < (wLeft s).length:=by have:(0:Int) < (os.n:Int):=of_decide_eq_true h;omega
  obtain⟨ad,had,hrd⟩:=os_head (I:=J) hos h' rfl
  refine IdxOb.mk ad 0 had rfl (by omega) ?_
  refine LoadOb.mk _ hrd ?_
  exact⟨_,_,.sub (List.nil_sublist _) .refl,hI1,rfl,(((wLeft s).headD 0:Nat),42),rfl,.inr ⟨hm,F,hF,by rw[hs,whereW,if_neg (by simp),if_pos h']⟩⟩
 have h':¬ 0 < (wLeft s).length:=by have:¬ (0:Int) < (os.n:Int):=of_decide_eq_false h;omega
 refine LoadOb.mk _ (sBlk_w (List.mem_append_right _ (.head _))) ?_
 refine CallOb.whole _ (wlist_spec s.w) ?_
 rintro v J2 N - ⟨rfl,ot,hot,rfl,rfl⟩
 have hot:ot.ok 1 (intsV (wLoops s)):=hot
 have hp2:=OS.pos hot
 refine CondOb.mk (fun h=>?_) (fun h=>?_)
 ·have h2:0 < (wLoops s).length:=by have:(0:Int) < (ot.n:Int):=of_decide_eq_true h;omega
  obtain⟨ad,had,hrd⟩:=os_head (I:=J2) hot h2 rfl
  refine IdxOb.mk ad 0 had rfl (by omega) ?_
  refine LoadOb.mk _ hrd ?_
  exact⟨_,_,.sub (List.nil_sublist _) .refl,hI1,rfl,(((wLoops s).headD 0:Nat),43),rfl,.inr ⟨hm,F,hF,by rw[hs,whereW,if_neg (by simp),if_neg h',if_pos h2]⟩⟩
 have h2:¬ 0 < (wLoops s).length:=by have:¬ (0:Int) < (ot.n:Int):=of_decide_eq_false h;omega
 exact⟨_,_,.sub (List.nil_sublist _) .refl,hI1,rfl,(0,0),rfl,.inr ⟨hm,F,hF,by rw[hs,whereW,if_neg (by simp),if_neg h',if_neg h2]⟩⟩
def orW (l:List Nat) (w:W64):W64:=l.foldl (fun w k=>w ||| bitW k) w
theorem orW_get (l:List Nat) (w:W64) {i:Nat} (hi:i < 64):(orW l w).getLsbD i=(w.getLsbD i || l.contains i):=foldl_bits l w hi
theorem set_self (m:List W64) (i:Nat):m.set i (m.getD i 0)=m:=by
 apply List.ext_getElem?
 intro j
 rw[List.getElem?_set]
 by_cases h:i=j
 ·subst h
  by_cases hl:i < m.length
  ·simp[hl,List.getD_eq_getElem?_getD]
  ·simp[hl]
 ·simp[h]
theorem marks_m (i:Nat):∀ (l:List Nat) (s:Sy),i < s.m.length→(s.marks i l).m=s.m.set i (orW l (s.m.getD i 0))
 | [],s,h=>(set_self s.m i).symm
 | k::l,s,h=>by
  have ih:=marks_m i l (s.mark i k) (by simpa[Sy.mark] using h)
  show ((s.mark i k).marks i l).m=_
  rw[ih,Sy.mark]
  simp only
  rw[List.set_set,set_get (by simpa using h)]
  rfl
theorem marks_w (i:Nat):∀ (l:List Nat) (s:Sy),(s.marks i l).w=s.w
 | [],s=>rfl
 | k::l,s=>marks_w i l (s.mark i k)
theorem stepS_m (pl:List (ByteArray×Int)) (F:List Fl) (s:Sy) (i:Nat) (d:Df) (h:i < s.m.length):(stepS pl F s i d).m=s.m.set i (orW (leftAt pl F d.t.ns d.t.root).2 (s.m.getD i 0)):=by
 unfold stepS
 rw[←marks_m i _ s h]
 cases endlessN d.t.ns (nodesF pl F d.t.ns [])<;>rfl
theorem stepS_w (pl:List (ByteArray×Int)) (F:List Fl) (s:Sy) (i:Nat) (d:Df):(stepS pl F s i d).w=bif endlessN d.t.ns (nodesF pl F d.t.ns []) then s.w ||| bitW i else s.w:=by
 unfold stepS
 cases endlessN d.t.ns (nodesF pl F d.t.ns [])
 ·exact marks_w i _ s
 ·show (s.marks i _).w ||| bitW i=_
  rw[marks_w]
  rfl
theorem syGo_bits (pl:List (ByteArray×Int)) (F:List Fl):∀ (l:List Df) (i:Nat) (s:Sy),s.m.length=64→i+l.length≤64 →
  (∀ j,j < i∨i+l.length≤j→(syGo pl F i l s).m.getD j 0=s.m.getD j 0) ∧
  (∀ q (h:q < l.length),(syGo pl F i l s).m.getD (i+q) 0=orW (leftAt pl F l[q].t.ns l[q].t.root).2 (s.m.getD (i+q) 0)) ∧
  (∀ j,j < 64→j < i∨i+l.length≤j→(syGo pl F i l s).w.getLsbD j=s.w.getLsbD j) ∧
  (∀ q (h:q < l.length),(syGo pl F i l s).w.getLsbD (i+q)=(s.w.getLsbD (i+q) || endlessN l[q].t.ns (nodesF pl F l[q].t.ns [])))
 | [],i,s,_,_=>⟨fun _ _=>rfl,fun _ h=>absurd h (by simp),fun _ _ _=>rfl,fun _ h=>absurd h (by simp)⟩
 | d::l,i,s,hs,hl=>by
  rw[List.length_cons] at hl
  obtain⟨h1,h2,h3,h4⟩:=syGo_bits pl F l (i+1) (stepS pl F s i d) (by rw[stepS_len,hs]) (by omega)
  have hm:∀ j,j≠i→(stepS pl F s i d).m.getD j 0=s.m.getD j 0:=fun j hj=>by
   rw[stepS_m pl F s i d (by omega)]
   simp[List.getD_eq_getElem?_getD,List.getElem?_set,Ne.symm hj]
  have hw:∀ j,j < 64→j≠i→(stepS pl F s i d).w.getLsbD j=s.w.getLsbD j:=fun j hj hne=>by
   rw[stepS_w]
   cases endlessN d.t.ns (nodesF pl F d.t.ns [])
   ·rfl
   ·rw[cond_true,BitVec.getLsbD_or,bitW_get hj]
    simp[hne]
  refine⟨fun j hj=>?_,fun q h=>?_,fun j hj hj2=>?_,fun q h=>?_⟩
  ·rw[List.length_cons] at hj
   rw[syGo,h1 j (by omega),hm j (by omega)]
  ·cases q with
   | zero=>
    rw[syGo,h1 _ (by omega),stepS_m pl F s i d (by omega)]
    rw[Nat.add_zero,set_get (by omega)]
    rfl
   | succ q=>
    have:=h2 q (by simpa using h)
    rw[show i+1+q=i+(q+1) by omega] at this
    rw[syGo,this,hm _ (by omega)]
    rfl
  ·rw[List.length_cons] at hj2
   rw[syGo,h3 j hj (by omega),hw j hj (by omega)]
  ·cases q with
   | zero=>
    rw[syGo,h3 _ (by omega) (by omega),stepS_w,Nat.add_zero,List.getElem_cons_zero]
    cases he:endlessN d.t.ns (nodesF pl F d.t.ns [])
    ·simp
    ·rw[cond_true,BitVec.getLsbD_or,bitW_get (by omega)]
     simp
   | succ q=>
    have hq:q < l.length:=by simpa using h
    have:=h4 q hq
    rw[show i+1+q=i+(q+1) by omega] at this
    rw[syGo,this,hw _ (by omega) (by omega)]
    rfl
def rawL (ds:List Df) (F:List Fl) (i:Nat):List Nat:=match ds[i]? with
 | some d=>(leftAt (placesL ds) F d.t.ns d.t.root).2
 | none=>[]
def rawE (ds:List Df) (F:List Fl) (i:Nat):Bool:=match ds[i]? with
 | some d=>endlessN d.t.ns (nodesF (placesL ds) F d.t.ns [])
 | none=>false
theorem syOf_m {ds:List Df} {F:List Fl} (hn:ds.length≤64) {i k:Nat} (hk:k < 64):((syOf ds F).m.getD i 0).getLsbD k=(rawL ds F i).contains k:=by
 obtain⟨h1,h2,-,-⟩:=syGo_bits (placesL ds) F ds 0 (sy0 ds.length) (by rfl) (by omega)
 have h0:∀ j,(sy0 ds.length).m.getD j 0=0#64:=fun j=>by
  simp only[sy0,List.getD_eq_getElem?_getD,List.getElem?_replicate]
  by_cases h:j < 64<;>simp[h]
 unfold rawL syOf
 by_cases h:i < ds.length
 ·have:=h2 i h
  rw[Nat.zero_add] at this
  rw[this,h0,orW_get _ _ hk,List.getElem?_eq_getElem h]
  simp
 ·rw[h1 i (by omega),h0,List.getElem?_eq_none (by omega)]
  simp
theorem syOf_w {ds:List Df} {F:List Fl} (hn:ds.length≤64) {i:Nat} (hi:i < 64):(syOf ds F).w.getLsbD i=rawE ds F i:=by
 obtain⟨-,-,h1,h2⟩:=syGo_bits (placesL ds) F ds 0 (sy0 ds.length) (by rfl) (by omega)
 unfold rawE syOf
 by_cases h:i < ds.length
 ·have:=h2 i h
  rw[Nat.zero_add] at this
  rw[this,List.getElem?_eq_getElem h]
  simp[sy0]
 ·rw[h1 i hi (by omega),List.getElem?_eq_none (by omega)]
  simp[sy0]
def allR {α:Type} (n:Nat) (body:List α→Nat→α) (l:List α):List α:=(List.range n).map (body l)
theorem allR_len {α:Type} (n:Nat) (body:List α→Nat→α) (l:List α):(allR n body l).length=n:=by simp[allR]
theorem allR_get {α:Type} {n:Nat} (body:List α→Nat→α) (l:List α) (b:α) {i:Nat} (h:i < n):(allR n body l).getD i b=body l i:=by simp[allR,List.getD_eq_getElem?_getD,h]
section
variable {α:Type} {O:OrdB α} {n:Nat} {body:List α→Nat→α} (hmono:∀ {l m:List α},LeR O l m→∀ i,i < n→O.le (body l i) (body m i))
include hmono
theorem PreR.all {l:List α} (h:PreR O n body l):PreR O n body (allR n body l)∧LeR O l (allR n body l):=by
 have hle:LeR O l (allR n body l):=.of (by rw[allR_len,h.len]) fun i hi=>by
  rw[allR_get _ _ _ (by rw[←h.len];exact hi)]
  exact h.up i (by rw[←h.len];exact hi)
 refine⟨⟨allR_len _ _ _,fun i hi=>?_,fun m hm hc=>?_⟩,hle⟩
 ·rw[allR_get _ _ _ hi]
  exact hmono hle i hi
 ·refine .of (by rw[allR_len,hm]) fun i hi=>?_
  rw[allR_len] at hi
  rw[allR_get _ _ _ hi]
  exact O.trans (hmono (h.least m hm hc) i hi) (hc i hi)
end
section
variable {n:Nat} {body:List Fi→Nat→Fi} (hmono:∀ {l m:List Fi},LeR OI l m→∀ i,i < n→OI.le (body l i) (body m i))
include hmono
end
def ofL (d:Nd) (ls:List (List Nd)):List Nd:=ofNds d (ls.map cleanL)
structure TrSmall (t:Tr):Prop where
 n:t.n < 2500
 ns:∀ nd∈t.ns,NdSmall nd
theorem TrW.ok {I:GH} {t:Tr} (h:TrW I t) (hs:TrSmall t):t.ok I:=
 ⟨h.rs.big (by have:=hs.n;omega),fun nd hnd=>(h.ns nd hnd).ok (hs.ns nd hnd),h.root⟩
theorem TrW.mono {I I':GH} {t:Tr} (h:TrW I t) (hI:∀ b o,I b=some o→I' b=some o):TrW I' t:=⟨h.rs.mono hI,fun nd hnd=>(h.ns nd hnd).mono hI,h.root⟩
def bodies (g:Gr) (L0:List Tr) (i:Nat):List Tr:=L0++(g.ds.take i).map Df.t
structure L2 (L:List Tr) (n0:Nat) (x:Nat×Nat):Prop where
 i:x.2≤L.length
 n:x.1≤6000
 ge:n0≤x.1
 small:x.1 < 2500→x.2≤x.1∧∀ j (h:j < L.length),j < x.2→TrSmall L[j]
structure FA where
 l:List Fl
 a:Option Addr
 n:Nat
 c:Nat
def FA.val (x:FA):Value:=.slice x.a x.n x.c
structure FlW (I:GH) (x:FA):Prop where
 at_:FsAt I [] x.a x.n x.l
 n:x.n≤9223372036854775807
theorem FlW.mono {I I':GH} {x:FA} (h:FlW I x) (hI:∀ b o,I b=some o→I' b=some o):FlW I' x:=⟨h.at_.mono hI,h.n⟩
theorem map_getD {ds:List Df} {f:Df→Fl} {i:Nat} (h:i < ds.length):(ds.map f).getD i fl0=f ds[i]:=by simp[List.getD_eq_getElem?_getD,h]
theorem PreF.all {ds:List Df} {l:List Fl} (h:PreF ds l):PreF ds (ds.map (bodyF (placesL ds) l))∧LeL l (ds.map (bodyF (placesL ds) l)):=by
 have hle:LeL l (ds.map (bodyF (placesL ds) l)):=LeL.of (by simp[h.len]) fun i hi=>by
  rw[map_getD (by rw[←h.len];exact hi)]
  exact h.up i _
 refine⟨⟨by simp,fun i hi=>?_,fun m hm hc=>LeL.of (by simp[hm]) fun i hi=>?_⟩,hle⟩
 ·rw[map_getD hi]
  exact body_mono hle _
 ·have hi':i < ds.length:=by simpa using hi
  rw[map_getD hi']
  exact(body_mono (h.least m hm hc) _).trans (hc i hi')
def rowV (b:Nat) (n:Nat):Value:=.slice (some ⟨b,0,none⟩) n n
structure RowsF (I:GH) (pl:List (ByteArray×Int)) (F:List Fl) (ds:List Df) (k:Nat) (rows:List Value):Prop where
 len:rows.length=ds.length
 row:∀ i (h:i < ds.length),i < k→∃ b,rows[i]?=some (rowV b ds[i].t.n)∧I b=some (flRow b (nodesF pl F ds[i].t.ns [])).obj
theorem RowsF.mono {I I':GH} {pl:List (ByteArray×Int)} {F:List Fl} {ds:List Df} {k:Nat} {rows:List Value} (h:RowsF I pl F ds k rows) (hI:∀ b o,I b=some o→I' b=some o):RowsF I' pl F ds k rows:=
 ⟨h.len,fun i hi hk=>by
  obtain⟨b,h1,h2⟩:=h.row i hi hk
  exact⟨b,h1,hI _ _ h2⟩⟩
def okI (deb:List Int) (g:Gr) (l:List Fi) (t:Tr):Bool:=decide (l.length=g.n) && (decide (mayG deb g=0) && (right t && namedOk (placesL g.ds) t.ns))
def cutL (b:Bool) (xs:List (Fl×List Nat)):List Nat:=bif b then takeZ xs else xs.flatMap (·.2)
theorem cutL_nil (b:Bool):cutL b []=[]:=by cases b<;>rfl
theorem cutL_cons (b:Bool) (x:Fl×List Nat) (xs:List (Fl×List Nat)):cutL b (x::xs)=x.2++bif b && !x.1.z then [] else cutL b xs:=by
 cases b with
 | true=>
  cases hz:x.1.z<;>simp[cutL,takeZ,hz]
 | false=>simp[cutL]
theorem leftsD_cut {pl:List (ByteArray×Int)} {d:Nd} {xs:List (Fl×List Nat)} (h3:¬ d.k=3) (h6:¬ (d.k=6∧d.hi=0)):leftsD pl d xs=cutL (decide (d.k=4)) xs:=by
 unfold leftsD cutL
 rw[decide_eq_false h3,cond_false]
 cases h4:decide (d.k=4) with
 | true=>rfl
 | false=>
  rw[cond_false,cond_false]
  by_cases a:d.k=6
  ·have b:¬ d.hi=0:=fun e=>h6 ⟨a,e⟩
   rw[decide_eq_true a,decide_eq_false b]
   rfl
  ·rw[decide_eq_false a]
   rfl
theorem intsV_flat (l:List Nat):l.flatMap (fun n:Nat=>[Value.int .i64 n])=intsV l:=by
 unfold intsV
 induction l with
 | nil=>rfl
 | cons a l ih=>rw[List.flatMap_cons,ih];rfl
theorem os_ints {I:GH} {M:List Blk} {os:OS} {l:List Nat} {e:Nat} (h:os.ok 1 (intsV l)) (hM:∀ z∈os.blk e,z∈M) {j:Nat} (hj:j < l.length):∃ ad,os.a.map (fun g=>(⟨g,0,none⟩:Addr))=some ad∧Rd I M (ad.add (j * 1)) 1 [.int .i64 l[j]]:=by
 have h':os.ok 1 (l.flatMap fun n:Nat=>[Value.int .i64 n]):=by
  rw[intsV_flat]
  exact h
 exact OS.ok.row (f:=fun n:Nat=>[Value.int .i64 n]) (size:=1) (fun _=>rfl) (by decide) h' hM hj
def endF (pl:List (ByteArray×Int)) (F:List Fl) (d:Nd) (xs:List ((Fl×List Nat)×Bool)):Bool:=xs.any fun x=>(decide (d.k=6) && (decide (d.hi=-1) && x.1.1.z)) || x.2
def endG (pl:List (ByteArray×Int)) (F:List Fl) (d:Nd) (xs:List ((Fl×List Nat)×Bool)):(Fl×List Nat)×Bool:=(leftF pl F d (xs.map (·.1)),endF pl F d xs)
def endAt (pl:List (ByteArray×Int)) (F:List Fl) (ns:List Nd) (j:Int):(Fl×List Nat)×Bool:=tabOf ((fl0,[]),false) (fun d g=>endG pl F d (d.kids.map g)) ns j
theorem end_eq {pl:List (ByteArray×Int)} {F:List Fl} {t:Tr} (hr:right t=true) {j:Nat} (hj:j < t.ns.length):endAt pl F t.ns j=endG pl F t.ns[j] (t.ns[j].kids.map (endAt pl F t.ns)):=
 tabOf_eq (fun d g g' h=>by rw[List.map_congr_left h]) hr hj
theorem end_left {pl:List (ByteArray×Int)} {F:List Fl} {t:Tr} (hr:right t=true):∀ (m j:Nat),j < m→j < t.ns.length→(endAt pl F t.ns j).1=leftAt pl F t.ns j
 | 0,j,h,_=>absurd h (Nat.not_lt_zero _)
 | m+1,j,hm,hj=>by
  rw[end_eq hr hj,left_eq hr hj]
  have:(t.ns[j].kids.map (endAt pl F t.ns)).map (·.1)=t.ns[j].kids.map (leftAt pl F t.ns):=by
   rw[List.map_map]
   refine List.map_congr_left fun k hk=>?_
   obtain⟨h1,h2⟩:=right_kids hr j hj k hk
   obtain⟨q,rfl⟩:=Int.eq_ofNat_of_zero_le h1
   exact end_left hr m q (by omega) (by omega)
  show leftF pl F t.ns[j] _=_
  rw[this]
theorem end_ct (pl:List (ByteArray×Int)) (F:List Fl) (ns:List Nd) (j:Int):endAt pl F (ns.map Nd.ct) j=endAt pl F ns j:=by
 unfold endAt tabOf
 rw[tab_ct (f:=fun d g=>endG pl F d (d.kids.map g)) (g:=fun d g=>endG pl F d (d.kids.map g)) (fun d q=>rfl)]
def refLefts (ds:List Df) (F:List Fl) (i:Nat):List Nat:=(List.range ds.length).filter fun k=>(rawL ds F i).contains k
theorem range_filter_len (p:Nat→Bool) (i:Nat):((List.range i).filter p).length≤i:=by
 have:=List.length_filter_le p (List.range i)
 simpa using this
def endL (ds:List Df) (F:List Fl) (i:Nat):Bool:=match ds[i]? with
 | some d=>(endAt (placesL ds) F d.t.ns d.t.root).2
 | none=>false
def refLoops (ds:List Df) (F:List Fl):List Nat:=(List.range ds.length).filter (endL ds F)
inductive ComesL (A:Nat→List Nat):Nat→Nat→Prop
 | one {i k} (h:k∈A i):ComesL A i k
 | step {i j k} (h:j∈A i) (t:ComesL A j k):ComesL A i k
theorem ComesL.snoc {A:Nat→List Nat} {i j k:Nat} (h:ComesL A i j) (hk:k∈A j):ComesL A i k:=by
 induction h with
 | one h=>exact .step h (.one hk)
 | step h t ih=>exact .step h (ih hk)
def addAll:List Nat→List Nat→List Nat
 | [],l=>l
 | x::r,l=>addAll r (bif l.contains x then l else l++[x])
theorem addAll_mem:∀ (r l:List Nat) (x:Nat),x∈addAll r l ↔ x∈l∨x∈r
 | [],l,x=>by simp[addAll]
 | y::r,l,x=>by
  rw[addAll,addAll_mem r]
  cases h:l.contains y with
  | true=>
   have hy:y∈l:=by simpa using h
   rw[cond_true]
   constructor
   ·rintro(a | a)
    ·exact .inl a
    ·exact .inr (.tail _ a)
   ·rintro(a | a)
    ·exact .inl a
    ·rcases List.mem_cons.1 a with rfl | a
     ·exact .inl hy
     ·exact .inr a
  | false=>
   rw[cond_false]
   rw[List.mem_append,List.mem_singleton,List.mem_cons]
   constructor
   ·rintro((a | a) | a)
    ·exact .inl a
    ·exact .inr (.inl a)
    ·exact .inr (.inr a)
   ·rintro(a | a | a)
    ·exact .inl (.inl a)
    ·exact .inl (.inr a)
    ·exact .inr a
theorem addAll_pre:∀ (r l:List Nat),∃ s,addAll r l=l++s
 | [],l=>⟨[],by simp[addAll]⟩
 | y::r,l=>by
  obtain⟨s,hs⟩:=addAll_pre r (bif l.contains y then l else l++[y])
  rw[addAll,hs]
  cases l.contains y with
  | true=>exact⟨s,rfl⟩
  | false=>exact⟨[y]++s,by simp⟩
theorem addAll_nodup:∀ (r l:List Nat),l.Nodup→(addAll r l).Nodup
 | [],l,h=>h
 | y::r,l,h=>by
  rw[addAll]
  apply addAll_nodup r
  cases hc:l.contains y with
  | true=>exact h
  | false=>
   have hy:y ∉ l:=by simpa using hc
   rw[cond_false,List.nodup_append]
   refine⟨h,by simp,fun a ha b hb e=>?_⟩
   have:b=y:=by simpa using hb
   subst this
   subst e
   exact hy ha
theorem below_len:∀ (n:Nat) (l:List Nat),l.Nodup→(∀ x∈l,x < n)→l.length≤n
 | 0,[],_,_=>Nat.le_refl _
 | 0,a::l,_,h=>absurd (h a (.head _)) (Nat.not_lt_zero _)
 | n+1,l,hd,h=>by
  have h1:=below_len n (l.erase n) (hd.erase n) fun x hx=>by
   have h2:=h x (List.mem_of_mem_erase hx)
   have h3:x≠n:=(hd.mem_erase_iff.1 hx).1
   omega
  have h4:=List.length_erase (a:=n) (l:=l)
  split at h4<;>omega
def workGo (A:Nat→List Nat):Nat→Nat→List Nat→List Nat
 | 0,_,l=>l
 | f+1,k,l=>match l[k]? with
  | some x=>workGo A f (k+1) (addAll (A x) l)
  | none=>l
structure Work (A:Nat→List Nat) (n k:Nat) (l0 l:List Nat):Prop where
 nd:l.Nodup
 lt:∀ x∈l,x < n
 sub:∀ x∈l0,x∈l
 src:∀ x∈l,x∈l0∨∃ y∈l0,ComesL A y x
 dn:∀ j x,j < k→l[j]?=some x→∀ y∈A x,y∈l
 k:k≤l.length
theorem Work.len {A:Nat→List Nat} {n k:Nat} {l0 l:List Nat} (h:Work A n k l0 l):l.length≤n:=below_len n l h.nd h.lt
theorem Work.next {A:Nat→List Nat} {n k:Nat} {l0 l:List Nat} (hA:∀ x,∀ y∈A x,y < n) (h:Work A n k l0 l) {x:Nat} (hx:l[k]?=some x):Work A n (k+1) l0 (addAll (A x) l):=by
 obtain⟨s,hs⟩:=addAll_pre (A x) l
 have hk:k < l.length:=by
  rcases Nat.lt_or_ge k l.length with h1 | h1
  ·exact h1
  ·rw[List.getElem?_eq_none h1] at hx
   cases hx
 have hxl:x∈l:=List.mem_of_getElem? hx
 refine⟨addAll_nodup _ _ h.nd,fun z hz=>?_,fun z hz=>(addAll_mem _ _ _).2 (.inl (h.sub z hz)),fun z hz=>?_,fun j z hj hz y hy=>?_,by rw[hs];simp;omega⟩
 ·rcases(addAll_mem _ _ _).1 hz with a | a
  ·exact h.lt z a
  ·exact hA x z a
 ·rcases(addAll_mem _ _ _).1 hz with a | a
  ·exact h.src z a
  ·rcases h.src x hxl with b | ⟨w,hw,b⟩
   ·exact .inr ⟨x,b,.one a⟩
   ·exact .inr ⟨w,hw,b.snoc a⟩
 ·have hz':l[j]?=some z:=by
   rw[hs,List.getElem?_append_left (by omega)] at hz
   exact hz
  by_cases e:j=k
  ·subst e
   rw[hx] at hz'
   obtain rfl:=Option.some.inj hz'
   exact(addAll_mem _ _ _).2 (.inr hy)
  ·exact(addAll_mem _ _ _).2 (.inl (h.dn j z (by omega) hz' y hy))
theorem Work.done {A:Nat→List Nat} {n:Nat} {i:Nat} {l:List Nat} (h:Work A n l.length (A i) l) (x:Nat):x∈l ↔ ComesL A i x:=by
 constructor
 ·intro hx
  rcases h.src x hx with a | ⟨y,hy,a⟩
  ·exact .one a
  ·exact .step hy a
 ·have cl:∀ {y z:Nat},ComesL A y z→y∈l→z∈l:=fun {y z} hc=>by
   induction hc with
   | one hk=>
    intro hy
    obtain⟨j,hj,e⟩:=List.getElem_of_mem hy
    exact h.dn j _ hj (by rw[List.getElem?_eq_getElem hj,e]) _ hk
   | step hj t ih=>
    intro hy
    refine ih ?_
    obtain⟨q,hq,e⟩:=List.getElem_of_mem hy
    exact h.dn q _ hq (by rw[List.getElem?_eq_getElem hq,e]) _ hj
  intro hc
  cases hc with
  | one hk=>exact h.sub x hk
  | step hj t=>exact cl t (h.sub _ hj)
theorem endF_at {pl:List (ByteArray×Int)} {F:List Fl} {t:Tr} (hr:right t=true) {j:Nat} (hj:j < t.ns.length):(endAt pl F t.ns j).2=true ↔ ∃ k∈t.ns[j].kids,(t.ns[j].k=6∧t.ns[j].hi=-1∧(nodesF pl F t.ns []).getD k.toNat fl0=(nodesF pl F t.ns []).getD k.toNat fl0∧((nodesF pl F t.ns []).getD k.toNat fl0).z=true)∨(endAt pl F t.ns k).2=true:=by
 have hfl:∀ k∈t.ns[j].kids,(endAt pl F t.ns k).1.1=(nodesF pl F t.ns []).getD k.toNat fl0:=fun k hk=>by
  obtain⟨h1,h2⟩:=right_kids hr j hj k hk
  obtain⟨q,rfl⟩:=Int.eq_ofNat_of_zero_le h1
  rw[end_left hr (q+1) q (by omega) (by omega),left_flow]
 rw[end_eq hr hj]
 show endF pl F t.ns[j] _=true ↔ _
 unfold endF
 rw[List.any_eq_true]
 constructor
 ·rintro⟨x,hx,h⟩
  obtain⟨k,hk,rfl⟩:=List.mem_map.1 hx
  refine⟨k,hk,?_⟩
  rw[hfl k hk] at h
  simp only[Bool.or_eq_true,Bool.and_eq_true,decide_eq_true_eq] at h
  rcases h with ⟨a,b,c⟩ | h
  ·exact .inl ⟨a,b,rfl,c⟩
  ·exact .inr h
 ·rintro⟨k,hk,h⟩
  refine⟨_,List.mem_map.2 ⟨k,hk,rfl⟩,?_⟩
  rw[hfl k hk]
  simp only[Bool.or_eq_true,Bool.and_eq_true,decide_eq_true_eq]
  rcases h with ⟨a,b,-,c⟩ | h
  ·exact .inl ⟨a,b,c⟩
  ·exact .inr h
theorem end_up {pl:List (ByteArray×Int)} {F:List Fl} {t:Tr} (hr:right t=true):∀ (m j:Nat),j < t.ns.length→t.ns.length - j≤m→(endAt pl F t.ns j).2=true→(endAt pl F t.ns t.root).2=true
 | 0,j,hj,hm,_=>by omega
 | m+1,j,hj,hm,h=>by
  by_cases e:(j:Int)=t.root
  ·rw[←e]
   exact h
  ·obtain⟨p,hp,hk,hlt⟩:=right_parent hr hj e
   exact end_up hr m p hp (by omega) ((endF_at hr hp).2 ⟨_,hk,.inr h⟩)
theorem headD_mem1 {l:List Int} {k:Int} (hk:k∈l) (h:l.length=1):l.headD 0=k:=by
 match l,h with
 | [a],_=>exact(List.mem_singleton.1 hk).symm
theorem end_down {pl:List (ByteArray×Int)} {F:List Fl} {t:Tr} (hr:right t=true) (h1:∀ d∈t.ns,d.k=6→d.kids.length=1):∀ (m j:Nat),j < m→∀ (hj:j < t.ns.length),(endAt pl F t.ns j).2=true→endlessN t.ns (nodesF pl F t.ns [])=true
 | 0,j,h,_,_=>absurd h (Nat.not_lt_zero _)
 | m+1,j,hm,hj,h=>by
  obtain⟨k,hk,⟨a,b,-,c⟩ | h⟩:=(endF_at hr hj).1 h
  ·refine List.any_eq_true.2 ⟨t.ns[j],List.getElem_mem hj,?_⟩
   simp only[Bool.and_eq_true,decide_eq_true_eq]
   refine⟨a,b,?_⟩
   rw[headD_mem1 hk (h1 _ (List.getElem_mem hj) a)]
   exact c
  ·obtain⟨h2,h3⟩:=right_kids hr j hj k hk
   obtain⟨q,rfl⟩:=Int.eq_ofNat_of_zero_le h2
   exact end_down hr h1 m q (by omega) (by omega) h
theorem end_any {pl:List (ByteArray×Int)} {F:List Fl} {t:Tr} (hr:right t=true) (h1:∀ d∈t.ns,d.k=6→d.kids.length=1):(endAt pl F t.ns t.root).2=endlessN t.ns (nodesF pl F t.ns []):=by
 obtain⟨r0,r1⟩:=right_root hr
 obtain⟨r,hrr⟩:=Int.eq_ofNat_of_zero_le r0
 apply Bool.eq_iff_iff.2
 constructor
 ·intro h
  rw[hrr] at h
  exact end_down hr h1 (r+1) r (by omega) (by omega) h
 ·intro h
  obtain⟨d,hd,h⟩:=List.any_eq_true.1 h
  obtain⟨j,hj,rfl⟩:=List.getElem_of_mem hd
  simp only[Bool.and_eq_true,decide_eq_true_eq] at h
  obtain⟨a,b,c⟩:=h
  have hl:=h1 _ hd a
  have hk:t.ns[j].kids.headD 0∈t.ns[j].kids:=by
   match hx:t.ns[j].kids,hl with
   | [q],_=>simp
  exact end_up hr t.ns.length j hj (by omega) ((endF_at hr hj).2 ⟨_,hk,.inl ⟨a,b,rfl,c⟩⟩)
theorem rows_eq {ds:List Df} {F:List Fl} (hn:ds.length≤64) {i:Nat} (hlt:∀ k∈rawL ds F i,k < ds.length):refLefts ds F i=wLefts (syOf ds F) i:=by
 unfold refLefts wLefts bitsOf
 have h64:(List.range 64)=List.range ds.length++(List.range' ds.length (64 - ds.length)):=by
  rw[List.range_eq_range',List.range_eq_range',show 64=ds.length+(64 - ds.length) by omega,←List.range'_append_1]
  simp
 have hp:∀ k,k < 64→((syOf ds F).m.getD i 0).getLsbD k=(rawL ds F i).contains k:=fun k hk=>syOf_m hn hk
 rw[h64,List.filter_append]
 have h2:(List.range' ds.length (64 - ds.length)).filter (fun k=>((syOf ds F).m.getD i 0).getLsbD k)=[]:=by
  rw[List.filter_eq_nil_iff]
  intro k hk
  rw[List.mem_range'_1] at hk
  rw[hp k (by omega)]
  intro hc
  have:=hlt k (by simpa using hc)
  omega
 rw[h2,List.append_nil]
 apply List.filter_congr
 intro k hk
 have:k < ds.length:=by simpa using hk
 rw[hp k (by omega)]
theorem cutL_mem {b:Bool} {x:Nat}:∀ {xs:List (Fl×List Nat)},x∈cutL b xs→∃ y∈xs,x∈y.2
 | [],h=>by rw[cutL_nil] at h;cases h
 | y::xs,h=>by
  rw[cutL_cons] at h
  rcases List.mem_append.1 h with h | h
  ·exact⟨y,.head _,h⟩
  ·cases hb:b && !y.1.z with
   | true=>rw[hb] at h;cases h
   | false=>
    rw[hb] at h
    obtain⟨z,hz,hx⟩:=cutL_mem (xs:=xs) h
    exact⟨z,.tail _ hz,hx⟩
theorem left_lt {ds:List Df} {F:List Fl} {t:Tr} (hr:right t=true) (hno:namedOk (placesL ds) t.ns=true):∀ (m j:Nat),j < m→j < t.ns.length→∀ x∈(leftAt (placesL ds) F t.ns j).2,x < ds.length
 | 0,j,h,_=>absurd h (Nat.not_lt_zero _)
 | m+1,j,hm,hj=>by
  intro x hx
  rw[left_eq hr hj] at hx
  have hx:x∈leftsD (placesL ds) t.ns[j] (t.ns[j].kids.map (leftAt (placesL ds) F t.ns)):=hx
  have hnm:=List.all_eq_true.1 hno _ (List.getElem_mem hj)
  by_cases h3:t.ns[j].k=3
  ·obtain⟨q,hq1,hq2,hq3⟩:=findAt_of (nm:=t.ns[j].t) (ds:=ds) (by simpa[h3] using hnm)
   rw[leftsD,decide_eq_true h3,cond_true,hq3] at hx
   have:x=q:=by simpa using hx
   omega
  by_cases h6:t.ns[j].k=6∧t.ns[j].hi=0
  ·rw[leftsD,decide_eq_false h3,cond_false,decide_eq_false (show ¬ t.ns[j].k=4 by omega),cond_false,decide_eq_true h6.1,decide_eq_true h6.2] at hx
   cases hx
  ·rw[leftsD_cut h3 h6] at hx
   obtain⟨y,hy,hxy⟩:=cutL_mem hx
   obtain⟨k,hk,rfl⟩:=List.mem_map.1 hy
   obtain⟨h1,h2⟩:=right_kids hr j hj k hk
   obtain⟨q,rfl⟩:=Int.eq_ofNat_of_zero_le h1
   exact left_lt hr hno m q (by omega) (by omega) x hxy
theorem rawL_lt {g:Gr} (hM:MayF g) {F:List Fl} (i:Nat):∀ k∈rawL g.ds F i,k < g.ds.length:=by
 intro k hk
 unfold rawL at hk
 by_cases h:i < g.ds.length
 ·rw[List.getElem?_eq_getElem h] at hk
  have hdm:=List.getElem_mem h
  have hr:=hM.right _ hdm
  obtain⟨r0,r1⟩:=right_root hr
  obtain⟨r,hrr⟩:=Int.eq_ofNat_of_zero_le r0
  have hk:k∈(leftAt (placesL g.ds) F g.ds[i].t.ns g.ds[i].t.root).2:=hk
  rw[hrr] at hk
  exact left_lt hr (hM.named _ hdm) (r+1) r (by omega) (by omega) k hk
 ·rw[List.getElem?_eq_none (by omega)] at hk
  cases hk
theorem comes_iff {g:Gr} (hM:MayF g) (h64:g.ds.length≤64) {F:List Fl} {i k:Nat} (hi:i < 64):ComesM (syOf g.ds F).m i k ↔ ComesL (rawL g.ds F) i k:=by
 constructor
 ·intro h
  induction h with
  | one hk h=>rw[syOf_m h64 hk] at h;exact .one (by simpa using h)
  | step h hj t ih=>rw[syOf_m h64 hj] at h;exact .step (by simpa using h) (ih hj)
 ·intro h
  induction h with
  | one h=>
   have:=rawL_lt hM _ _ h
   exact .one (by omega) (by rw[syOf_m h64 (by omega)];simpa using h)
  | step h t ih=>
   have:=rawL_lt hM _ _ h
   exact .step (by rw[syOf_m h64 (by omega)];simpa using h) (by omega) (ih (by omega))
theorem range64 {n:Nat} (hn:n≤64) (p q:Nat→Bool) (h1:∀ k,k < n→p k=q k) (h2:∀ k,n≤k→k < 64→p k=false):(List.range 64).filter p=(List.range n).filter q:=by
 have h64:(List.range 64)=List.range n++(List.range' n (64 - n)):=by
  rw[List.range_eq_range',List.range_eq_range',show 64=n+(64 - n) by omega,←List.range'_append_1]
  simp
 have h3:(List.range' n (64 - n)).filter p=[]:=by
  rw[List.filter_eq_nil_iff]
  intro k hk
  rw[List.mem_range'_1] at hk
  rw[h2 k (by omega) (by omega)]
  simp
 rw[h64,List.filter_append,h3,List.append_nil]
 apply List.filter_congr
 intro k hk
 exact h1 k (by simpa using hk)
theorem endL_raw {I:GH} {g:Gr} (hg:g.ok I) (hM:MayF g) (F:List Fl) (i:Nat):endL g.ds F i=rawE g.ds F i:=by
 unfold endL rawE
 by_cases h:i < g.ds.length
 ·rw[List.getElem?_eq_getElem h]
  have hdm:=List.getElem_mem h
  have hr:=hM.right _ hdm
  have ht:=(hg.ds _ hdm).t
  refine end_any hr fun d hd hk=>?_
  obtain⟨j,hj,rfl⟩:=List.getElem_of_mem hd
  have hnd:=ht.ns _ hd
  have:=(fits_more hnd.k.1 (right_fits hr hj)).one (by omega)
  omega
 ·rw[List.getElem?_eq_none (by omega)]
theorem loops_eq {I:GH} {g:Gr} (hg:g.ok I) (hM:MayF g) (h64:g.ds.length≤64) (F:List Fl):wLoops (syOf g.ds F)=refLoops g.ds F:=by
 unfold wLoops refLoops bitsOf
 refine range64 h64 _ _ (fun k hk=>?_) (fun k hk hk2=>?_)
 ·rw[syOf_w h64 (by omega),endL_raw hg hM]
 ·rw[syOf_w h64 hk2,rawE,List.getElem?_eq_none hk]
open Classical in
noncomputable def refLeft (ds:List Df) (F:List Fl):List Nat:=(List.range ds.length).filter fun i=>decide (ComesL (rawL ds F) i i)
theorem rawL_none {ds:List Df} {F:List Fl} {i:Nat} (h:ds.length≤i):rawL ds F i=[]:=by
 rw[rawL,List.getElem?_eq_none h]
open Classical in
theorem lefts_eq {g:Gr} (hM:MayF g) (h64:g.ds.length≤64) (F:List Fl):wLeft (syOf g.ds F)=refLeft g.ds F:=by
 unfold wLeft refLeft
 refine range64 h64 _ _ (fun k hk=>?_) (fun k hk hk2=>?_)
 ·exact decide_eq_decide.2 (comes_iff hM h64 (by omega))
 ·refine decide_eq_false fun hc=>?_
  have hc:=(comes_iff hM h64 hk2).1 hc
  have hn:=rawL_none (F:=F) hk
  cases hc with
  | one h=>rw[hn] at h;cases h
  | step h t=>rw[hn] at h;cases h
structure Ns11 (d:Nd):Prop where
 kn:d.kn < 400
 t:d.t.size < 8020
structure Ts11 (t:Tr):Prop where
 n:t.n < 400
 ns:∀ nd∈t.ns,Ns11 nd
structure Ds11 (d:Df):Prop where
 name:d.name.size < 8020
 t:Ts11 d.t
structure N1 (t:Tr) (x:Nat×Nat):Prop where
 j:x.2≤t.n
 n:x.1≤2000
 len:x.1 < 400→t.n < 400
 small:x.1 < 400→∀ i (h:i < t.ns.length),i < x.2→Ns11 t.ns[i]
structure N2 (g:Gr) (x:Nat×Nat):Prop where
 k:x.2≤g.n
 n:x.1≤2000
 small:x.1 < 400→x.2≤x.1∧∀ i (h:i < g.ds.length),i < x.2→Ds11 g.ds[i]
structure N3 (g:Gr) (t:Tr) (k:Nat) (x:Nat×Nat):Prop where
 j:x.2≤t.n
 n:x.1≤2000
 small:x.1 < 400→t.n < 400∧k+1≤x.1∧(∀ i (h:i < g.ds.length),i < k→Ds11 g.ds[i])∧(∀ h:k < g.ds.length,g.ds[k].name.size < 8020)∧∀ i (h:i < t.ns.length),i < x.2→Ns11 t.ns[i]
def iv (z:Int):List Value:=[.int .i64 z]
theorem may64 {deb:List Int} {g:Gr} (h:mayG deb g=0):g.n≤64:=by
 unfold mayG at h
 cases h1:decide ((g.n:Int)=0) with
 | true=>rw[h1] at h;simp at h
 | false=>
  rw[h1,cond_false] at h
  cases h2:okDefs g.ds with
  | false=>rw[h2] at h;simp at h
  | true=>
   rw[h2] at h
   cases h3:largeG deb g with
   | true=>rw[h3] at h;simp at h
   | false=>
    unfold largeG at h3
    simp only[Bool.or_eq_false_iff,decide_eq_false_iff_not] at h3
    omega
def IsLefts (deb:List Int) (g:Gr) (r:Int) (l:List Nat):Prop:=((mayG deb g≠0∨r < 0∨(g.n:Int)≤r)∧l=[])∨(mayG deb g=0∧∃ F k,r=(k:Nat)∧k < g.n∧IsFlow g.ds F∧l=refLefts g.ds F k)
def IsLoops (deb:List Int) (g:Gr) (l:List Nat):Prop:=(mayG deb g≠0∧l=[])∨(mayG deb g=0∧∃ F,IsFlow g.ds F∧l=refLoops g.ds F)
def IsLeft (deb:List Int) (g:Gr) (l:List Nat):Prop:=(mayG deb g≠0∧l=[])∨(mayG deb g=0∧∃ F,IsFlow g.ds F∧l=refLeft g.ds F)
theorem WLefts_is {I:GH} {deb:List Int} (hT:Tabs I deb) {g:Gr} (hg:g.ok I) (hkb:∀ d∈g.ds,KB d.t) (r:Int):Spec Tryz.prog 26 [g.val,.int .i64 r] I [] fun v I' M'=>(∀ b o,I b=some o→I' b=some o) ∧
  ∃ (os:OS) (l:List Nat),os.ok 1 (intsV l)∧v=os.val∧M'=os.blk 3++[]∧IsLefts deb g r l:=
 Spec.weakK (WLefts_spec hT hg hkb may64 r) fun v I' M' h=>by
  obtain⟨h1,os,l,h2,h3,h4,h5⟩:=h
  refine⟨h1,os,l,h2,h3,h4,?_⟩
  rcases h5 with h5 | ⟨hm,F,k,a,b,c,d⟩
  ·exact .inl h5
  ·have hM:=mayF_of hg.n hm
   have h64:=may64 hm
   have hgn:=hg.n
   exact .inr ⟨hm,F,k,a,b,c,by rw[d,rows_eq (by omega) (rawL_lt hM k)]⟩
theorem WLoops_is {I:GH} {deb:List Int} (hT:Tabs I deb) {g:Gr} (hg:g.ok I) (hkb:∀ d∈g.ds,KB d.t):Spec Tryz.prog 25 [g.val] I [] fun v I' M'=>(∀ b o,I b=some o→I' b=some o) ∧
  ∃ (os:OS) (l:List Nat),os.ok 1 (intsV l)∧v=os.val∧M'=os.blk 3++[]∧IsLoops deb g l:=
 Spec.weakK (WLoops_spec hT hg hkb may64) fun v I' M' h=>by
  obtain⟨h1,os,l,h2,h3,h4,h5⟩:=h
  refine⟨h1,os,l,h2,h3,h4,?_⟩
  rcases h5 with h5 | ⟨hm,F,c,d⟩
  ·exact .inl h5
  ·have hM:=mayF_of hg.n hm
   have h64:=may64 hm
   have hgn:=hg.n
   exact .inr ⟨hm,F,c,by rw[d,loops_eq hg hM (by omega)]⟩
theorem WLeft_is {I:GH} {deb:List Int} (hT:Tabs I deb) {g:Gr} (hg:g.ok I) (hkb:∀ d∈g.ds,KB d.t):Spec Tryz.prog 24 [g.val] I [] fun v I' M'=>(∀ b o,I b=some o→I' b=some o) ∧
  ∃ (os:OS) (l:List Nat),os.ok 1 (intsV l)∧v=os.val∧M'=os.blk 3++[]∧IsLeft deb g l:=
 Spec.weakK (WLeft_spec hT hg hkb may64) fun v I' M' h=>by
  obtain⟨h1,os,l,h2,h3,h4,h5⟩:=h
  refine⟨h1,os,l,h2,h3,h4,?_⟩
  rcases h5 with h5 | ⟨hm,F,c,d⟩
  ·exact .inl h5
  ·have hM:=mayF_of hg.n hm
   have h64:=may64 hm
   have hgn:=hg.n
   exact .inr ⟨hm,F,c,by rw[d,lefts_eq hM (by omega)]⟩
theorem workGo_ok {A:Nat→List Nat} {n:Nat} {l0:List Nat} (hA:∀ x,∀ y∈A x,y < n):∀ (f k:Nat) (l:List Nat),Work A n k l0 l→n+1≤f+k→Work A n (workGo A f k l).length l0 (workGo A f k l)
 | 0,k,l,h,hf=>by
  have:=h.len
  have:=h.k
  omega
 | f+1,k,l,h,hf=>by
  rw[workGo]
  cases hx:l[k]? with
  | none=>
   have h1:k=l.length:=by
    have:=h.k
    have:=List.getElem?_eq_none_iff.1 hx
    omega
   subst h1
   exact h
  | some x=>exact workGo_ok hA f (k+1) _ (h.next hA hx) (by omega)
theorem ComesL.congr {A B:Nat→List Nat} (h:∀ i k,k∈A i→k∈B i) {i k:Nat} (hc:ComesL A i k):ComesL B i k:=by
 induction hc with
 | one h1=>exact .one (h _ _ h1)
 | step h1 t ih=>exact .step (h _ _ h1) ih
theorem ComesL.trans {A:Nat→List Nat} {i j k:Nat} (h:ComesL A i j) (h':ComesL A j k):ComesL A i k:=by
 induction h with
 | one h=>exact .step h h'
 | step h t ih=>exact .step h (ih h')
theorem refLefts_mem {g:Gr} (hM:MayF g) {F:List Fl} {i k:Nat}:k∈refLefts g.ds F i ↔ k∈rawL g.ds F i:=by
 unfold refLefts
 rw[List.mem_filter]
 constructor
 ·rintro⟨-,h⟩
  simpa using h
 ·intro h
  exact⟨by simpa using rawL_lt hM i k h,by simpa using h⟩
theorem refLefts_comes {g:Gr} (hM:MayF g) {F:List Fl} {i k:Nat}:ComesL (refLefts g.ds F) i k ↔ ComesL (rawL g.ds F) i k:=
 ⟨ComesL.congr fun _ _ h=>(refLefts_mem hM).1 h,ComesL.congr fun _ _ h=>(refLefts_mem hM).2 h⟩
theorem refLefts_lt {ds:List Df} {F:List Fl} {i k:Nat} (h:k∈refLefts ds F i):k < ds.length:=by
 unfold refLefts at h
 simpa using (List.mem_filter.1 h).1
theorem refLefts_nodup (ds:List Df) (F:List Fl) (i:Nat):(refLefts ds F i).Nodup:=List.Nodup.sublist List.filter_sublist List.nodup_range
theorem Work.start {ds:List Df} {F:List Fl} (i:Nat):Work (refLefts ds F) ds.length 0 (refLefts ds F i) (refLefts ds F i):=
 ⟨refLefts_nodup ds F i,fun x hx=>refLefts_lt hx,fun _ h=>h,fun _ h=>.inl h,fun j x hj=>absurd hj (Nat.not_lt_zero _),Nat.zero_le _⟩
def leftC (ds:List Df) (F:List Fl):List Nat:=(List.range ds.length).filter fun i=>(workGo (refLefts ds F) (ds.length+1) 0 (refLefts ds F i)).contains i
open Classical in
theorem leftC_eq {g:Gr} (hM:MayF g) (F:List Fl):leftC g.ds F=refLeft g.ds F:=by
 unfold leftC refLeft
 refine List.filter_congr fun i _=>?_
 have h1:=workGo_ok (fun x y hy=>refLefts_lt hy) (g.ds.length+1) 0 _ (Work.start (ds:=g.ds) (F:=F) i) (by omega)
 have h2:=(h1.done i).trans (refLefts_comes hM)
 cases hc:(workGo (refLefts g.ds F) (g.ds.length+1) 0 (refLefts g.ds F i)).contains i with
 | true=>exact(decide_eq_true (h2.1 (by simpa using hc))).symm
 | false=>
  refine(decide_eq_false fun h=>?_).symm
  have:=h2.2 h
  rw[←List.contains_iff_mem,hc] at this
  cases this
theorem getD_set_true (s:List Bool) (i k:Nat) (hi:i < s.length):(s.set i true).getD k false=(decide (k=i) || s.getD k false):=by
 simp only[List.getD_eq_getElem?_getD,List.getElem?_set]
 by_cases e:i=k
 ·subst e
  simp[hi]
 ·have:¬ k=i:=fun h=>e h.symm
  simp[e,this]
structure RowIn (A:Nat→List Nat) (n:Nat) (s:List Bool):Prop where
 len:s.length=n
 acyc:∀ i,s.getD i false=true→∀ x,(x=i∨ComesL A i x)→¬ ComesL A x x
theorem RowIn.put {A:Nat→List Nat} {n:Nat} {s:List Bool} (h:RowIn A n s) {i:Nat} (hi:i < n) (hf:s.getD i false=false) (hl:∀ k∈A i,s.getD k false=true):RowIn A n (s.set i true):=by
 refine⟨by rw[List.length_set];exact h.len,fun j hj x hx=>?_⟩
 rw[getD_set_true _ _ _ (by rw[h.len];exact hi)] at hj
 by_cases e:j=i
 ·subst e
  have key:∀ y,ComesL A j y→¬ ComesL A y y:=fun y hy=>by
   cases hy with
   | one h1=>exact h.acyc y (hl _ h1) y (.inl rfl)
   | step h1 t=>exact h.acyc _ (hl _ h1) y (.inr t)
  rcases hx with rfl | hx
  ·intro hc
   exact key _ hc hc
  ·exact key _ hx
 ·rw[decide_eq_false e,Bool.false_or] at hj
  exact h.acyc j hj x hx
structure Round (A:Nat→List Nat) (n:Nat) (s0 s:List Bool) (i:Nat):Prop where
 sub:∀ k,s0.getD k false=true→s.getD k false=true
 got:∀ j,j < i→j < n→(∀ k∈A j,s0.getD k false=true)→s.getD j false=true
theorem Round.put {A:Nat→List Nat} {n:Nat} {s0 s:List Bool} {i:Nat} (h:Round A n s0 s i) (hi:i < s.length):Round A n s0 (s.set i true) (i+1):=by
 refine⟨fun k hk=>?_,fun j hj hn hl=>?_⟩
 ·rw[getD_set_true _ _ _ hi,h.sub k hk,Bool.or_true]
 ·rw[getD_set_true _ _ _ hi]
  by_cases e:j=i
  ·simp[e]
  ·rw[h.got j (by omega) hn hl,Bool.or_true]
open Classical in
noncomputable def flowG (ds:List Df):List Fl:=if h:∃ F,IsFlow ds F then h.choose else []
theorem flowG_eq {ds:List Df} {F:List Fl} (h:IsFlow ds F):flowG ds=F:=by
 have hx:∃ F,IsFlow ds F:=⟨F,h⟩
 unfold flowG
 rw[dif_pos hx]
 exact hx.choose_spec.unique h
def IsWhere (deb:List Int) (g:Gr) (r:Int×Int):Prop:=(mayG deb g≠0∧r=(0,mayG deb g))∨(mayG deb g=0∧∃ F,IsFlow g.ds F∧r=if 0 < (refLeft g.ds F).length then ((((refLeft g.ds F).headD 0:Nat):Int),42) else if 0 < (refLoops g.ds F).length then ((((refLoops g.ds F).headD 0:Nat):Int),43) else (0,0))
theorem WWhere_is {I:GH} {deb:List Int} (hT:Tabs I deb) {g:Gr} (hg:g.ok I) (hkb:∀ d∈g.ds,KB d.t):Spec Tryz.prog 20 [g.val] I [] fun v I' M'=>(∀ b o,I b=some o→I' b=some o)∧M'=[] ∧
  ∃ r:Int×Int,v=.tuple #[.int .i64 r.1,.int .i64 r.2]∧IsWhere deb g r:=
 Spec.weakK (WWhere_spec hT hg hkb may64) fun v I' M' h=>by
  obtain⟨h1,h2,r,h3,h5⟩:=h
  refine⟨h1,h2,r,h3,?_⟩
  rcases h5 with h5 | ⟨hm,F,c,d⟩
  ·exact .inl h5
  ·have hM:=mayF_of hg.n hm
   have h64:=may64 hm
   have hgn:=hg.n
   refine .inr ⟨hm,F,c,?_⟩
   rw[d,whereW,if_neg (by simp),lefts_eq hM (by omega),loops_eq hg hM (by omega)]
theorem WCheck_is {I:GH} {deb:List Int} (hT:Tabs I deb) {g:Gr} (hg:g.ok I) (hkb:∀ d∈g.ds,KB d.t):Spec Tryz.prog 21 [g.val] I [] fun v I' M'=>(∀ b o,I b=some o→I' b=some o)∧M'=[] ∧
  ∃ r:Int×Int,v=.int .i64 r.2∧IsWhere deb g r:=by
 refine spec_of_V [] TryzEOK Tryz.func21 rfl rfl rfl ?_
 intro B h0
 refine CallOb.mk [] [] _ (.refl _) (WWhere_is hT hg hkb) ?_
 rintro v I1 N - ⟨hI1,rfl,r,rfl,h⟩
 exact⟨_,_,.refl,hI1,rfl,r,rfl,h⟩
section
variable {I:GH} {M0:List Blk} {deb:List Int}
theorem WWhere_own (hT:Tabs I deb) {g:Gr} (hg:g.ok I) (hkb:∀ d∈g.ds,KB d.t):Spec Tryz.prog 20 [g.val] I M0 fun v I' M'=>(∀ b o,I b=some o→I' b=some o)∧M'=M0∧∃ r:Int×Int,v=.tuple #[.int .i64 r.1,.int .i64 r.2]∧IsWhere deb g r:=by
 refine Spec.weakK (Spec.frame (WWhere_is hT hg hkb)) ?_
 rintro v J M ⟨M',rfl,-,h1,-,rfl,r,rfl,h2⟩
 exact⟨h1,rfl,r,rfl,h2⟩
theorem WCheck_own (hT:Tabs I deb) {g:Gr} (hg:g.ok I) (hkb:∀ d∈g.ds,KB d.t):Spec Tryz.prog 21 [g.val] I M0 fun v I' M'=>(∀ b o,I b=some o→I' b=some o)∧M'=M0∧∃ r:Int×Int,v=.int .i64 r.2∧IsWhere deb g r:=by
 refine Spec.weakK (Spec.frame (WCheck_is hT hg hkb)) ?_
 rintro v J M ⟨M',rfl,-,h1,-,rfl,r,rfl,h2⟩
 exact⟨h1,rfl,r,rfl,h2⟩
theorem WLefts_own (hT:Tabs I deb) {g:Gr} (hg:g.ok I) (hkb:∀ d∈g.ds,KB d.t) (r:Int):Spec Tryz.prog 26 [g.val,.int .i64 r] I M0 fun v I' M'=>(∀ b o,I b=some o→I' b=some o) ∧
  ∃ (os:OS) (l:List Nat),os.ok 1 (intsV l)∧v=os.val∧M'=os.blk 3++M0∧IsLefts deb g r l:=by
 refine Spec.weakK (Spec.frame (WLefts_is hT hg hkb r)) ?_
 rintro v J M ⟨M',rfl,-,h1,-,os,l,h2,rfl,rfl,h3⟩
 exact⟨h1,os,l,h2,rfl,by rw[List.append_nil],h3⟩
theorem WLoops_own (hT:Tabs I deb) {g:Gr} (hg:g.ok I) (hkb:∀ d∈g.ds,KB d.t):Spec Tryz.prog 25 [g.val] I M0 fun v I' M'=>(∀ b o,I b=some o→I' b=some o) ∧
  ∃ (os:OS) (l:List Nat),os.ok 1 (intsV l)∧v=os.val∧M'=os.blk 3++M0∧IsLoops deb g l:=by
 refine Spec.weakK (Spec.frame (WLoops_is hT hg hkb)) ?_
 rintro v J M ⟨M',rfl,-,h1,-,os,l,h2,rfl,rfl,h3⟩
 exact⟨h1,os,l,h2,rfl,by rw[List.append_nil],h3⟩
theorem WLeft_own (hT:Tabs I deb) {g:Gr} (hg:g.ok I) (hkb:∀ d∈g.ds,KB d.t):Spec Tryz.prog 24 [g.val] I M0 fun v I' M'=>(∀ b o,I b=some o→I' b=some o) ∧
  ∃ (os:OS) (l:List Nat),os.ok 1 (intsV l)∧v=os.val∧M'=os.blk 3++M0∧IsLeft deb g l:=by
 refine Spec.weakK (Spec.frame (WLeft_is hT hg hkb)) ?_
 rintro v J M ⟨M',rfl,-,h1,-,os,l,h2,rfl,rfl,h3⟩
 exact⟨h1,os,l,h2,rfl,by rw[List.append_nil],h3⟩
end
structure NdC where
 k:Int
 s0:Int
 s1:Int
 s2:Int
 s3:Int
 t:List UInt8
 lo:Int
 hi:Int
 kids:List Int
def NdC.nd (c:NdC) (a:Option Addr) (n k:Nat):Nd:=⟨c.k,c.s0,c.s1,c.s2,c.s3,⟨c.t.toArray⟩,c.lo,c.hi,a,n,k,c.kids⟩
inductive NdsR:List NdC→List Nd→Prop
 | nil:NdsR [] []
 | cons {c cs ns} (a:Option Addr) (n k:Nat) (t:NdsR cs ns):NdsR (c::cs) (c.nd a n k::ns)
structure TrC where
 ns:List NdC
 root:Int
structure TrR (c:TrC) (t:Tr):Prop where
 ns:NdsR c.ns t.ns
 root:t.root=c.root
structure DfC where
 name:List UInt8
 t:TrC
inductive DfsR:List DfC→List Df→Prop
 | nil:DfsR [] []
 | cons {c cs ds} {t:Tr} (h:TrR c.t t) (k:DfsR cs ds):DfsR (c::cs) (⟨⟨c.name.toArray⟩,t⟩::ds)
def okIk:Int→Bool
 | .ofNat k=>Nat.ble k 9223372036854775807
 | .negSucc k=>Nat.ble k 9223372036854775807
def okU:Int→Bool
 | .ofNat k=>Nat.ble k 18446744073709551615
 | .negSucc _=>false
def okB:Int→Bool
 | .ofNat k=>Nat.ble k 255
 | .negSucc _=>false
theorem okIk_eq {x:Int} (h:okIk x=true):i64ok x:=by
 cases x with
 | ofNat k=>
  have:=Nat.le_of_ble_eq_true h
  exact⟨by simp only[Int.ofNat_eq_natCast];omega,by simp only[Int.ofNat_eq_natCast];omega⟩
 | negSucc k=>
  have:=Nat.le_of_ble_eq_true h
  exact⟨by omega,by omega⟩
theorem okU_eq {x:Int} (h:okU x=true):u64ok x:=by
 cases x with
 | ofNat k=>
  have:=Nat.le_of_ble_eq_true h
  exact⟨by simp,by simp;omega⟩
 | negSucc k=>cases h
theorem okB_eq {x:Int} (h:okB x=true):0≤x∧x < 256:=by
 cases x with
 | ofNat k=>
  have:=Nat.le_of_ble_eq_true h
  exact⟨by simp,by simp;omega⟩
 | negSucc k=>cases h
noncomputable def asU8:EV→Option Int
 | .i .u8 n=>cnd (okB n) (some n) none
 | _=>none
noncomputable def asU64:EV→Option Int
 | .i .u64 n=>cnd (okU n) (some n) none
 | _=>none
noncomputable def asI64:EV→Option Int
 | .i .i64 n=>cnd (okIk n) (some n) none
 | _=>none
noncomputable def asS:EV→Option (List UInt8)
 | .s l=>cnd (Nat.ble l.length 140737488355328) (some l) none
 | _=>none
section
variable {D:Nm} {v:EV} {u:Value}
theorem asU8_ok {n:Int} (h:asU8 v=some n) (hv:VR D v u):u=.int .u8 n∧0≤n∧n < 256:=by
 unfold asU8 at h
 split at h
 ·obtain⟨h1,h2⟩:=cnd_some h
  cases h2
  simp only[VR] at hv
  exact⟨hv,okB_eq h1⟩
 ·cases h
theorem asU64_ok {n:Int} (h:asU64 v=some n) (hv:VR D v u):u=.int .u64 n∧u64ok n:=by
 unfold asU64 at h
 split at h
 ·obtain⟨h1,h2⟩:=cnd_some h
  cases h2
  simp only[VR] at hv
  exact⟨hv,okU_eq h1⟩
 ·cases h
theorem asI64_ok {n:Int} (h:asI64 v=some n) (hv:VR D v u):u=.int .i64 n∧i64ok n:=by
 unfold asI64 at h
 split at h
 ·obtain⟨h1,h2⟩:=cnd_some h
  cases h2
  simp only[VR] at hv
  exact⟨hv,okIk_eq h1⟩
 ·cases h
theorem asS_ok {l:List UInt8} (h:asS v=some l) (hv:VR D v u):u=.string ⟨l.toArray⟩∧(⟨l.toArray⟩:ByteArray).size≤140737488355328:=by
 unfold asS at h
 split at h
 ·obtain⟨h1,h2⟩:=cnd_some h
  cases h2
  simp only[VR] at hv
  exact⟨hv,Nat.le_of_ble_eq_true h1⟩
 ·cases h
end
noncomputable def readS {R:Type} (G:GT) (m:Tri Ent) (x:EV) (size b:Nat) (K:List EV→Option R):Option R:=match x with
 | .sn=>K []
 | .so=>K []
 | .sl id off n c=>cnd (Nat.ble n c) (cnd (Nat.ble (Nat.mul n b) 140737488355328) (loadE G m (.p id off) (Nat.mul n size) K) none) none
 | .sx id off e n=>cnd (Nat.ble (Nat.mul n b) 140737488355328) (loadE G m (.p id off) (Nat.mul n size) K) none
 | _=>none
noncomputable def ints:List EV→Option (List Int)
 | []=>some []
 | v::l=>opn (asI64 v) none fun n=>opn (ints l) none fun r=>some (n::r)
noncomputable def readNds (G:GT) (m:Tri Ent):List EV→Option (List NdC)
 | []=>some []
 | a::b::c::d::e::f::g::h::x::l=>opn (asU8 a) none fun a=>opn (asU64 b) none fun b=>opn (asU64 c) none fun c=>opn (asU64 d) none fun d=>opn (asU64 e) none fun e=>opn (asS f) none fun f=>opn (asI64 g) none fun g=>opn (asI64 h) none fun h=>
  opn (readS G m x 1 8 ints) none fun ks=>opn (readNds G m l) none fun ns=>some (⟨a,b,c,d,e,f,g,h,ks⟩::ns)
 | _=>none
noncomputable def readTr (G:GT) (m:Tri Ent) (x r:EV):Option TrC:=opn (readS G m x 9 96 (readNds G m)) none fun ns=>opn (asI64 r) none fun r=>some ⟨ns,r⟩
noncomputable def readDfs (G:GT) (m:Tri Ent):List EV→Option (List DfC)
 | []=>some []
 | a::x::r::l=>opn (asS a) none fun a=>opn (readTr G m x r) none fun t=>opn (readDfs G m l) none fun ds=>some (⟨a,t⟩::ds)
 | _=>none
noncomputable def readGr (G:GT) (m:Tri Ent):EV→Option (List DfC)
 | .a [x]=>readS G m x 3 48 (readDfs G m)
 | _=>none
section
variable {Y:RK} {D:Nm} {m:Me} {I J:GH} {M:List Blk}
theorem readS_ok {R:Type} (h:MS Y D m I M) (hJ:Frz I M J) {x:EV} {u:Value} (hx:VR D x u) {size b:Nat} {K:List EV→Option R} {r:R} (hr:readS Y.G m.t x size b K=some r) :
  ∃ a n c l vs,u=.slice a n c∧RS J a n c size b vs∧VRs D l vs∧K l=some r:=by
 unfold readS at hr
 split at hr
 ·simp only[VR] at hx
  exact⟨none,0,0,[],[],hx,⟨by simp,⟨Nat.le_refl _,by omega⟩,.inl rfl⟩,by simp[VRs],hr⟩
 ·simp only[VR] at hx
  obtain⟨a,c,hx⟩:=hx
  exact⟨some a,0,c,[],[],hx,⟨by simp,⟨Nat.zero_le _,by omega⟩,.inl rfl⟩,by simp[VRs],hr⟩
 ·rename_i id off n c
  obtain⟨h1,hr⟩:=cnd_some hr
  obtain⟨h2,hr⟩:=cnd_some hr
  simp only[VR] at hx
  obtain⟨a,ha,hx⟩:=hx
  obtain⟨ad,l,vs,e1,e2,e3,e4⟩:=loadE_ok h (x:=.p id off) (u:=.pointer (some ⟨a.b,a.o+off,none⟩)) (by simp only[VR];exact⟨a,ha,rfl⟩) hr
  cases e1
  obtain⟨g1,cs,T,f,g2,g3,g4⟩:=e2
  exact⟨_,n,c,l,vs,hx,⟨g4,⟨Nat.le_of_ble_eq_true h1,Nat.le_of_ble_eq_true h2⟩,.inr ⟨_,rfl,rfl,cs,T,f,hJ.kn _ _ g2,g3⟩⟩,e3,e4⟩
 ·rename_i id off e n
  obtain⟨h2,hr⟩:=cnd_some hr
  simp only[VR] at hx
  obtain⟨a,ha,hc,hx⟩:=hx
  obtain⟨ad,l,vs,e1,e2,e3,e4⟩:=loadE_ok h (x:=.p id off) (u:=.pointer (some ⟨a.b,a.o+off,none⟩)) (by simp only[VR];exact⟨a,ha,rfl⟩) hr
  cases e1
  obtain⟨g1,cs,T,f,g2,g3,g4⟩:=e2
  exact⟨_,n,a.c - e,l,vs,hx,⟨g4,⟨by omega,Nat.le_of_ble_eq_true h2⟩,.inr ⟨_,rfl,rfl,cs,T,f,hJ.kn _ _ g2,g3⟩⟩,e3,e4⟩
 ·cases hr
theorem ints_ok:∀ {l:List EV} {vs:List Value} {ks:List Int},ints l=some ks→VRs D l vs→vs=ks.map (Value.int .i64 ·)∧∀ x∈ks,i64ok x
 | [],vs,ks,h,hv=>by
  cases h
  simp only[VRs] at hv
  exact⟨hv,by simp⟩
 | v::l,vs,ks,h,hv=>by
  unfold ints at h
  obtain⟨n,h1,h⟩:=opn_eq h
  obtain⟨r,h2,h⟩:=opn_eq h
  cases h
  simp only[VRs] at hv
  obtain⟨x,xs,g1,g2,rfl⟩:=hv
  obtain⟨rfl,e1⟩:=asI64_ok h1 g1
  obtain⟨rfl,e2⟩:=ints_ok h2 g2
  exact⟨rfl,fun x hx=>(List.mem_cons.1 hx).elim (fun e=>e ▸ e1) (e2 x)⟩
theorem readNds_ok (h:MS Y D m I M) (hJ:Frz I M J):∀ (l:List EV) {vs:List Value} {cs:List NdC},readNds Y.G m.t l=some cs→VRs D l vs→∃ ns:List Nd,vs=ns.flatMap Nd.cells∧NdsR cs ns∧∀ d∈ns,d.ok J
 | [],vs,cs,hr,hv=>by
  cases hr
  simp only[VRs] at hv
  exact⟨[],hv,.nil,by simp⟩
 | a::b::c::d::e::f::g::i::x::l,vs,cs,hr,hv=>by
  unfold readNds at hr
  obtain⟨a',h1,hr⟩:=opn_eq hr
  obtain⟨b',h2,hr⟩:=opn_eq hr
  obtain⟨c',h3,hr⟩:=opn_eq hr
  obtain⟨d',h4,hr⟩:=opn_eq hr
  obtain⟨e',h5,hr⟩:=opn_eq hr
  obtain⟨f',h6,hr⟩:=opn_eq hr
  obtain⟨g',h7,hr⟩:=opn_eq hr
  obtain⟨i',h8,hr⟩:=opn_eq hr
  obtain⟨ks,h9,hr⟩:=opn_eq hr
  obtain⟨ns',h10,hr⟩:=opn_eq hr
  cases hr
  simp only[VRs] at hv
  obtain⟨_,_,k1,⟨_,_,k2,⟨_,_,k3,⟨_,_,k4,⟨_,_,k5,⟨_,_,k6,⟨_,_,k7,⟨_,_,k8,⟨_,_,k9,k10,rfl⟩,rfl⟩,rfl⟩,rfl⟩,rfl⟩,rfl⟩,rfl⟩,rfl⟩,rfl⟩:=hv
  obtain⟨rfl,e1⟩:=asU8_ok h1 k1
  obtain⟨rfl,e2⟩:=asU64_ok h2 k2
  obtain⟨rfl,e3⟩:=asU64_ok h3 k3
  obtain⟨rfl,e4⟩:=asU64_ok h4 k4
  obtain⟨rfl,e5⟩:=asU64_ok h5 k5
  obtain⟨rfl,e6⟩:=asS_ok h6 k6
  obtain⟨rfl,e7⟩:=asI64_ok h7 k7
  obtain⟨rfl,e8⟩:=asI64_ok h8 k8
  obtain⟨ka,kn,kc,li,vi,rfl,e9,e10,e11⟩:=readS_ok h hJ k9 h9
  obtain⟨rfl,e12⟩:=ints_ok e11 e10
  obtain⟨ns,rfl,e13,e14⟩:=readNds_ok h hJ l h10 k10
  refine⟨NdC.nd ⟨a',b',c',d',e',f',g',i',ks⟩ ka kn kc::ns,rfl,.cons ka kn kc e13,fun y hy=>?_⟩
  rcases List.mem_cons.1 hy with rfl | hy
  ·exact⟨e1,e2,e3,e4,e5,Nat.le_trans e6 (by decide),e7,e8,e9,e12⟩
  ·exact e14 y hy
theorem readTr_ok (h:MS Y D m I M) (hJ:Frz I M J) {x r:EV} {u w:Value} {c:TrC} (hr:readTr Y.G m.t x r=some c) (hx:VR D x u) (hw:VR D r w):∃ t:Tr,u=.slice t.a t.n t.c∧w=.int .i64 t.root∧t.ok J∧TrR c t:=by
 unfold readTr at hr
 obtain⟨ns,h1,hr⟩:=opn_eq hr
 obtain⟨k,h2,hr⟩:=opn_eq hr
 cases hr
 obtain⟨rfl,e1⟩:=asI64_ok h2 hw
 obtain⟨a,n,c,l,vs,rfl,e2,e3,e4⟩:=readS_ok h hJ hx h1
 obtain⟨ds,rfl,e5,e6⟩:=readNds_ok h hJ l e4 e3
 exact⟨⟨ds,a,n,c,k⟩,rfl,rfl,⟨e2,e6,e1⟩,⟨e5,rfl⟩⟩
theorem readDfs_ok (h:MS Y D m I M) (hJ:Frz I M J):∀ (l:List EV) {vs:List Value} {cs:List DfC},readDfs Y.G m.t l=some cs→VRs D l vs→∃ ds:List Df,vs=ds.flatMap Df.cells∧DfsR cs ds∧∀ d∈ds,d.ok J
 | [],vs,cs,hr,hv=>by
  cases hr
  simp only[VRs] at hv
  exact⟨[],hv,.nil,by simp⟩
 | a::x::r::l,vs,cs,hr,hv=>by
  unfold readDfs at hr
  obtain⟨a',h1,hr⟩:=opn_eq hr
  obtain⟨t',h2,hr⟩:=opn_eq hr
  obtain⟨ds',h3,hr⟩:=opn_eq hr
  cases hr
  simp only[VRs] at hv
  obtain⟨_,_,k1,⟨_,_,k2,⟨_,_,k3,k4,rfl⟩,rfl⟩,rfl⟩:=hv
  obtain⟨rfl,e1⟩:=asS_ok h1 k1
  obtain⟨t,rfl,rfl,e2,e3⟩:=readTr_ok h hJ h2 k2 k3
  obtain⟨ds,rfl,e4,e5⟩:=readDfs_ok h hJ l h3 k4
  refine⟨⟨⟨a'.toArray⟩,t⟩::ds,rfl,.cons (c:=⟨a',t'⟩) e3 e4,fun y hy=>?_⟩
  rcases List.mem_cons.1 hy with rfl | hy
  ·exact⟨e1,e2⟩
  ·exact e5 y hy
theorem readGr_ok (h:MS Y D m I M) (hJ:Frz I M J) {x:EV} {u:Value} {cs:List DfC} (hr:readGr Y.G m.t x=some cs) (hx:VR D x u):∃ g:Gr,u=g.val∧g.ok J∧DfsR cs g.ds:=by
 unfold readGr at hr
 split at hr
 ·simp only[VR,VRs] at hx
  obtain⟨_,⟨y,_,hx,rfl,rfl⟩,rfl⟩:=hx
  obtain⟨a,n,c,l,vs,rfl,e2,e3,e4⟩:=readS_ok h hJ hx hr
  obtain⟨ds,rfl,e5,e6⟩:=readDfs_ok h hJ l e4 e3
  exact⟨⟨ds,a,n,c⟩,rfl,⟨e2,e6⟩,e5⟩
 ·cases hr
end
noncomputable def grOf (f g:Nat) (text:List UInt8):Option (List DfC×Int×IntKind×Int):=opn (callF YK (E_code YK f) g [.s text] ⟨.nil,0⟩) none fun p=>match p.1 with
 | .t [x,.i .i64 a,.i k e]=>opn (readGr GTs p.2.t x) none fun c=>some (c,a,k,e)
 | _=>none
theorem grOf_spec {I:GH} (hT:Tabs I debL) {f g:Nat} {text:List UInt8} {c:List DfC} {a:Int} {k:IntKind} {e:Int} (h:grOf f g text=some (c,a,k,e)) :
  Spec Tryz.prog g [.string ⟨text.toArray⟩] I [] fun r J M''=>M''=[]∧(∀ b o,I b=some o→J b=some o)∧∃ G:Gr,r=.tuple #[G.val,.int .i64 a,.int k e]∧G.ok J∧DfsR c G.ds:=by
 unfold grOf at h
 obtain⟨⟨v,m'⟩,h1,h⟩:=opn_eq h
 refine Spec.weakK (reckonX hT h1 (us:=[.string ⟨text.toArray⟩]) (by simp[VRs,VR])) ?_
 rintro r J M'' ⟨rfl,hle,I',M',D',hv,hm,hJ⟩
 refine⟨rfl,hle,?_⟩
 simp only at h
 split at h
 ·obtain⟨c',h2,h⟩:=opn_eq h
  cases h
  simp only[VR,VRs] at hv
  obtain⟨_,⟨u,_,hu,⟨_,_,rfl,⟨_,_,rfl,rfl,rfl⟩,rfl⟩,rfl⟩,rfl⟩:=hv
  obtain⟨G,rfl,g1,g2⟩:=readGr_ok hm hJ h2 hu
  exact⟨G,rfl,g1,g2⟩
 ·cases h
def NdC.pl (c:NdC):Nd:=c.nd none 0 0
def TrC.tr (c:TrC):Tr:=⟨c.ns.map NdC.pl,none,c.ns.length,0,c.root⟩
def DfC.df (c:DfC):Df:=⟨⟨c.name.toArray⟩,c.t.tr⟩
def grC (cs:List DfC):Gr:=⟨cs.map DfC.df,none,cs.length,0⟩
theorem NdsR.ct {cs:List NdC} {ns:List Nd} (h:NdsR cs ns):ns.map Nd.ct=cs.map NdC.pl:=by
 induction h with
 | nil=>rfl
 | cons a n k t ih=>rw[List.map_cons,List.map_cons,ih];rfl
theorem NdsR.len {cs:List NdC} {ns:List Nd} (h:NdsR cs ns):ns.length=cs.length:=by
 induction h with
 | nil=>rfl
 | cons a n k t ih=>simp[ih]
theorem TrR.ct {I:GH} {c:TrC} {t:Tr} (h:TrR c t) (ht:t.ok I):t.ct=c.tr:=by
 unfold Tr.ct TrC.tr
 rw[h.ns.ct,h.root,←ht.n,h.ns.len]
theorem DfsR.ct {I:GH} {cs:List DfC} {ds:List Df} (h:DfsR cs ds) (hd:∀ d∈ds,d.ok I):ds.map Df.ct=cs.map DfC.df:=by
 induction h with
 | nil=>rfl
 | cons h k ih=>
  rw[List.map_cons,List.map_cons,ih fun d hd'=>hd d (.tail _ hd')]
  congr 1
  unfold Df.ct DfC.df
  rw[h.ct (hd _ (.head _)).t]
theorem DfsR.len {cs:List DfC} {ds:List Df} (h:DfsR cs ds):ds.length=cs.length:=by
 induction h with
 | nil=>rfl
 | cons h k ih=>simp[ih]
theorem gr_ct {I:GH} {cs:List DfC} {g:Gr} (h:DfsR cs g.ds) (hg:g.ok I):g.ct=grC cs:=by
 unfold Gr.ct grC
 rw[h.ct hg.ds,←hg.n,h.len]
def kbC (c:TrC):Bool:=c.ns.all fun n=>decide (n.kids.length≤1000)
theorem kb_of {I:GH} {c:TrC} {t:Tr} (h:TrR c t) (ht:t.ok I) (hk:kbC c=true):KB t:=fun n hn=>by
 have h1:=(ht.ns n hn).kn
 have h2:n.ct∈c.ns.map NdC.pl:=by
  rw[←h.ns.ct]
  exact List.mem_map.2 ⟨n,hn,rfl⟩
 obtain⟨x,hx,e⟩:=List.mem_map.1 h2
 have h3:=of_decide_eq_true (List.all_eq_true.1 hk x hx)
 have h4:x.kids=n.kids:=congrArg Nd.kids e
 rw[h4] at h3
 omega
theorem kbs_of {I:GH} {cs:List DfC} {ds:List Df} (h:DfsR cs ds) (hd:∀ d∈ds,d.ok I) (hk:(cs.all fun d=>d.t.ns.all fun n=>decide (n.kids.length≤1000))=true):∀ d∈ds,KB d.t:=by
 induction h with
 | nil=>intro d hd;cases hd
 | cons h k ih=>
  simp only[List.all_cons,Bool.and_eq_true] at hk
  intro d hm
  rcases List.mem_cons.1 hm with rfl | hm
  ·exact kb_of h (hd _ (.head _)).t hk.1
  ·exact ih (fun d hd'=>hd d (.tail _ hd')) (by simpa using hk.2) d hm
theorem rawL_ct (ds:List Df) (F:List Fl) (i:Nat):rawL (ds.map Df.ct) F i=rawL ds F i:=by
 unfold rawL
 rw[List.getElem?_map,placesL_ct]
 cases ds[i]? with
 | none=>rfl
 | some d=>
  show (leftAt (placesL ds) F (d.t.ns.map Nd.ct) d.t.root).2=_
  rw[left_ct]
theorem endL_ct (ds:List Df) (F:List Fl) (i:Nat):endL (ds.map Df.ct) F i=endL ds F i:=by
 unfold endL
 rw[List.getElem?_map,placesL_ct]
 cases ds[i]? with
 | none=>rfl
 | some d=>
  show (endAt (placesL ds) F (d.t.ns.map Nd.ct) d.t.root).2=_
  rw[end_ct]
theorem refLefts_ct (ds:List Df) (F:List Fl):refLefts (ds.map Df.ct) F=refLefts ds F:=by
 funext i
 unfold refLefts
 rw[List.length_map,rawL_ct]
theorem refLoops_ct (ds:List Df) (F:List Fl):refLoops (ds.map Df.ct) F=refLoops ds F:=by
 unfold refLoops
 rw[List.length_map]
 exact List.filter_congr fun i _=>endL_ct ds F i
theorem leftC_ct (ds:List Df) (F:List Fl):leftC (ds.map Df.ct) F=leftC ds F:=by
 unfold leftC
 rw[List.length_map,refLefts_ct]
theorem isFlow_of_ct {ds:List Df} {l:List Fl} (h:IsFlow (ds.map Df.ct) l):IsFlow ds l:=by
 refine⟨by rw[h.len,List.length_map],fun i hi=>?_,fun m hm hc=>?_⟩
 ·have:=h.fix i (by simpa using hi)
  rwa [placesL_ct,List.getElem_map,bodyF_ct] at this
 ·refine h.least m (by rw[hm,List.length_map]) fun i hi=>?_
  rw[placesL_ct,List.getElem_map,bodyF_ct]
  exact hc i (by simpa using hi)
def whereC (ds:List Df) (F:List Fl):Int×Int:=bif decide (0 < (leftC ds F).length) then ((((leftC ds F).headD 0:Nat):Int),42) else bif decide (0 < (refLoops ds F).length) then ((((refLoops ds F).headD 0:Nat):Int),43) else (0,0)
structure Known13 (cs:List DfC) (F:List Fl):Prop where
 may:mayG debL (grC cs)=0
 flow:IsFlow (grC cs).ds F
 kb:(cs.all fun d=>d.t.ns.all fun n=>decide (n.kids.length≤1000))=true
theorem Known13.of {I:GH} {cs:List DfC} {F:List Fl} (hK:Known13 cs F) {g:Gr} (hg:g.ok I) (hR:DfsR cs g.ds):mayG debL g=0∧IsFlow g.ds F∧(∀ d∈g.ds,KB d.t):=by
 have hct:=gr_ct hR hg
 have hds:g.ds.map Df.ct=(grC cs).ds:=congrArg Gr.ds hct
 have hm:mayG debL g=0:=by rw[←mayG_ct,hct];exact hK.may
 refine⟨hm,?_,kbs_of hR hg.ds hK.kb⟩
 have:=hK.flow
 rw[←hds] at this
 exact isFlow_of_ct this
theorem known_where {I:GH} {cs:List DfC} {F:List Fl} (hK:Known13 cs F) {g:Gr} (hg:g.ok I) (hR:DfsR cs g.ds) {r:Int×Int} (h:IsWhere debL g r):r=whereC (grC cs).ds F:=by
 obtain⟨hm,hF,-⟩:=hK.of hg hR
 have hds:g.ds.map Df.ct=(grC cs).ds:=congrArg Gr.ds (gr_ct hR hg)
 have hM:=mayF_of hg.n hm
 rcases h with ⟨a,-⟩ | ⟨-,F',hF',rfl⟩
 ·exact absurd hm a
 ·obtain rfl:=hF.unique hF'
  rw[←hds,whereC,leftC_ct,refLoops_ct,leftC_eq hM]
  by_cases h1:0 < (refLeft g.ds F).length
  ·rw[if_pos h1,decide_eq_true h1,cond_true]
  ·rw[if_neg h1,decide_eq_false h1,cond_false]
   by_cases h2:0 < (refLoops g.ds F).length
   ·rw[if_pos h2,decide_eq_true h2,cond_true]
   ·rw[if_neg h2,decide_eq_false h2,cond_false]
def itF (ds:List Df):Nat→List Fl→List Fl
 | 0,L=>L
 | k+1,L=>itF ds k (ds.map (bodyF (placesL ds) L))
theorem itF_ok {ds:List Df}:∀ (k:Nat) {L:List Fl},PreF ds L→ds.map (bodyF (placesL ds) (itF ds k L))=itF ds k L→IsFlow ds (itF ds k L)
 | 0,L,hp,h=>by
  refine⟨hp.len,fun i hi=>?_,hp.least⟩
  have:=map_getD (f:=bodyF (placesL ds) L) hi
  have h1:ds.map (bodyF (placesL ds) L)=L:=h
  rw[h1] at this
  exact this
 | k+1,L,hp,h=>itF_ok k hp.all.1 h
def flC (cs:List DfC) (k:Nat):List Fl:=itF (grC cs).ds k (List.replicate (grC cs).ds.length fl0)
def chk13 (cs:List DfC) (F:List Fl) (k:Nat):Bool:=decide (mayG debL (grC cs)=0) && (decide (flC cs k=F) && (decide ((grC cs).ds.map (bodyF (placesL (grC cs).ds) F)=F) && cs.all fun d=>d.t.ns.all fun n=>decide (n.kids.length≤1000)))
theorem known13_of {cs:List DfC} {F:List Fl} {k:Nat} (h:chk13 cs F k=true):Known13 cs F:=by
 simp only[chk13,Bool.and_eq_true,decide_eq_true_eq] at h
 obtain⟨h1,h2,h3,h4⟩:=h
 refine⟨h1,?_,by simpa using h4⟩
 have:=itF_ok k (PreF.start (grC cs).ds)
 unfold flC at h2
 rw[h2] at this
 exact this h3
def WhOk (c:List UInt8×Int×Int):Prop:=∀ {I:GH} (hT:Tabs I debL),Spec Tryz.prog 30 [.string ⟨c.1.toArray⟩,.int .i64 c.2.1,.int .i64 c.2.2] I [] fun v J M''=>v=.bool true∧(∀ b o,I b=some o→J b=some o)∧M''=[]
set_option maxHeartbeats 4000000 in
theorem whOk {fu:Nat} {s:List UInt8} {cs:List DfC} {a1:Int} (hgr:grOf fu 32 s=some (cs,a1,.i64,0)) {F:List Fl} {k:Nat} (hc:chk13 cs F k=true) {r1 r2:Int} (hr:whereC (grC cs).ds F=(r1,r2)):WhOk (s,r1,r2):=by
 intro I hT
 have hK:=known13_of hc
 refine spec_of_V [] TryzEOK Tryz.func30 rfl rfl rfl ?_
 intro B h0
 refine CallOb.mk [] [] _ (.refl _) (grOf_spec hT hgr) ?_
 rintro v J1 N - ⟨rfl,hJ1,g,rfl,hg,hR⟩
 have hT1:=hT.mono hJ1
 obtain⟨hm,hF,hkb⟩:=hK.of hg hR
 refine CallOb.whole _ (WWhere_own hT1 hg hkb) ?_
 rintro v J2 N - ⟨hJ2,hN,r,rfl,hw⟩
 obtain rfl:r=(r1,r2):=(known_where hK hg hR hw).trans hr
 refine GuardOb.mk (fun _=>?_) (fun h=>absurd h (by simp))
 refine GuardOb.mk (fun _=>?_) (fun h=>absurd h (by simp))
 refine GuardOb.mk (fun _=>?_) (fun h=>absurd h (by simp))
 refine CallOb.whole _ (WCheck_own (hT1.mono hJ2) (hg.mono hJ2) hkb) ?_
 rintro v J3 N3 - ⟨hJ3,hN3,r',rfl,hw'⟩
 obtain rfl:r'=(r1,r2):=(known_where hK (hg.mono hJ2) hR hw').trans hr
 exact⟨_,_,.refl,by simp,fun b o h=>hJ3 _ _ (hJ2 _ _ (hJ1 _ _ h)),by rw[hN3,hN];rfl⟩
def wc13_0:List DfC:=[⟨[97],⟨[⟨3,0,0,0,0,[97],0,0,[]⟩,⟨2,0,0,0,0,[120],0,0,[]⟩,⟨4,0,0,0,0,[],0,0,[0,1]⟩,⟨2,0,0,0,0,[121],0,0,[]⟩,⟨5,0,0,0,0,[],0,0,[2,3]⟩],4⟩⟩]
theorem wg13_0:grOf 100000 32 [97,32,60,45,32,97,32,34,120,34,32,47,32,34,121,34]=some (wc13_0,0,.i64,0):=by kernel_rfl
theorem wh13_0:WhOk ([97,32,60,45,32,97,32,34,120,34,32,47,32,34,121,34],0,42):=whOk wg13_0 (F:=flC wc13_0 4) (k:=4) (by kernel_rfl) (by kernel_rfl)
def wc13_1:List DfC:=[⟨[97],⟨[⟨3,0,0,0,0,[98],0,0,[]⟩],0⟩⟩,⟨[98],⟨[⟨2,0,0,0,0,[120],0,0,[]⟩,⟨6,0,0,0,0,[],0,1,[0]⟩,⟨3,0,0,0,0,[97],0,0,[]⟩,⟨4,0,0,0,0,[],0,0,[1,2]⟩],3⟩⟩]
theorem wg13_1:grOf 100000 32 [97,32,60,45,32,98,32,98,32,60,45,32,34,120,34,63,32,97]=some (wc13_1,0,.i64,0):=by kernel_rfl
theorem wh13_1:WhOk ([97,32,60,45,32,98,32,98,32,60,45,32,34,120,34,63,32,97],0,42):=whOk wg13_1 (F:=flC wc13_1 4) (k:=4) (by kernel_rfl) (by kernel_rfl)
def wc13_2:List DfC:=[⟨[97],⟨[⟨3,0,0,0,0,[98],0,0,[]⟩],0⟩⟩,⟨[98],⟨[⟨2,0,0,0,0,[120],0,0,[]⟩,⟨3,0,0,0,0,[97],0,0,[]⟩,⟨4,0,0,0,0,[],0,0,[0,1]⟩],2⟩⟩]
theorem wg13_2:grOf 100000 32 [97,32,60,45,32,98,32,98,32,60,45,32,34,120,34,32,97]=some (wc13_2,0,.i64,0):=by kernel_rfl
theorem wh13_2:WhOk ([97,32,60,45,32,98,32,98,32,60,45,32,34,120,34,32,97],0,0):=whOk wg13_2 (F:=flC wc13_2 4) (k:=4) (by kernel_rfl) (by kernel_rfl)
def wc13_3:List DfC:=[⟨[97],⟨[⟨2,0,0,0,0,[120],0,0,[]⟩,⟨6,0,0,0,0,[],0,1,[0]⟩,⟨6,0,0,0,0,[],0,(-1),[1]⟩],2⟩⟩]
theorem wg13_3:grOf 100000 32 [97,32,60,45,32,40,34,120,34,63,41,42]=some (wc13_3,0,.i64,0):=by kernel_rfl
theorem wh13_3:WhOk ([97,32,60,45,32,40,34,120,34,63,41,42],0,43):=whOk wg13_3 (F:=flC wc13_3 4) (k:=4) (by kernel_rfl) (by kernel_rfl)
def wc13_4:List DfC:=[⟨[97],⟨[⟨2,0,0,0,0,[120],0,0,[]⟩,⟨6,0,0,0,0,[],0,1,[0]⟩,⟨6,0,0,0,0,[],0,9,[1]⟩],2⟩⟩]
theorem wg13_4:grOf 100000 32 [97,32,60,45,32,40,34,120,34,63,41,123,48,44,57,125]=some (wc13_4,0,.i64,0):=by kernel_rfl
theorem wh13_4:WhOk ([97,32,60,45,32,40,34,120,34,63,41,123,48,44,57,125],0,0):=whOk wg13_4 (F:=flC wc13_4 4) (k:=4) (by kernel_rfl) (by kernel_rfl)
def wc13_5:List DfC:=[⟨[97],⟨[⟨3,0,0,0,0,[97],0,0,[]⟩,⟨8,0,0,0,0,[],0,0,[0]⟩,⟨2,0,0,0,0,[120],0,0,[]⟩,⟨4,0,0,0,0,[],0,0,[1,2]⟩],3⟩⟩]
theorem wg13_5:grOf 100000 32 [97,32,60,45,32,33,97,32,34,120,34]=some (wc13_5,0,.i64,0):=by kernel_rfl
theorem wh13_5:WhOk ([97,32,60,45,32,33,97,32,34,120,34],0,42):=whOk wg13_5 (F:=flC wc13_5 4) (k:=4) (by kernel_rfl) (by kernel_rfl)
def wc13_6:List DfC:=[⟨[97],⟨[⟨2,0,0,0,0,[120],0,0,[]⟩,⟨3,0,0,0,0,[97],0,0,[]⟩,⟨4,0,0,0,0,[],0,0,[0,1]⟩,⟨0,0,0,0,0,[],0,0,[]⟩,⟨5,0,0,0,0,[],0,0,[2,3]⟩],4⟩⟩]
theorem wg13_6:grOf 100000 32 [97,32,60,45,32,34,120,34,32,97,32,47,32,34,34]=some (wc13_6,0,.i64,0):=by kernel_rfl
theorem wh13_6:WhOk ([97,32,60,45,32,34,120,34,32,97,32,47,32,34,34],0,0):=whOk wg13_6 (F:=flC wc13_6 4) (k:=4) (by kernel_rfl) (by kernel_rfl)
theorem awake13_spec {I:GH} (hT:Tabs I debL):Spec Tryz.prog 16 [] I [] fun v J M''=>v=.bool true∧(∀ b o,I b=some o→J b=some o)∧M''=[]:=by
 refine spec_of_V [] TryzEOK Tryz.func16 rfl rfl rfl ?_
 intro B h0
 refine CallOb.mk [] [] _ (.refl _) (wh13_0 hT) ?_
 rintro v I1 M1 - ⟨rfl,hI1,rfl⟩
 have hT1:=hT.mono hI1
 refine GuardOb.mk (fun _=>?_) (fun h=>by cases h)
 refine CallOb.mk [] [] _ (.refl _) (wh13_1 hT1) ?_
 rintro v I2 M2 - ⟨rfl,hI2,rfl⟩
 have hT2:=hT1.mono hI2
 refine GuardOb.mk (fun _=>?_) (fun h=>by cases h)
 refine CallOb.mk [] [] _ (.refl _) (wh13_2 hT2) ?_
 rintro v I3 M3 - ⟨rfl,hI3,rfl⟩
 have hT3:=hT2.mono hI3
 refine GuardOb.mk (fun _=>?_) (fun h=>by cases h)
 refine CallOb.mk [] [] _ (.refl _) (wh13_3 hT3) ?_
 rintro v I4 M4 - ⟨rfl,hI4,rfl⟩
 have hT4:=hT3.mono hI4
 refine GuardOb.mk (fun _=>?_) (fun h=>by cases h)
 refine CallOb.mk [] [] _ (.refl _) (wh13_4 hT4) ?_
 rintro v I5 M5 - ⟨rfl,hI5,rfl⟩
 have hT5:=hT4.mono hI5
 refine GuardOb.mk (fun _=>?_) (fun h=>by cases h)
 refine CallOb.mk [] [] _ (.refl _) (wh13_5 hT5) ?_
 rintro v I6 M6 - ⟨rfl,hI6,rfl⟩
 have hT6:=hT5.mono hI6
 refine GuardOb.mk (fun _=>?_) (fun h=>by cases h)
 refine CallOb.mk [] [] _ (.refl _) (wh13_6 hT6) ?_
 rintro v I7 M7 - ⟨rfl,hI7,rfl⟩
 have hT7:=hT6.mono hI7
 exact⟨_,_,.refl,rfl,fun b o h=>hI7 _ _ (hI6 _ _ (hI5 _ _ (hI4 _ _ (hI3 _ _ (hI2 _ _ (hI1 _ _ h)))))),rfl⟩
structure IA where
 l:List Fi
 a:Option Addr
 n:Nat
 c:Nat
def IA.val (x:IA):Value:=.slice x.a x.n x.c
structure IsW (I:GH) (x:IA):Prop where
 at':IsAt I [] x.a x.n x.l
 n:x.n≤9223372036854775807
section
variable {H:Type} {enc:TypeId×Value→H} {W:World} {base:Nat} {sp:Nat→Bool} {held:Bool}
end
theorem IsW.mono {I I':GH} {x:IA} (h:IsW I x) (hI:∀ b o,I b=some o→I' b=some o):IsW I' x:=⟨h.at'.mono hI,h.n⟩
noncomputable def gives (f g:Nat) (args:List EV):Option EV:=opn (callF YK (E_code YK f) g args ⟨.nil,0⟩) none fun p=>some p.1
def FirRel (g:Gr) (l:List Fi):Prop:=(mayG debL g=0∧∃ F,IsFlow g.ds F∧IsFirst g.ds F l)∨(mayG debL g≠0∧l=[])
theorem FirRel.len {g:Gr} {l:List Fi} (h:FirRel g l):l.length≤g.ds.length:=by
 rcases h with ⟨a,F,hF,h⟩ | ⟨a,h⟩
 ·rw[h.len];exact Nat.le_refl _
 ·rw[h];exact Nat.zero_le _
def NodRel (g:Gr) (l:List Fi) (t:Tr) (r:List Fi):Prop:=(okI debL g l t=true∧∃ F,IsFlow g.ds F∧r=nodesI (placesL g.ds) l (nodesF (placesL g.ds) F t.ns []) t.ns [])∨(okI debL g l t=false∧r=[])
theorem NodRel.len {g:Gr} {l:List Fi} {t:Tr} {r:List Fi} (h:NodRel g l t r):r.length≤t.ns.length:=by
 rcases h with ⟨a,F,hF,rfl⟩ | ⟨a,rfl⟩
 ·rw[nodesI_len];simp
 ·exact Nat.zero_le _
section
variable {I:GH} {M0:List Blk}
end
theorem IsLefts.len {deb:List Int} {g:Gr} {r:Int} {l:List Nat} (h:IsLefts deb g r l):l.length≤g.ds.length:=by
 rcases h with ⟨-,rfl⟩ | ⟨-,F,k,-,-,-,rfl⟩
 ·exact Nat.zero_le _
 ·exact range_filter_len _ _
theorem IsLoops.len {deb:List Int} {g:Gr} {l:List Nat} (h:IsLoops deb g l):l.length≤g.ds.length:=by
 rcases h with ⟨-,rfl⟩ | ⟨-,F,-,rfl⟩
 ·exact Nat.zero_le _
 ·exact range_filter_len _ _
theorem IsLeft.len {deb:List Int} {g:Gr} {l:List Nat} (h:IsLeft deb g l):l.length≤g.ds.length:=by
 rcases h with ⟨-,rfl⟩ | ⟨-,F,-,rfl⟩
 ·exact Nat.zero_le _
 ·exact range_filter_len _ _
theorem IsLeft.get {deb:List Int} {g:Gr} (hm:mayG deb g=0) {l:List Nat} (h:IsLeft deb g l):l=refLeft g.ds (flowG g.ds):=by
 rcases h with ⟨a,-⟩ | ⟨-,F,c,rfl⟩
 ·exact absurd hm a
 ·rw[flowG_eq c]
theorem IsLoops.get {deb:List Int} {g:Gr} (hm:mayG deb g=0) {l:List Nat} (h:IsLoops deb g l):l=refLoops g.ds (flowG g.ds):=by
 rcases h with ⟨a,-⟩ | ⟨-,F,c,rfl⟩
 ·exact absurd hm a
 ·rw[flowG_eq c]
def LfOk (c:List UInt8×List Nat):Prop:=∀ {I:GH} {M0:List Blk} (hT:Tabs I debL) {a:Option Addr} {n cp:Nat} (hn:c.2.length=n) (hw:∀ (J:GH) (M:List Blk),(∀ z∈M0,z∈M)→∀ i (h:i < c.2.length),∃ ad,a=some ad∧Rd J M (ad.add (i * 1)) 1 [.int .i64 (c.2[i]:Nat)]),
  Spec Tryz.prog 29 [.string ⟨c.1.toArray⟩,.int .i64 0,.slice a n cp] I M0 fun v J M''=>v=.bool true∧(∀ b o,I b=some o→J b=some o)∧M''=M0
set_option maxRecDepth 100000 in
set_option maxHeartbeats 4000000 in
theorem lfOk {fu:Nat} {s:List UInt8} {cs:List DfC} {a1:Int} (hgr:grOf fu 32 s=some (cs,a1,.i64,0)) {F:List Fl} {k:Nat} (hc:chk13 cs F k=true) {want:List Nat} (h0:0 < cs.length) (hr:refLefts (grC cs).ds F 0=want):LfOk (s,want):=by
 intro I M0 hT a n cp hn hw
 have hK:=known13_of hc
 have hn:want.length=n:=hn
 refine spec_of_V [] TryzEOK Tryz.func29 rfl rfl rfl ?_
 intro B hB0
 refine CallOb.mk [] M0 _ (.refl _) (grOf_spec hT hgr) ?_
 rintro v J1 N - ⟨rfl,hJ1,g,rfl,hg,hR⟩
 have hT1:=hT.mono hJ1
 obtain⟨hm,hF,hkb⟩:=hK.of hg hR
 have hgn:=hg.n
 have hgl:=hR.len
 refine CallOb.whole _ (WLefts_own (M0:=M0) hT1 hg hkb 0) ?_
 rintro v J2 N - ⟨hJ2,ol,l,hol,rfl,hN,hl⟩
 subst N
 have hds:g.ds.map Df.ct=(grC cs).ds:=congrArg Gr.ds (gr_ct hR hg)
 have hlw:l=want:=by
  rcases hl with ⟨a | a | a,-⟩ | ⟨-,F',k',a,b,c,rfl⟩
  ·exact absurd hm a
  ·omega
  ·omega
  ·obtain rfl:k'=0:=by omega
   obtain rfl:=hF.unique c
   rw[←refLefts_ct,hds,hr]
 subst hlw
 have hln:=OS.pos hol
 have hlb:=hl.len
 have hg64:=may64 hm
 refine GuardOb.mk (fun _=>?_) (fun h=>absurd h (by simp))
 refine CondOb.mk (fun h=>absurd h (by simp[←hln,hn])) (fun _=>?_)
 refine LoopOb.inv (ι:=Nat) (fun i=>{ fl:=[(2,.val (.slice a n cp)),(10,.val ol.val),(11,.val (.int .i64 i))],gi:=J2,mi:=ol.blk 3++M0 }) (fun i=>i≤n) (fun i=>n - i) ?_ ?_
 ·exact⟨0,Nat.zero_le _,.refl,aF3,.nil⟩
 intro i hi
 refine CondOb.mk (fun h=>?_) (fun h=>?_)
 ·have hlt:i < n:=by have:(i:Int) < (n:Int):=of_decide_eq_true h;omega
  have hil:i < l.length:=by omega
  obtain⟨al,hal,hrl⟩:=os_ints (I:=J2) (M:=ol.blk 3++M0) (e:=3) hol (fun z hz=>List.mem_append_left _ hz) hil
  obtain⟨aw,haw,hrw⟩:=hw J2 (ol.blk 3++M0) (fun z hz=>List.mem_append_right _ hz) i hil
  simp only at hrw
  refine CodeOb.draw TryzEOK rfl rfl rfl ?_
  refine IdxOb.mk al i hal rfl (by omega) ?_
  refine LoadOb.mk _ hrl ?_
  refine IdxOb.mk aw i haw rfl hlt ?_
  refine LoadOb.mk _ hrw ?_
  refine CondOb.mk (fun h=>absurd h (by simp)) (fun _=>?_)
  refine ArithOb.mk _ (next_wr (i:=i) (by omega)) ?_
  exact⟨i+1,⟨hlt,by omega⟩,.refl,aF3,.nil⟩
 ·exact⟨_,_,.sub (List.sublist_append_right _ _) .refl,rfl,fun b o h=>hJ2 _ _ (hJ1 _ _ h),rfl⟩
def lc13_0:List DfC:=[⟨[97],⟨[⟨3,0,0,0,0,[120],0,0,[]⟩,⟨3,0,0,0,0,[121],0,0,[]⟩,⟨4,0,0,0,0,[],0,0,[0,1]⟩],2⟩⟩,⟨[120],⟨[⟨2,0,0,0,0,[120],0,0,[]⟩],0⟩⟩,⟨[121],⟨[⟨2,0,0,0,0,[121],0,0,[]⟩,⟨6,0,0,0,0,[],0,1,[0]⟩],1⟩⟩,⟨[122],⟨[⟨1,0,0,0,0,[],0,0,[]⟩],0⟩⟩,⟨[110],⟨[⟨0,0,0,0,0,[],0,0,[]⟩],0⟩⟩]
theorem lc13_0_g:grOf 100000 32 [97,32,60,45,32,120,32,121,32,120,32,60,45,32,34,120,34,32,121,32,60,45,32,34,121,34,63,32,122,32,60,45,32,91,93,32,110,32,60,45,32,34,34]=some (lc13_0,0,.i64,0):=by kernel_rfl
theorem lc13_0_ok:LfOk ([97,32,60,45,32,120,32,121,32,120,32,60,45,32,34,120,34,32,121,32,60,45,32,34,121,34,63,32,122,32,60,45,32,91,93,32,110,32,60,45,32,34,34],[1]):=lfOk lc13_0_g (F:=flC lc13_0 6) (k:=6) (by kernel_rfl) (by decide) (by kernel_rfl)
def lc13_4:List DfC:=[⟨[97],⟨[⟨3,0,0,0,0,[120],0,0,[]⟩,⟨6,0,0,0,0,[],0,(-1),[0]⟩,⟨3,0,0,0,0,[121],0,0,[]⟩,⟨4,0,0,0,0,[],0,0,[1,2]⟩],3⟩⟩,⟨[120],⟨[⟨2,0,0,0,0,[120],0,0,[]⟩],0⟩⟩,⟨[121],⟨[⟨2,0,0,0,0,[121],0,0,[]⟩,⟨6,0,0,0,0,[],0,1,[0]⟩],1⟩⟩,⟨[122],⟨[⟨1,0,0,0,0,[],0,0,[]⟩],0⟩⟩,⟨[110],⟨[⟨0,0,0,0,0,[],0,0,[]⟩],0⟩⟩]
theorem lc13_4_g:grOf 100000 32 [97,32,60,45,32,120,42,32,121,32,120,32,60,45,32,34,120,34,32,121,32,60,45,32,34,121,34,63,32,122,32,60,45,32,91,93,32,110,32,60,45,32,34,34]=some (lc13_4,0,.i64,0):=by kernel_rfl
theorem lc13_4_ok:LfOk ([97,32,60,45,32,120,42,32,121,32,120,32,60,45,32,34,120,34,32,121,32,60,45,32,34,121,34,63,32,122,32,60,45,32,91,93,32,110,32,60,45,32,34,34],[1,2]):=lfOk lc13_4_g (F:=flC lc13_4 6) (k:=6) (by kernel_rfl) (by decide) (by kernel_rfl)
def lc13_8:List DfC:=[⟨[97],⟨[⟨3,0,0,0,0,[120],0,0,[]⟩,⟨7,0,0,0,0,[],0,0,[0]⟩,⟨3,0,0,0,0,[121],0,0,[]⟩,⟨4,0,0,0,0,[],0,0,[1,2]⟩],3⟩⟩,⟨[120],⟨[⟨2,0,0,0,0,[120],0,0,[]⟩],0⟩⟩,⟨[121],⟨[⟨2,0,0,0,0,[121],0,0,[]⟩,⟨6,0,0,0,0,[],0,1,[0]⟩],1⟩⟩,⟨[122],⟨[⟨1,0,0,0,0,[],0,0,[]⟩],0⟩⟩,⟨[110],⟨[⟨0,0,0,0,0,[],0,0,[]⟩],0⟩⟩]
theorem lc13_8_g:grOf 100000 32 [97,32,60,45,32,38,120,32,121,32,120,32,60,45,32,34,120,34,32,121,32,60,45,32,34,121,34,63,32,122,32,60,45,32,91,93,32,110,32,60,45,32,34,34]=some (lc13_8,0,.i64,0):=by kernel_rfl
theorem lc13_8_ok:LfOk ([97,32,60,45,32,38,120,32,121,32,120,32,60,45,32,34,120,34,32,121,32,60,45,32,34,121,34,63,32,122,32,60,45,32,91,93,32,110,32,60,45,32,34,34],[1,2]):=lfOk lc13_8_g (F:=flC lc13_8 6) (k:=6) (by kernel_rfl) (by decide) (by kernel_rfl)
def lc13_12:List DfC:=[⟨[97],⟨[⟨3,0,0,0,0,[121],0,0,[]⟩,⟨9,0,0,0,0,[110],0,0,[0]⟩,⟨3,0,0,0,0,[120],0,0,[]⟩,⟨4,0,0,0,0,[],0,0,[1,2]⟩],3⟩⟩,⟨[120],⟨[⟨2,0,0,0,0,[120],0,0,[]⟩],0⟩⟩,⟨[121],⟨[⟨2,0,0,0,0,[121],0,0,[]⟩,⟨6,0,0,0,0,[],0,1,[0]⟩],1⟩⟩,⟨[122],⟨[⟨1,0,0,0,0,[],0,0,[]⟩],0⟩⟩,⟨[110],⟨[⟨0,0,0,0,0,[],0,0,[]⟩],0⟩⟩]
theorem lc13_12_g:grOf 100000 32 [97,32,60,45,32,60,110,58,32,121,62,32,120,32,120,32,60,45,32,34,120,34,32,121,32,60,45,32,34,121,34,63,32,122,32,60,45,32,91,93,32,110,32,60,45,32,34,34]=some (lc13_12,0,.i64,0):=by kernel_rfl
theorem lc13_12_ok:LfOk ([97,32,60,45,32,60,110,58,32,121,62,32,120,32,120,32,60,45,32,34,120,34,32,121,32,60,45,32,34,121,34,63,32,122,32,60,45,32,91,93,32,110,32,60,45,32,34,34],[1,2]):=lfOk lc13_12_g (F:=flC lc13_12 6) (k:=6) (by kernel_rfl) (by decide) (by kernel_rfl)
def we13_0:List DfC:=[⟨[115],⟨[⟨3,0,0,0,0,[98],0,0,[]⟩],0⟩⟩,⟨[97],⟨[⟨2,0,0,0,0,[120],0,0,[]⟩],0⟩⟩,⟨[98],⟨[⟨3,0,0,0,0,[99],0,0,[]⟩],0⟩⟩,⟨[99],⟨[⟨3,0,0,0,0,[100],0,0,[]⟩,⟨6,0,0,0,0,[],0,(-1),[0]⟩],1⟩⟩,⟨[100],⟨[⟨0,0,0,0,0,[],0,0,[]⟩],0⟩⟩]
theorem we13_0_g:grOf 100000 32 [115,32,60,45,32,98,32,97,32,60,45,32,34,120,34,32,98,32,60,45,32,99,32,99,32,60,45,32,100,42,32,100,32,60,45,32,34,34]=some (we13_0,0,.i64,0):=by kernel_rfl
theorem we13_0_ok:WhOk ([115,32,60,45,32,98,32,97,32,60,45,32,34,120,34,32,98,32,60,45,32,99,32,99,32,60,45,32,100,42,32,100,32,60,45,32,34,34],3,43):=whOk we13_0_g (F:=flC we13_0 6) (k:=6) (by kernel_rfl) (by kernel_rfl)
def we13_4:List DfC:=[⟨[115],⟨[⟨3,0,0,0,0,[98],0,0,[]⟩],0⟩⟩,⟨[97],⟨[⟨3,0,0,0,0,[115],0,0,[]⟩,⟨2,0,0,0,0,[120],0,0,[]⟩,⟨4,0,0,0,0,[],0,0,[0,1]⟩],2⟩⟩,⟨[98],⟨[⟨3,0,0,0,0,[97],0,0,[]⟩],0⟩⟩]
theorem we13_4_g:grOf 100000 32 [115,32,60,45,32,98,32,97,32,60,45,32,115,32,34,120,34,32,98,32,60,45,32,97]=some (we13_4,0,.i64,0):=by kernel_rfl
theorem we13_4_ok:WhOk ([115,32,60,45,32,98,32,97,32,60,45,32,115,32,34,120,34,32,98,32,60,45,32,97],0,42):=whOk we13_4_g (F:=flC we13_4 6) (k:=6) (by kernel_rfl) (by kernel_rfl)
def lc13_1:List DfC:=[⟨[97],⟨[⟨3,0,0,0,0,[121],0,0,[]⟩,⟨3,0,0,0,0,[120],0,0,[]⟩,⟨4,0,0,0,0,[],0,0,[0,1]⟩],2⟩⟩,⟨[120],⟨[⟨2,0,0,0,0,[120],0,0,[]⟩],0⟩⟩,⟨[121],⟨[⟨2,0,0,0,0,[121],0,0,[]⟩,⟨6,0,0,0,0,[],0,1,[0]⟩],1⟩⟩,⟨[122],⟨[⟨1,0,0,0,0,[],0,0,[]⟩],0⟩⟩,⟨[110],⟨[⟨0,0,0,0,0,[],0,0,[]⟩],0⟩⟩]
theorem lc13_1_g:grOf 100000 32 [97,32,60,45,32,121,32,120,32,120,32,60,45,32,34,120,34,32,121,32,60,45,32,34,121,34,63,32,122,32,60,45,32,91,93,32,110,32,60,45,32,34,34]=some (lc13_1,0,.i64,0):=by kernel_rfl
theorem lc13_1_ok:LfOk ([97,32,60,45,32,121,32,120,32,120,32,60,45,32,34,120,34,32,121,32,60,45,32,34,121,34,63,32,122,32,60,45,32,91,93,32,110,32,60,45,32,34,34],[1,2]):=lfOk lc13_1_g (F:=flC lc13_1 6) (k:=6) (by kernel_rfl) (by decide) (by kernel_rfl)
def lc13_5:List DfC:=[⟨[97],⟨[⟨3,0,0,0,0,[120],0,0,[]⟩,⟨6,0,0,0,0,[],1,(-1),[0]⟩,⟨3,0,0,0,0,[121],0,0,[]⟩,⟨4,0,0,0,0,[],0,0,[1,2]⟩],3⟩⟩,⟨[120],⟨[⟨2,0,0,0,0,[120],0,0,[]⟩],0⟩⟩,⟨[121],⟨[⟨2,0,0,0,0,[121],0,0,[]⟩,⟨6,0,0,0,0,[],0,1,[0]⟩],1⟩⟩,⟨[122],⟨[⟨1,0,0,0,0,[],0,0,[]⟩],0⟩⟩,⟨[110],⟨[⟨0,0,0,0,0,[],0,0,[]⟩],0⟩⟩]
theorem lc13_5_g:grOf 100000 32 [97,32,60,45,32,120,43,32,121,32,120,32,60,45,32,34,120,34,32,121,32,60,45,32,34,121,34,63,32,122,32,60,45,32,91,93,32,110,32,60,45,32,34,34]=some (lc13_5,0,.i64,0):=by kernel_rfl
theorem lc13_5_ok:LfOk ([97,32,60,45,32,120,43,32,121,32,120,32,60,45,32,34,120,34,32,121,32,60,45,32,34,121,34,63,32,122,32,60,45,32,91,93,32,110,32,60,45,32,34,34],[1]):=lfOk lc13_5_g (F:=flC lc13_5 6) (k:=6) (by kernel_rfl) (by decide) (by kernel_rfl)
def lc13_9:List DfC:=[⟨[97],⟨[⟨3,0,0,0,0,[120],0,0,[]⟩,⟨8,0,0,0,0,[],0,0,[0]⟩,⟨3,0,0,0,0,[121],0,0,[]⟩,⟨4,0,0,0,0,[],0,0,[1,2]⟩],3⟩⟩,⟨[120],⟨[⟨2,0,0,0,0,[120],0,0,[]⟩],0⟩⟩,⟨[121],⟨[⟨2,0,0,0,0,[121],0,0,[]⟩,⟨6,0,0,0,0,[],0,1,[0]⟩],1⟩⟩,⟨[122],⟨[⟨1,0,0,0,0,[],0,0,[]⟩],0⟩⟩,⟨[110],⟨[⟨0,0,0,0,0,[],0,0,[]⟩],0⟩⟩]
theorem lc13_9_g:grOf 100000 32 [97,32,60,45,32,33,120,32,121,32,120,32,60,45,32,34,120,34,32,121,32,60,45,32,34,121,34,63,32,122,32,60,45,32,91,93,32,110,32,60,45,32,34,34]=some (lc13_9,0,.i64,0):=by kernel_rfl
theorem lc13_9_ok:LfOk ([97,32,60,45,32,33,120,32,121,32,120,32,60,45,32,34,120,34,32,121,32,60,45,32,34,121,34,63,32,122,32,60,45,32,91,93,32,110,32,60,45,32,34,34],[1,2]):=lfOk lc13_9_g (F:=flC lc13_9 6) (k:=6) (by kernel_rfl) (by decide) (by kernel_rfl)
def lc13_13:List DfC:=[⟨[97],⟨[⟨3,0,0,0,0,[120],0,0,[]⟩,⟨0,0,0,0,0,[],0,0,[]⟩,⟨5,0,0,0,0,[],0,0,[0,1]⟩,⟨3,0,0,0,0,[122],0,0,[]⟩,⟨4,0,0,0,0,[],0,0,[2,3]⟩],4⟩⟩,⟨[120],⟨[⟨2,0,0,0,0,[120],0,0,[]⟩],0⟩⟩,⟨[121],⟨[⟨2,0,0,0,0,[121],0,0,[]⟩,⟨6,0,0,0,0,[],0,1,[0]⟩],1⟩⟩,⟨[122],⟨[⟨1,0,0,0,0,[],0,0,[]⟩],0⟩⟩,⟨[110],⟨[⟨0,0,0,0,0,[],0,0,[]⟩],0⟩⟩]
theorem lc13_13_g:grOf 100000 32 [97,32,60,45,32,40,120,32,47,32,34,34,41,32,122,32,120,32,60,45,32,34,120,34,32,121,32,60,45,32,34,121,34,63,32,122,32,60,45,32,91,93,32,110,32,60,45,32,34,34]=some (lc13_13,0,.i64,0):=by kernel_rfl
theorem lc13_13_ok:LfOk ([97,32,60,45,32,40,120,32,47,32,34,34,41,32,122,32,120,32,60,45,32,34,120,34,32,121,32,60,45,32,34,121,34,63,32,122,32,60,45,32,91,93,32,110,32,60,45,32,34,34],[1,3]):=lfOk lc13_13_g (F:=flC lc13_13 6) (k:=6) (by kernel_rfl) (by decide) (by kernel_rfl)
def we13_1:List DfC:=[⟨[115],⟨[⟨3,0,0,0,0,[97],0,0,[]⟩],0⟩⟩,⟨[97],⟨[⟨3,0,0,0,0,[98],0,0,[]⟩,⟨2,0,0,0,0,[120],0,0,[]⟩,⟨4,0,0,0,0,[],0,0,[0,1]⟩],2⟩⟩,⟨[98],⟨[⟨0,0,0,0,0,[],0,0,[]⟩,⟨6,0,0,0,0,[],0,(-1),[0]⟩,⟨3,0,0,0,0,[97],0,0,[]⟩,⟨4,0,0,0,0,[],0,0,[1,2]⟩],3⟩⟩]
theorem we13_1_g:grOf 100000 32 [115,32,60,45,32,97,32,97,32,60,45,32,98,32,34,120,34,32,98,32,60,45,32,40,34,34,41,42,32,97]=some (we13_1,0,.i64,0):=by kernel_rfl
theorem we13_1_ok:WhOk ([115,32,60,45,32,97,32,97,32,60,45,32,98,32,34,120,34,32,98,32,60,45,32,40,34,34,41,42,32,97],1,42):=whOk we13_1_g (F:=flC we13_1 6) (k:=6) (by kernel_rfl) (by kernel_rfl)
def we13_5:List DfC:=[⟨[115],⟨[⟨1,0,0,0,0,[],0,0,[]⟩],0⟩⟩,⟨[115,49],⟨[⟨3,0,0,0,0,[115,50],0,0,[]⟩],0⟩⟩,⟨[115,50],⟨[⟨3,0,0,0,0,[115],0,0,[]⟩,⟨3,0,0,0,0,[115,49],0,0,[]⟩,⟨4,0,0,0,0,[],0,0,[0,1]⟩],2⟩⟩]
theorem we13_5_g:grOf 100000 32 [115,32,60,45,32,91,93,32,115,49,32,60,45,32,115,50,32,115,50,32,60,45,32,115,32,115,49]=some (we13_5,0,.i64,0):=by kernel_rfl
theorem we13_5_ok:WhOk ([115,32,60,45,32,91,93,32,115,49,32,60,45,32,115,50,32,115,50,32,60,45,32,115,32,115,49],0,0):=whOk we13_5_g (F:=flC we13_5 6) (k:=6) (by kernel_rfl) (by kernel_rfl)
def lc13_2:List DfC:=[⟨[97],⟨[⟨3,0,0,0,0,[121],0,0,[]⟩,⟨3,0,0,0,0,[121],0,0,[]⟩,⟨3,0,0,0,0,[122],0,0,[]⟩,⟨3,0,0,0,0,[110],0,0,[]⟩,⟨3,0,0,0,0,[120],0,0,[]⟩,⟨4,0,0,0,0,[],0,0,[0,1,2,3,4]⟩],5⟩⟩,⟨[120],⟨[⟨2,0,0,0,0,[120],0,0,[]⟩],0⟩⟩,⟨[121],⟨[⟨2,0,0,0,0,[121],0,0,[]⟩,⟨6,0,0,0,0,[],0,1,[0]⟩],1⟩⟩,⟨[122],⟨[⟨1,0,0,0,0,[],0,0,[]⟩],0⟩⟩,⟨[110],⟨[⟨0,0,0,0,0,[],0,0,[]⟩],0⟩⟩]
theorem lc13_2_g:grOf 100000 32 [97,32,60,45,32,121,32,121,32,122,32,110,32,120,32,120,32,60,45,32,34,120,34,32,121,32,60,45,32,34,121,34,63,32,122,32,60,45,32,91,93,32,110,32,60,45,32,34,34]=some (lc13_2,0,.i64,0):=by kernel_rfl
theorem lc13_2_ok:LfOk ([97,32,60,45,32,121,32,121,32,122,32,110,32,120,32,120,32,60,45,32,34,120,34,32,121,32,60,45,32,34,121,34,63,32,122,32,60,45,32,91,93,32,110,32,60,45,32,34,34],[2,3]):=lfOk lc13_2_g (F:=flC lc13_2 6) (k:=6) (by kernel_rfl) (by decide) (by kernel_rfl)
def lc13_6:List DfC:=[⟨[97],⟨[⟨3,0,0,0,0,[120],0,0,[]⟩,⟨6,0,0,0,0,[],0,0,[0]⟩,⟨3,0,0,0,0,[121],0,0,[]⟩,⟨4,0,0,0,0,[],0,0,[1,2]⟩],3⟩⟩,⟨[120],⟨[⟨2,0,0,0,0,[120],0,0,[]⟩],0⟩⟩,⟨[121],⟨[⟨2,0,0,0,0,[121],0,0,[]⟩,⟨6,0,0,0,0,[],0,1,[0]⟩],1⟩⟩,⟨[122],⟨[⟨1,0,0,0,0,[],0,0,[]⟩],0⟩⟩,⟨[110],⟨[⟨0,0,0,0,0,[],0,0,[]⟩],0⟩⟩]
theorem lc13_6_g:grOf 100000 32 [97,32,60,45,32,120,123,48,125,32,121,32,120,32,60,45,32,34,120,34,32,121,32,60,45,32,34,121,34,63,32,122,32,60,45,32,91,93,32,110,32,60,45,32,34,34]=some (lc13_6,0,.i64,0):=by kernel_rfl
theorem lc13_6_ok:LfOk ([97,32,60,45,32,120,123,48,125,32,121,32,120,32,60,45,32,34,120,34,32,121,32,60,45,32,34,121,34,63,32,122,32,60,45,32,91,93,32,110,32,60,45,32,34,34],[2]):=lfOk lc13_6_g (F:=flC lc13_6 6) (k:=6) (by kernel_rfl) (by decide) (by kernel_rfl)
def lc13_10:List DfC:=[⟨[97],⟨[⟨3,0,0,0,0,[110],0,0,[]⟩,⟨8,0,0,0,0,[],0,0,[0]⟩,⟨3,0,0,0,0,[120],0,0,[]⟩,⟨4,0,0,0,0,[],0,0,[1,2]⟩],3⟩⟩,⟨[120],⟨[⟨2,0,0,0,0,[120],0,0,[]⟩],0⟩⟩,⟨[121],⟨[⟨2,0,0,0,0,[121],0,0,[]⟩,⟨6,0,0,0,0,[],0,1,[0]⟩],1⟩⟩,⟨[122],⟨[⟨1,0,0,0,0,[],0,0,[]⟩],0⟩⟩,⟨[110],⟨[⟨0,0,0,0,0,[],0,0,[]⟩],0⟩⟩]
theorem lc13_10_g:grOf 100000 32 [97,32,60,45,32,33,110,32,120,32,120,32,60,45,32,34,120,34,32,121,32,60,45,32,34,121,34,63,32,122,32,60,45,32,91,93,32,110,32,60,45,32,34,34]=some (lc13_10,0,.i64,0):=by kernel_rfl
theorem lc13_10_ok:LfOk ([97,32,60,45,32,33,110,32,120,32,120,32,60,45,32,34,120,34,32,121,32,60,45,32,34,121,34,63,32,122,32,60,45,32,91,93,32,110,32,60,45,32,34,34],[4]):=lfOk lc13_10_g (F:=flC lc13_10 6) (k:=6) (by kernel_rfl) (by decide) (by kernel_rfl)
def lc13_14:List DfC:=[⟨[97],⟨[⟨2,0,0,0,0,[113],0,0,[]⟩,⟨3,0,0,0,0,[120],0,0,[]⟩,⟨4,0,0,0,0,[],0,0,[0,1]⟩],2⟩⟩,⟨[120],⟨[⟨2,0,0,0,0,[120],0,0,[]⟩],0⟩⟩,⟨[121],⟨[⟨2,0,0,0,0,[121],0,0,[]⟩,⟨6,0,0,0,0,[],0,1,[0]⟩],1⟩⟩,⟨[122],⟨[⟨1,0,0,0,0,[],0,0,[]⟩],0⟩⟩,⟨[110],⟨[⟨0,0,0,0,0,[],0,0,[]⟩],0⟩⟩]
theorem lc13_14_g:grOf 100000 32 [97,32,60,45,32,34,113,34,32,120,32,120,32,60,45,32,34,120,34,32,121,32,60,45,32,34,121,34,63,32,122,32,60,45,32,91,93,32,110,32,60,45,32,34,34]=some (lc13_14,0,.i64,0):=by kernel_rfl
theorem lc13_14_ok:LfOk ([97,32,60,45,32,34,113,34,32,120,32,120,32,60,45,32,34,120,34,32,121,32,60,45,32,34,121,34,63,32,122,32,60,45,32,91,93,32,110,32,60,45,32,34,34],[]):=lfOk lc13_14_g (F:=flC lc13_14 6) (k:=6) (by kernel_rfl) (by decide) (by kernel_rfl)
def we13_2:List DfC:=[⟨[115],⟨[⟨0,0,0,0,0,[],0,0,[]⟩,⟨6,0,0,0,0,[],0,(-1),[0]⟩],1⟩⟩,⟨[97],⟨[⟨3,0,0,0,0,[98],0,0,[]⟩],0⟩⟩,⟨[98],⟨[⟨3,0,0,0,0,[99],0,0,[]⟩],0⟩⟩,⟨[99],⟨[⟨3,0,0,0,0,[97],0,0,[]⟩],0⟩⟩]
theorem we13_2_g:grOf 100000 32 [115,32,60,45,32,40,34,34,41,42,32,97,32,60,45,32,98,32,98,32,60,45,32,99,32,99,32,60,45,32,97]=some (we13_2,0,.i64,0):=by kernel_rfl
theorem we13_2_ok:WhOk ([115,32,60,45,32,40,34,34,41,42,32,97,32,60,45,32,98,32,98,32,60,45,32,99,32,99,32,60,45,32,97],1,42):=whOk we13_2_g (F:=flC we13_2 6) (k:=6) (by kernel_rfl) (by kernel_rfl)
def we13_6:List DfC:=[⟨[115],⟨[⟨3,0,0,0,0,[97],0,0,[]⟩,⟨6,0,0,0,0,[],0,0,[0]⟩],1⟩⟩,⟨[97],⟨[⟨3,0,0,0,0,[97],0,0,[]⟩,⟨6,0,0,0,0,[],0,0,[0]⟩,⟨3,0,0,0,0,[115],0,0,[]⟩,⟨4,0,0,0,0,[],0,0,[1,2]⟩],3⟩⟩]
theorem we13_6_g:grOf 100000 32 [115,32,60,45,32,97,123,48,125,32,97,32,60,45,32,97,123,48,125,32,115]=some (we13_6,0,.i64,0):=by kernel_rfl
theorem we13_6_ok:WhOk ([115,32,60,45,32,97,123,48,125,32,97,32,60,45,32,97,123,48,125,32,115],0,0):=whOk we13_6_g (F:=flC we13_6 6) (k:=6) (by kernel_rfl) (by kernel_rfl)
def lc13_3:List DfC:=[⟨[97],⟨[⟨3,0,0,0,0,[110],0,0,[]⟩,⟨3,0,0,0,0,[120],0,0,[]⟩,⟨4,0,0,0,0,[],0,0,[0,1]⟩,⟨3,0,0,0,0,[122],0,0,[]⟩,⟨5,0,0,0,0,[],0,0,[2,3]⟩],4⟩⟩,⟨[120],⟨[⟨2,0,0,0,0,[120],0,0,[]⟩],0⟩⟩,⟨[121],⟨[⟨2,0,0,0,0,[121],0,0,[]⟩,⟨6,0,0,0,0,[],0,1,[0]⟩],1⟩⟩,⟨[122],⟨[⟨1,0,0,0,0,[],0,0,[]⟩],0⟩⟩,⟨[110],⟨[⟨0,0,0,0,0,[],0,0,[]⟩],0⟩⟩]
theorem lc13_3_g:grOf 100000 32 [97,32,60,45,32,110,32,120,32,47,32,122,32,120,32,60,45,32,34,120,34,32,121,32,60,45,32,34,121,34,63,32,122,32,60,45,32,91,93,32,110,32,60,45,32,34,34]=some (lc13_3,0,.i64,0):=by kernel_rfl
theorem lc13_3_ok:LfOk ([97,32,60,45,32,110,32,120,32,47,32,122,32,120,32,60,45,32,34,120,34,32,121,32,60,45,32,34,121,34,63,32,122,32,60,45,32,91,93,32,110,32,60,45,32,34,34],[1,3,4]):=lfOk lc13_3_g (F:=flC lc13_3 6) (k:=6) (by kernel_rfl) (by decide) (by kernel_rfl)
def lc13_7:List DfC:=[⟨[97],⟨[⟨3,0,0,0,0,[121],0,0,[]⟩,⟨6,0,0,0,0,[],2,2,[0]⟩,⟨3,0,0,0,0,[120],0,0,[]⟩,⟨4,0,0,0,0,[],0,0,[1,2]⟩],3⟩⟩,⟨[120],⟨[⟨2,0,0,0,0,[120],0,0,[]⟩],0⟩⟩,⟨[121],⟨[⟨2,0,0,0,0,[121],0,0,[]⟩,⟨6,0,0,0,0,[],0,1,[0]⟩],1⟩⟩,⟨[122],⟨[⟨1,0,0,0,0,[],0,0,[]⟩],0⟩⟩,⟨[110],⟨[⟨0,0,0,0,0,[],0,0,[]⟩],0⟩⟩]
theorem lc13_7_g:grOf 100000 32 [97,32,60,45,32,121,123,50,125,32,120,32,120,32,60,45,32,34,120,34,32,121,32,60,45,32,34,121,34,63,32,122,32,60,45,32,91,93,32,110,32,60,45,32,34,34]=some (lc13_7,0,.i64,0):=by kernel_rfl
theorem lc13_7_ok:LfOk ([97,32,60,45,32,121,123,50,125,32,120,32,120,32,60,45,32,34,120,34,32,121,32,60,45,32,34,121,34,63,32,122,32,60,45,32,91,93,32,110,32,60,45,32,34,34],[1,2]):=lfOk lc13_7_g (F:=flC lc13_7 6) (k:=6) (by kernel_rfl) (by decide) (by kernel_rfl)
def lc13_11:List DfC:=[⟨[97],⟨[⟨3,0,0,0,0,[122],0,0,[]⟩,⟨7,0,0,0,0,[],0,0,[0]⟩,⟨3,0,0,0,0,[120],0,0,[]⟩,⟨4,0,0,0,0,[],0,0,[1,2]⟩],3⟩⟩,⟨[120],⟨[⟨2,0,0,0,0,[120],0,0,[]⟩],0⟩⟩,⟨[121],⟨[⟨2,0,0,0,0,[121],0,0,[]⟩,⟨6,0,0,0,0,[],0,1,[0]⟩],1⟩⟩,⟨[122],⟨[⟨1,0,0,0,0,[],0,0,[]⟩],0⟩⟩,⟨[110],⟨[⟨0,0,0,0,0,[],0,0,[]⟩],0⟩⟩]
theorem lc13_11_g:grOf 100000 32 [97,32,60,45,32,38,122,32,120,32,120,32,60,45,32,34,120,34,32,121,32,60,45,32,34,121,34,63,32,122,32,60,45,32,91,93,32,110,32,60,45,32,34,34]=some (lc13_11,0,.i64,0):=by kernel_rfl
theorem lc13_11_ok:LfOk ([97,32,60,45,32,38,122,32,120,32,120,32,60,45,32,34,120,34,32,121,32,60,45,32,34,121,34,63,32,122,32,60,45,32,91,93,32,110,32,60,45,32,34,34],[3]):=lfOk lc13_11_g (F:=flC lc13_11 6) (k:=6) (by kernel_rfl) (by decide) (by kernel_rfl)
def lc13_15:List DfC:=[⟨[97],⟨[⟨3,0,0,0,0,[110],0,0,[]⟩,⟨3,0,0,0,0,[110],0,0,[]⟩,⟨4,0,0,0,0,[],0,0,[0,1]⟩],2⟩⟩,⟨[120],⟨[⟨2,0,0,0,0,[120],0,0,[]⟩],0⟩⟩,⟨[121],⟨[⟨2,0,0,0,0,[121],0,0,[]⟩,⟨6,0,0,0,0,[],0,1,[0]⟩],1⟩⟩,⟨[122],⟨[⟨1,0,0,0,0,[],0,0,[]⟩],0⟩⟩,⟨[110],⟨[⟨0,0,0,0,0,[],0,0,[]⟩],0⟩⟩]
theorem lc13_15_g:grOf 100000 32 [97,32,60,45,32,110,32,110,32,120,32,60,45,32,34,120,34,32,121,32,60,45,32,34,121,34,63,32,122,32,60,45,32,91,93,32,110,32,60,45,32,34,34]=some (lc13_15,0,.i64,0):=by kernel_rfl
theorem lc13_15_ok:LfOk ([97,32,60,45,32,110,32,110,32,120,32,60,45,32,34,120,34,32,121,32,60,45,32,34,121,34,63,32,122,32,60,45,32,91,93,32,110,32,60,45,32,34,34],[4]):=lfOk lc13_15_g (F:=flC lc13_15 6) (k:=6) (by kernel_rfl) (by decide) (by kernel_rfl)
def we13_3:List DfC:=[⟨[115],⟨[⟨2,0,0,0,0,[120],0,0,[]⟩],0⟩⟩,⟨[97],⟨[⟨2,0,0,0,0,[121],0,0,[]⟩,⟨6,0,0,0,0,[],0,1,[0]⟩,⟨6,0,0,0,0,[],1,(-1),[1]⟩],2⟩⟩]
theorem we13_3_g:grOf 100000 32 [115,32,60,45,32,34,120,34,32,97,32,60,45,32,40,34,121,34,123,48,44,49,125,41,43]=some (we13_3,0,.i64,0):=by kernel_rfl
theorem we13_3_ok:WhOk ([115,32,60,45,32,34,120,34,32,97,32,60,45,32,40,34,121,34,123,48,44,49,125,41,43],1,43):=whOk we13_3_g (F:=flC we13_3 6) (k:=6) (by kernel_rfl) (by kernel_rfl)
def gc13:List DfC:=[⟨[97],⟨[⟨3,0,0,0,0,[98],0,0,[]⟩],0⟩⟩,⟨[98],⟨[⟨3,0,0,0,0,[97],0,0,[]⟩],0⟩⟩]
theorem gc13_g:grOf 100000 32 [97,32,60,45,32,98,32,98,32,60,45,32,97]=some (gc13,0,.i64,0):=by kernel_rfl
def defBlk (b:Nat) (ds:List Df):Blk:=⟨b,.cells (ds.flatMap Df.cells).toArray 46 (0,0)⟩
theorem defBlk_gr {I:GH} {b n:Nat} {ds:List Df} (hn:ds.length=n) (hb:n≤1000) (hI:I b=none) (h:∀ d∈ds,d.ok I):Gr.ok (ins I b (defBlk b ds).obj) ⟨ds,some ⟨b,0,none⟩,n,n⟩:=by
 subst hn
 refine⟨⟨flat_len _ 3 Df.cells_len ds,⟨Nat.le_refl _,by simp only;omega⟩,.inr ⟨_,rfl,rfl,_,_,_,ins_self ..,?_⟩⟩,fun d hd=>(h d hd).mono (ins_le hI)⟩
 simp only[List.drop_zero]
 exact List.take_of_length_le (by rw[flat_len _ 3 Df.cells_len ds];exact Nat.le_refl _)
def idxF {α:Type}:Nat→List α→List (Nat×α)
 | _,[]=>[]
 | i,v::vs=>(i,v)::idxF (i+1) vs
theorem fillL_row (size:Nat):∀ (vs:List Value) (i:Nat) (pre post:List Value),pre.length=i * size→post.length=vs.length * size→(∀ v∈vs,v.cells.size=size) →
  fillL (fun j=>some (j * size,size)) (pre++post) (idxF i vs)=some (pre++vs.flatMap fun v=>v.cells.toList)
 | [],i,pre,post,h1,h2,h3=>by
  have:post=[]:=List.eq_nil_of_length_eq_zero (by simpa using h2)
  subst this
  rfl
 | v::vs,i,pre,post,h1,h2,h3=>by
  have hv:=h3 v (.head _)
  have hvl:v.cells.toList.length=size:=by simpa using hv
  have h2':post.length=vs.length * size+size:=by rw[h2,List.length_cons,Nat.add_mul,Nat.one_mul]
  have e1:Nat.ble (i * size+size) (pre++post).length=true:=by
   rw[Nat.ble_eq,List.length_append]
   omega
  have e2:splice (pre++post) (i * size) v.cells.toList=(pre++v.cells.toList)++post.drop size:=by
   unfold splice
   rw[←h1,List.take_left,hvl,List.drop_length_add_append]
  have ih:=fillL_row size vs (i+1) (pre++v.cells.toList) (post.drop size) (by rw[List.length_append,h1,hvl,Nat.add_mul,Nat.one_mul]) (by rw[List.length_drop];omega) fun w hw=>h3 w (.tail _ hw)
  rw[idxF,fillL]
  simp only[hv,Nat.beq_refl,e1,Bool.and_self,cond_true]
  rw[e2,ih,List.flatMap_cons,List.append_assoc]
theorem V_ops_cons {X:Ctx} {ops rest:List Oper} {o:Oper} {F:Fr} {C:Bx} {I:GH} {M:List Blk} {K:KS} (hg:o.guard=none) (h:V_op X o F C I M fun F C I M=>V_ops X ops rest F C I M K):V_ops X ops (o::rest) F C I M K:=by
 rw[V_ops,hg]
 exact h
theorem V_ops_to {X:Ctx} {ops rest:List Oper} {o:Oper} {F:Fr} {C:Bx} {I:GH} {M:List Blk} {K:KS} (hg:o.guard=none) (x:SV) (h:∀ K':KS,V_op X o F C I M K'=K' (put o.dst x F) C I M) (k:V_ops X ops rest (put o.dst x F) C I M K):V_ops X ops (o::rest) F C I M K:=by
 refine V_ops_cons hg ?_
 rw[h]
 exact k
theorem V_buildSlice {X:Ctx} {o:Oper} {F:Fr} {C:Bx} {I:GH} {M:List Blk} {K:KS} {t len e:Nat} {parts:Array (Nat×Operand)} (ho:o.op=.buildSlice t len parts) {ti ei:TI} (ht:X.E t=some ti) (hts:ti.sh=.slice e) (he:X.E e=some ei)
  (hlen:(Nat.ble (len * ei.size) 16777216 && Nat.blt 0 (len * ei.size))=true) (hz:(rowOf ei.zero (len * ei.size)).length=len * ei.size) (vs:List Value) (hvs:evParts F parts.toList=some (idxF 0 vs)) (hl:vs.length=len) (hsz:∀ v∈vs,v.cells.size=ei.size)
  (k:AllocOb I M fun b=>K (put o.dst (.val (.slice (some ⟨b,0,none⟩) len len)) F) C I (⟨b,.cells (vs.flatMap fun v=>v.cells.toList).toArray e (0,0)⟩::M)):V_op X o F C I M K:=by
 have hf:=fillL_row ei.size vs 0 [] (rowOf ei.zero (len * ei.size)) (by simp) (by rw[hz,hl]) hsz
 rw[List.nil_append,List.nil_append] at hf
 obtain⟨sz,by',z,sh⟩:=ti
 have hts:sh=.slice e:=hts
 subst hts
 unfold V_op
 rw[ho]
 simp only[ht,hvs,he,hlen,cond_true,hf]
 exact k
theorem V_buildSlice' {X:Ctx} {o:Oper} {F:Fr} {C:Bx} {I:GH} {M:List Blk} {K:KS} (vs:List Value) (len e:Nat)
  (h:∃ t parts ti ei,o.op=.buildSlice t len parts∧X.E t=some ti∧ti.sh=.slice e∧X.E e=some ei∧(Nat.ble (len * ei.size) 16777216 && Nat.blt 0 (len * ei.size))=true∧(rowOf ei.zero (len * ei.size)).length=len * ei.size∧evParts F parts.toList=some (idxF 0 vs)∧vs.length=len∧∀ v∈vs,v.cells.size=ei.size)
  (k:AllocOb I M fun b=>K (put o.dst (.val (.slice (some ⟨b,0,none⟩) len len)) F) C I (⟨b,.cells (vs.flatMap fun v=>v.cells.toList).toArray e (0,0)⟩::M)):V_op X o F C I M K:=by
 obtain⟨t,parts,ti,ei,h1,h2,h3,h4,h5,h6,h7,h8,h9⟩:=h
 exact V_buildSlice h1 h2 h3 h4 h5 h6 vs h7 h8 h9 k
theorem GuardOb.yz {c b:Bool} {Y N:Prop} (e:c=b) (h:Y):GuardOb c b Y N:=⟨fun _=>h,fun e'=>absurd (e.symm.trans e') (by cases b<;>simp)⟩
def rest13:List UInt8:=[32,120,32,60,45,32,34,120,34,32,121,32,60,45,32,34,121,34,63,32,122,32,60,45,32,91,93,32,110,32,60,45,32,34,34]
def item13 (x:List UInt8×Option Addr×List Nat):List Value:=[.string ⟨x.1.toArray⟩,.slice x.2.1 x.2.2.length x.2.2.length]
theorem item13_len (x:List UInt8×Option Addr×List Nat):(item13 x).length=2:=rfl
def rowW (b:Nat) (w:List Nat):Blk:=⟨b,.cells (intsV w).toArray 3 (0,0)⟩
theorem bytes_app (a b:List UInt8):(⟨a.toArray⟩:ByteArray)++⟨b.toArray⟩=⟨(a++b).toArray⟩:=by
 apply ByteArray.ext
 simp
def RdW (M0:List Blk) (a:Option Addr) (w:List Nat):Prop:=∀ (J:GH) (M:List Blk),(∀ z∈M0,z∈M)→∀ i (h:i < w.length),∃ ad,a=some ad∧Rd J M (ad.add (i * 1)) 1 [.int .i64 (w[i]:Nat)]
theorem rdW_of {M0:List Blk} {b:Nat} {w:List Nat} (h:rowW b w∈M0):RdW M0 (some ⟨b,0,none⟩) w:=fun J M hM i hi=>by
 refine⟨_,rfl,?_⟩
 have hl:(intsV w).length=w.length:=by simp[intsV]
 have:=blk_rd (I:=J) (M:=M) (b:=b) (cs:=intsV w) (k:=i * 1) (n:=1) (T:=3) (hM _ h) (by rw[hl];omega)
 rw[Nat.mul_one] at this ⊢
 have e:((intsV w).drop i).take 1=[.int .i64 (w[i]:Nat)]:=by
  rw[List.drop_eq_getElem_cons (by rw[hl];exact hi)]
  simp[intsV]
 rw[e] at this
 exact this
theorem rdW_nil {M0:List Blk} {a:Option Addr}:RdW M0 a []:=fun J M hM i hi=>absurd hi (Nat.not_lt_zero _)
theorem Rule_fr13 {I:GH} {M0:List Blk} {s:ByteArray} (hs:s.size≤140737488355328):Spec Tryz.prog 31 [.string s] I M0 fun v I' M'=>(∀ b o,I b=some o→I' b=some o)∧M'=M0∧∃ t:Tr,v=t.val∧t.ok I'∧t.ns=[leafNd 3 s]∧t.root=0:=by
 refine Spec.weakK (Spec.frame (Rule_spec (I:=I) hs)) ?_
 rintro v J M ⟨M',rfl,-,h1,-,t,rfl,ht,h2,h3,rfl⟩
 exact⟨h1,rfl,t,rfl,ht,h2,h3⟩
def bad13:List DfC:=[⟨[97],⟨[⟨3,0,0,0,0,[98],0,0,[]⟩],0⟩⟩]
theorem mayB13:mayG debL (grC bad13)=41:=by kernel_rfl
def gr013:Gr:=⟨[],none,0,0⟩
theorem gr013_ok {I:GH}:gr013.ok I:=⟨⟨rfl,⟨Nat.le_refl _,Nat.zero_le _⟩,.inl rfl⟩,fun d hd=>(by cases hd)⟩
theorem may013:mayG debL gr013=4:=by kernel_rfl
theorem bad_may {I:GH} {t:Tr} (ht:t.ok I) (hns:t.ns=[leafNd 3 ⟨#[98]⟩]) (hrt:t.root=0) {a:Option Addr} {c:Nat}:mayG debL ⟨[⟨⟨#[97]⟩,t⟩],a,1,c⟩=41:=by
 have hn:=ht.n
 rw[hns] at hn
 have hn:t.n=1:=by simpa using hn.symm
 have e:(⟨[⟨⟨#[97]⟩,t⟩],a,1,c⟩:Gr).ct=grC bad13:=by
  unfold Gr.ct grC
  simp only[List.map_cons,List.map_nil]
  unfold Df.ct Tr.ct
  rw[hns,hn,hrt]
  rfl
 rw[←mayG_ct,e]
 exact mayB13
theorem bad_kb {t:Tr} (hns:t.ns=[leafNd 3 ⟨#[98]⟩]):∀ d∈[(⟨⟨#[97]⟩,t⟩:Df)],KB d.t:=fun d hd n hn=>by
 rw[List.mem_singleton.1 hd] at hn
 have hn:n∈t.ns:=hn
 rw[hns,List.mem_singleton] at hn
 subst hn
 show 0≤_
 omega
theorem IsLefts.no {deb:List Int} {g:Gr} {r:Int} {l:List Nat} (h:IsLefts deb g r l) (hno:mayG deb g≠0∨r < 0∨(g.n:Int)≤r):l.length=0:=by
 rcases h with ⟨-,rfl⟩ | ⟨a,F,k,rfl,b,-⟩
 ·rfl
 ·rcases hno with h | h | h
  ·exact absurd a h
  ·omega
  ·omega
theorem IsLoops.no {deb:List Int} {g:Gr} {l:List Nat} (h:IsLoops deb g l) (hno:mayG deb g≠0):l.length=0:=by
 rcases h with ⟨-,rfl⟩ | ⟨a,-⟩
 ·rfl
 ·exact absurd a hno
theorem IsLeft.no {deb:List Int} {g:Gr} {l:List Nat} (h:IsLeft deb g l) (hno:mayG deb g≠0):l.length=0:=by
 rcases h with ⟨-,rfl⟩ | ⟨a,-⟩
 ·rfl
 ·exact absurd a hno
theorem Where_fix {I:GH} {M0:List Blk} (hT:Tabs I debL) {g:Gr} (hg:g.ok I) (hkb:∀ d∈g.ds,KB d.t) {m:Int} (hm:mayG debL g=m) (h0:m≠0):Spec Tryz.prog 20 [g.val] I M0 fun v I' M'=>(∀ b o,I b=some o→I' b=some o)∧M'=M0∧v=.tuple #[.int .i64 0,.int .i64 m]:=by
 refine Spec.weakK (WWhere_own hT hg hkb) ?_
 rintro v J N ⟨h1,rfl,r,rfl,⟨-,rfl⟩ | ⟨e,-⟩⟩
 ·exact⟨h1,rfl,by rw[hm]⟩
 ·exact absurd (hm.symm.trans e) h0
theorem Check_fix {I:GH} {M0:List Blk} (hT:Tabs I debL) {g:Gr} (hg:g.ok I) (hkb:∀ d∈g.ds,KB d.t) {m:Int} (hm:mayG debL g=m) (h0:m≠0):Spec Tryz.prog 21 [g.val] I M0 fun v I' M'=>(∀ b o,I b=some o→I' b=some o)∧M'=M0∧v=.int .i64 m:=by
 refine Spec.weakK (WCheck_own hT hg hkb) ?_
 rintro v J N ⟨h1,rfl,r,rfl,⟨-,rfl⟩ | ⟨e,-⟩⟩
 ·exact⟨h1,rfl,by rw[hm]⟩
 ·exact absurd (hm.symm.trans e) h0
def SlN (k:Nat) (I:GH) (M0:List Blk) (v:Value) (I':GH) (M':List Blk):Prop:=(∀ b o,I b=some o→I' b=some o)∧∃ a c M1,v=.slice a k c∧M'=M1++M0
theorem Lefts_fix {I:GH} {M0:List Blk} (hT:Tabs I debL) {g:Gr} (hg:g.ok I) (hkb:∀ d∈g.ds,KB d.t) {r:Int} (hno:mayG debL g≠0∨r < 0∨(g.n:Int)≤r):Spec Tryz.prog 26 [g.val,.int .i64 r] I M0 (SlN 0 I M0):=by
 refine Spec.weakK (WLefts_own hT hg hkb r) ?_
 rintro v J N ⟨h1,o,l,ho,rfl,rfl,hl⟩
 have e:o.n=0:=by rw[←OS.pos ho];exact hl.no hno
 exact⟨h1,_,_,_,by unfold OS.val;rw[e],rfl⟩
theorem Left_fix {I:GH} {M0:List Blk} (hT:Tabs I debL) {g:Gr} (hg:g.ok I) (hkb:∀ d∈g.ds,KB d.t) {k:Nat} (hk:∀ l,IsLeft debL g l→l.length=k):Spec Tryz.prog 24 [g.val] I M0 (SlN k I M0):=by
 refine Spec.weakK (WLeft_own hT hg hkb) ?_
 rintro v J N ⟨h1,o,l,ho,rfl,rfl,hl⟩
 have e:o.n=k:=by rw[←OS.pos ho];exact hk l hl
 exact⟨h1,_,_,_,by unfold OS.val;rw[e],rfl⟩
theorem Loops_fix {I:GH} {M0:List Blk} (hT:Tabs I debL) {g:Gr} (hg:g.ok I) (hkb:∀ d∈g.ds,KB d.t) {k:Nat} (hk:∀ l,IsLoops debL g l→l.length=k):Spec Tryz.prog 25 [g.val] I M0 (SlN k I M0):=by
 refine Spec.weakK (WLoops_own hT hg hkb) ?_
 rintro v J N ⟨h1,o,l,ho,rfl,rfl,hl⟩
 have e:o.n=k:=by rw[←OS.pos ho];exact hk l hl
 exact⟨h1,_,_,_,by unfold OS.val;rw[e],rfl⟩
theorem SlN.keep {k:Nat} {I:GH} {M0:List Blk} {v:Value} {I':GH} {M':List Blk} (h:SlN k I M0 v I' M'):∀ x∈M0,x∈M':=fun x hx=>by
 obtain⟨-,a,c,M1,-,e⟩:=h
 rw[e]
 exact List.mem_append.2 (.inr hx)
theorem chk_g13:chk13 gc13 (flC gc13 6) 6=true:=by kernel_rfl
theorem left_g13:(leftC (grC gc13).ds (flC gc13 6)).length=2:=by kernel_rfl
theorem loops_g13:(refLoops (grC gc13).ds (flC gc13 6)).length=0:=by kernel_rfl
def items13 (b0 b1 b2 b3 b4 b5 b6 b7 b8 b9 b10 b11 b12 b13 b15:Nat):List (List UInt8×Option Addr×List Nat):=[([97,32,60,45,32,120,32,121],some ⟨b0,0,none⟩,[1]),([97,32,60,45,32,121,32,120],some ⟨b1,0,none⟩,[1,2]),([97,32,60,45,32,121,32,121,32,122,32,110,32,120],some ⟨b2,0,none⟩,[2,3]),([97,32,60,45,32,110,32,120,32,47,32,122],some ⟨b3,0,none⟩,[1,3,4]),([97,32,60,45,32,120,42,32,121],some ⟨b4,0,none⟩,[1,2]),([97,32,60,45,32,120,43,32,121],some ⟨b5,0,none⟩,[1]),([97,32,60,45,32,120,123,48,125,32,121],some ⟨b6,0,none⟩,[2]),([97,32,60,45,32,121,123,50,125,32,120],some ⟨b7,0,none⟩,[1,2]),([97,32,60,45,32,38,120,32,121],some ⟨b8,0,none⟩,[1,2]),([97,32,60,45,32,33,120,32,121],some ⟨b9,0,none⟩,[1,2]),([97,32,60,45,32,33,110,32,120],some ⟨b10,0,none⟩,[4]),([97,32,60,45,32,38,122,32,120],some ⟨b11,0,none⟩,[3]),([97,32,60,45,32,60,110,58,32,121,62,32,120],some ⟨b12,0,none⟩,[1,2]),([97,32,60,45,32,40,120,32,47,32,34,34,41,32,122],some ⟨b13,0,none⟩,[1,3]),([97,32,60,45,32,34,113,34,32,120],none,[]),([97,32,60,45,32,110,32,110],some ⟨b15,0,none⟩,[4])]
def mem13 (b0 b1 b2 b3 b4 b5 b6 b7 b8 b9 b10 b11 b12 b13 b15:Nat):List Blk:=[rowW b15 [4],rowW b13 [1,3],rowW b12 [1,2],rowW b11 [3],rowW b10 [4],rowW b9 [1,2],rowW b8 [1,2],rowW b7 [1,2],rowW b6 [2],rowW b5 [1],rowW b4 [1,2],rowW b3 [1,3,4],rowW b2 [2,3],rowW b1 [1,2],rowW b0 [1]]
set_option maxRecDepth 100000 in
theorem items13_ok (b0 b1 b2 b3 b4 b5 b6 b7 b8 b9 b10 b11 b12 b13 b15:Nat) (M0:List Blk) (hM:∀ z∈mem13 b0 b1 b2 b3 b4 b5 b6 b7 b8 b9 b10 b11 b12 b13 b15,z∈M0):∀ x∈items13 b0 b1 b2 b3 b4 b5 b6 b7 b8 b9 b10 b11 b12 b13 b15,LfOk (x.1++rest13,x.2.2)∧RdW M0 x.2.1 x.2.2∧x.1.length≤1000:=by
 have h:∀ x∈items13 b0 b1 b2 b3 b4 b5 b6 b7 b8 b9 b10 b11 b12 b13 b15,LfOk (x.1++rest13,x.2.2)∧RdW (mem13 b0 b1 b2 b3 b4 b5 b6 b7 b8 b9 b10 b11 b12 b13 b15) x.2.1 x.2.2∧x.1.length≤1000:=List.forall_mem_cons.2 ⟨⟨lc13_0_ok,rdW_of (.tail _ (.tail _ (.tail _ (.tail _ (.tail _ (.tail _ (.tail _ (.tail _ (.tail _ (.tail _ (.tail _ (.tail _ (.tail _ (.tail _ (.head _))))))))))))))),Nat.le_of_ble_eq_true rfl⟩,List.forall_mem_cons.2 ⟨⟨lc13_1_ok,rdW_of (.tail _ (.tail _ (.tail _ (.tail _ (.tail _ (.tail _ (.tail _ (.tail _ (.tail _ (.tail _ (.tail _ (.tail _ (.tail _ (.head _)))))))))))))),Nat.le_of_ble_eq_true rfl⟩,List.forall_mem_cons.2 ⟨⟨lc13_2_ok,rdW_of (.tail _ (.tail _ (.tail _ (.tail _ (.tail _ (.tail _ (.tail _ (.tail _ (.tail _ (.tail _ (.tail _ (.tail _ (.head _))))))))))))),Nat.le_of_ble_eq_true rfl⟩,List.forall_mem_cons.2 ⟨⟨lc13_3_ok,rdW_of (.tail _ (.tail _ (.tail _ (.tail _ (.tail _ (.tail _ (.tail _ (.tail _ (.tail _ (.tail _ (.tail _ (.head _)))))))))))),Nat.le_of_ble_eq_true rfl⟩,List.forall_mem_cons.2 ⟨⟨lc13_4_ok,rdW_of (.tail _ (.tail _ (.tail _ (.tail _ (.tail _ (.tail _ (.tail _ (.tail _ (.tail _ (.tail _ (.head _))))))))))),Nat.le_of_ble_eq_true rfl⟩,List.forall_mem_cons.2 ⟨⟨lc13_5_ok,rdW_of (.tail _ (.tail _ (.tail _ (.tail _ (.tail _ (.tail _ (.tail _ (.tail _ (.tail _ (.head _)))))))))),Nat.le_of_ble_eq_true rfl⟩,List.forall_mem_cons.2 ⟨⟨lc13_6_ok,rdW_of (.tail _ (.tail _ (.tail _ (.tail _ (.tail _ (.tail _ (.tail _ (.tail _ (.head _))))))))),Nat.le_of_ble_eq_true rfl⟩,List.forall_mem_cons.2 ⟨⟨lc13_7_ok,rdW_of (.tail _ (.tail _ (.tail _ (.tail _ (.tail _ (.tail _ (.tail _ (.head _)))))))),Nat.le_of_ble_eq_true rfl⟩,List.forall_mem_cons.2 ⟨⟨lc13_8_ok,rdW_of (.tail _ (.tail _ (.tail _ (.tail _ (.tail _ (.tail _ (.head _))))))),Nat.le_of_ble_eq_true rfl⟩,List.forall_mem_cons.2 ⟨⟨lc13_9_ok,rdW_of (.tail _ (.tail _ (.tail _ (.tail _ (.tail _ (.head _)))))),Nat.le_of_ble_eq_true rfl⟩,List.forall_mem_cons.2 ⟨⟨lc13_10_ok,rdW_of (.tail _ (.tail _ (.tail _ (.tail _ (.head _))))),Nat.le_of_ble_eq_true rfl⟩,List.forall_mem_cons.2 ⟨⟨lc13_11_ok,rdW_of (.tail _ (.tail _ (.tail _ (.head _)))),Nat.le_of_ble_eq_true rfl⟩,List.forall_mem_cons.2 ⟨⟨lc13_12_ok,rdW_of (.tail _ (.tail _ (.head _))),Nat.le_of_ble_eq_true rfl⟩,List.forall_mem_cons.2 ⟨⟨lc13_13_ok,rdW_of (.tail _ (.head _)),Nat.le_of_ble_eq_true rfl⟩,List.forall_mem_cons.2 ⟨⟨lc13_14_ok,rdW_nil,Nat.le_of_ble_eq_true rfl⟩,List.forall_mem_cons.2 ⟨⟨lc13_15_ok,rdW_of (.head _),Nat.le_of_ble_eq_true rfl⟩,(fun x hx=>by cases hx)⟩⟩⟩⟩⟩⟩⟩⟩⟩⟩⟩⟩⟩⟩⟩⟩
 exact fun x hx=>⟨(h x hx).1,fun J M h2=>(h x hx).2.1 J M fun z hz=>h2 z (hM z hz),(h x hx).2.2⟩
set_option maxRecDepth 100000 in
set_option maxHeartbeats 16000000 in
theorem wellNames_V {I:GH} (hT:Tabs I debL):SpecE Tryz.prog 5 [] I [] fun v I' M'=>v=.bool true:=by
 refine specE_of_V [] TryzEOK Tryz.func5 rfl rfl rfl ?_
 intro B h0
 refine CallOb.mk [] [] _ (.refl _) (awake13_spec hT) ?_
 rintro v J0 N - ⟨rfl,hJ0,rfl⟩
 refine CondOb.mk (fun h=>by cases h) (fun _=>?_)
 refine AllocOb.mk fun b0 hb0 hbM0=>?_
 refine AllocOb.mk fun b1 hb1 hbM1=>?_
 refine AllocOb.mk fun b2 hb2 hbM2=>?_
 refine AllocOb.mk fun b3 hb3 hbM3=>?_
 refine AllocOb.mk fun b4 hb4 hbM4=>?_
 refine AllocOb.mk fun b5 hb5 hbM5=>?_
 refine AllocOb.mk fun b6 hb6 hbM6=>?_
 refine AllocOb.mk fun b7 hb7 hbM7=>?_
 refine AllocOb.mk fun b8 hb8 hbM8=>?_
 refine AllocOb.mk fun b9 hb9 hbM9=>?_
 refine AllocOb.mk fun b10 hb10 hbM10=>?_
 refine AllocOb.mk fun b11 hb11 hbM11=>?_
 refine AllocOb.mk fun b12 hb12 hbM12=>?_
 refine AllocOb.mk fun b13 hb13 hbM13=>?_
 refine AllocOb.mk ?_
 intro b15 hb15 hbM15
 show V_ops _ _ (_::_) _ _ _ _ _
 refine @V_ops_to _ _ _ _ _ _ _ _ _ ?_ ?_ ?_ ?_
 ·rfl
 ·exact .val (.agg (item13 ([97,32,60,45,32,110,32,110],some ⟨b15,0,none⟩,[4])).toArray)
 ·intro K'
  rfl
 refine @V_ops_cons _ _ _ _ _ _ _ _ _ ?_ ?_
 ·rfl
 refine @V_buildSlice' _ _ _ _ _ _ _ ?_ ?_ ?_ ?_ ?_
 ·exact(items13 b0 b1 b2 b3 b4 b5 b6 b7 b8 b9 b10 b11 b12 b13 b15).map fun x=>.agg (item13 x).toArray
 ·exact 16
 ·exact 37
 ·refine⟨_,_,_,_,rfl,rfl,rfl,rfl,rfl,rfl,rfl,rfl,?_⟩
  intro v hv
  obtain⟨x,-,rfl⟩:=List.mem_map.1 hv
  rfl
 refine AllocOb.mk fun bt hbt hbMt=>?_
 have hlen:(items13 b0 b1 b2 b3 b4 b5 b6 b7 b8 b9 b10 b11 b12 b13 b15).length=16:=rfl
 refine LoopOb.inv (ι:=Nat×GH) (fun s=>{ fl:=[(42,.val (.slice (some ⟨bt,0,none⟩) 16 16)),(43,.val (.int .i64 16)),(44,.val (.int .i64 s.1))],gi:=s.2,mi:=⟨bt,.cells ((items13 b0 b1 b2 b3 b4 b5 b6 b7 b8 b9 b10 b11 b12 b13 b15).flatMap item13).toArray 37 (0,0)⟩::mem13 b0 b1 b2 b3 b4 b5 b6 b7 b8 b9 b10 b11 b12 b13 b15 }) (fun s=>s.1≤16∧∀ b o,J0 b=some o→s.2 b=some o) (fun s=>16 - s.1) ?_ ?_
 ·exact⟨(0,J0),⟨by simp,fun _ _ h=>h⟩,.refl,aF3,.nil⟩
 have hall:=items13_ok b0 b1 b2 b3 b4 b5 b6 b7 b8 b9 b10 b11 b12 b13 b15 (⟨bt,.cells ((items13 b0 b1 b2 b3 b4 b5 b6 b7 b8 b9 b10 b11 b12 b13 b15).flatMap item13).toArray 37 (0,0)⟩::mem13 b0 b1 b2 b3 b4 b5 b6 b7 b8 b9 b10 b11 b12 b13 b15) (fun z hz=>.tail _ hz)
 have hrow:∀ (K:GH) i (h:i < (items13 b0 b1 b2 b3 b4 b5 b6 b7 b8 b9 b10 b11 b12 b13 b15).length),Rd K (⟨bt,.cells ((items13 b0 b1 b2 b3 b4 b5 b6 b7 b8 b9 b10 b11 b12 b13 b15).flatMap item13).toArray 37 (0,0)⟩::mem13 b0 b1 b2 b3 b4 b5 b6 b7 b8 b9 b10 b11 b12 b13 b15) ((⟨bt,0,none⟩:Addr).add (i * 2)) 2 (item13 (items13 b0 b1 b2 b3 b4 b5 b6 b7 b8 b9 b10 b11 b12 b13 b15)[i]):=fun K i h=>by
  have:=blk_rd (I:=K) (b:=bt) (T:=37) (M:=⟨bt,.cells ((items13 b0 b1 b2 b3 b4 b5 b6 b7 b8 b9 b10 b11 b12 b13 b15).flatMap item13).toArray 37 (0,0)⟩::mem13 b0 b1 b2 b3 b4 b5 b6 b7 b8 b9 b10 b11 b12 b13 b15) (cs:=(items13 b0 b1 b2 b3 b4 b5 b6 b7 b8 b9 b10 b11 b12 b13 b15).flatMap item13) (k:=i * 2) (n:=2) (.head _) (by rw[flat_len item13 2 item13_len];omega)
  rwa [flat_at item13 2 item13_len _ i h] at this
 generalize (⟨bt,.cells ((items13 b0 b1 b2 b3 b4 b5 b6 b7 b8 b9 b10 b11 b12 b13 b15).flatMap item13).toArray 37 (0,0)⟩::mem13 b0 b1 b2 b3 b4 b5 b6 b7 b8 b9 b10 b11 b12 b13 b15:List Blk)=M16 at hall hrow
 generalize items13 b0 b1 b2 b3 b4 b5 b6 b7 b8 b9 b10 b11 b12 b13 b15=L16 at hall hrow hlen
 rintro⟨i,J⟩ ⟨hi,hJ⟩
 simp only at hi hJ
 have hT0:=hT.mono hJ0
 have hTJ:=hT0.mono hJ
 refine CondOb.mk (fun h=>?_) (fun h=>?_)
 ·have hlt:i < 16:=by have:(i:Int) < 16:=of_decide_eq_true h;omega
  have hil:i < L16.length:=by omega
  obtain⟨hlf,hrw,hsz⟩:=hall _ (List.getElem_mem hil)
  have hrd:=hrow J i hil
  generalize L16[i]=c at hlf hrw hrd hsz
  refine IdxOb.mk ⟨bt,0,none⟩ i rfl rfl hlt ?_
  refine LoadOb.mk _ hrd ?_
  refine BinOb.concat (a:=⟨c.1.toArray⟩) (b:=⟨rest13.toArray⟩) ?_ ?_
  ·show c.1.length+rest13.length≤_
   have:rest13.length≤1000:=Nat.le_of_ble_eq_true rfl
   omega
  have hsp:=hlf (M0:=M16) hTJ (a:=c.2.1) (n:=c.2.2.length) (cp:=c.2.2.length) rfl hrw
  rw[←bytes_app] at hsp
  refine CallOb.whole _ hsp ?_
  rintro v J1 N - ⟨rfl,hJ1,hN⟩
  subst N
  refine CondOb.mk (fun h=>by cases h) (fun _=>?_)
  refine ArithOb.mk _ (next_wr (i:=i) (by omega)) ?_
  exact⟨(i+1,J1),⟨⟨hlt,fun b o h=>hJ1 _ _ (hJ _ _ h)⟩,by simp only;omega⟩,.refl,aF3,.nil⟩
 clear hall hrow hlen
 refine CallOb.mk [] M16 _ (.refl _) (we13_0_ok hTJ) ?_
 rintro v Jw1 N - ⟨rfl,hJw1,rfl⟩
 have hTw1:=hTJ.mono hJw1
 refine GuardOb.mk (fun _=>?_) (fun h=>absurd h (by simp))
 refine CallOb.mk [] M16 _ (.refl _) (we13_1_ok hTw1) ?_
 rintro v Jw2 N - ⟨rfl,hJw2,rfl⟩
 have hTw2:=hTw1.mono hJw2
 refine GuardOb.mk (fun _=>?_) (fun h=>absurd h (by simp))
 refine CallOb.mk [] M16 _ (.refl _) (we13_2_ok hTw2) ?_
 rintro v Jw3 N - ⟨rfl,hJw3,rfl⟩
 have hTw3:=hTw2.mono hJw3
 refine GuardOb.mk (fun _=>?_) (fun h=>absurd h (by simp))
 refine CallOb.mk [] M16 _ (.refl _) (we13_3_ok hTw3) ?_
 rintro v Jw4 N - ⟨rfl,hJw4,rfl⟩
 have hTw4:=hTw3.mono hJw4
 refine GuardOb.mk (fun _=>?_) (fun h=>absurd h (by simp))
 refine CallOb.mk [] M16 _ (.refl _) (we13_4_ok hTw4) ?_
 rintro v Jw5 N - ⟨rfl,hJw5,rfl⟩
 have hTw5:=hTw4.mono hJw5
 refine GuardOb.mk (fun _=>?_) (fun h=>absurd h (by simp))
 refine CallOb.mk [] M16 _ (.refl _) (we13_5_ok hTw5) ?_
 rintro v Jw6 N - ⟨rfl,hJw6,rfl⟩
 have hTw6:=hTw5.mono hJw6
 refine GuardOb.mk (fun _=>?_) (fun h=>absurd h (by simp))
 refine CallOb.mk [] M16 _ (.refl _) (we13_6_ok hTw6) ?_
 rintro v Jw7 N - ⟨rfl,hJw7,rfl⟩
 have hTw7:=hTw6.mono hJw7
 refine CondOb.mk (fun h=>absurd h (by simp)) (fun _=>?_)
 refine CallOb.whole _ (Rule_fr13 (s:=⟨#[98]⟩) (by decide)) ?_
 rintro v Jt N - ⟨hJt,hN,t,rfl,ht,htn,htr⟩
 subst N
 have hTt:=hTw7.mono hJt
 refine AllocOb.mk fun bd hbd hbMd=>?_
 have hbad:Gr.ok (ins Jt bd (defBlk bd [⟨⟨#[97]⟩,t⟩]).obj) ⟨[⟨⟨#[97]⟩,t⟩],some ⟨bd,0,none⟩,1,1⟩:=defBlk_gr rfl (by decide) hbd fun d hd=>by
  rw[List.mem_singleton.1 hd]
  exact⟨(by decide:(1:Nat)≤140737488355328),ht⟩
 have hle:∀ b o,Jt b=some o→ins Jt bd (defBlk bd [⟨⟨#[97]⟩,t⟩]).obj b=some o:=ins_le hbd
 have hmb:mayG debL ⟨[⟨⟨#[97]⟩,t⟩],some ⟨bd,0,none⟩,1,1⟩=41:=bad_may ht htn htr
 have hkb:=bad_kb htn
 have hTb:=hTt.mono hle
 have hnb:mayG debL ⟨[⟨⟨#[97]⟩,t⟩],some ⟨bd,0,none⟩,1,1⟩≠0:=by rw[hmb];decide
 have hwb:=Where_fix (M0:=[]) hTb hbad hkb hmb (by decide)
 refine CallOb.mkW _ [] [] _ (.prom (b:=bd) (o:=(defBlk bd [⟨⟨#[97]⟩,t⟩]).obj) (post:=M16) rfl (by simp) (.sub (List.nil_sublist _) .refl)) hwb ?_
 rintro v Jx N - - ⟨hJx,rfl,rfl⟩
 have hTx:=hTb.mono hJx
 have hbx:=hbad.mono hJx
 clear hle hTb hJx hbMd hbd hwb
 refine CallOb.mk [] [] _ (.refl _) (grOf_spec hTx gc13_g) ?_
 rintro v Jg N - ⟨rfl,hJg,g,rfl,hg,hR⟩
 have hTg:=hTx.mono hJg
 have hbg:=hbx.mono hJg
 have hK:=known13_of chk_g13
 obtain⟨hm,hF,hkg⟩:=hK.of hg hR
 have hds:g.ds.map Df.ct=(grC gc13).ds:=congrArg Gr.ds (gr_ct hR hg)
 have hM:=mayF_of hg.n hm
 have hgn2:g.n=2:=by
  have h1:=hg.n
  have h2:=hR.len
  have h3:gc13.length=2:=rfl
  omega
 have e6:∀ l,IsLeft debL g l→l.length=2:=fun l hl=>by
  rw[hl.get hm,flowG_eq hF,←leftC_eq hM,←leftC_ct,hds]
  exact left_g13
 have e7:∀ l,IsLoops debL g l→l.length=0:=fun l hl=>by
  rw[hl.get hm,flowG_eq hF,←refLoops_ct,hds]
  exact loops_g13
 have hno2:mayG debL g≠0∨(2:Int) < 0∨(g.n:Int)≤2:=.inr (.inr (by rw[hgn2];decide))
 clear hK hR hF hds hM hm hgn2 hbx hbad hTx
 refine CodeOb.draw TryzEOK rfl rfl rfl ?_
 refine GuardOb.yz (by kernel_rfl) ?_
 refine GuardOb.yz (by kernel_rfl) ?_
 refine CallOb.whole _ (Check_fix (M0:=[]) hTg gr013_ok (fun d hd=>by cases hd) may013 (by decide)) ?_
 rintro v Jc N - ⟨hJc,hN,rfl⟩
 subst N
 have hTc:=hTg.mono hJc
 have hbc:=hbg.mono hJc
 have hgc:=hg.mono hJc
 refine GuardOb.yz (by kernel_rfl) ?_
 refine PCallOb.whole _ (Lefts_fix (M0:=[]) hTc hbc hkb (r:=0) (.inl hnb)) (fun v I' M' h=>h.keep) ?_
 rintro v J1 N - ⟨hJ1,a1,c1,N1,rfl,hN⟩
 subst N
 have hT1:=hTc.mono hJ1
 have hb1':=hbc.mono hJ1
 have hg1:=hgc.mono hJ1
 refine PCallOb.whole _ (Left_fix hT1 hb1' hkb (k:=0) fun l hl=>hl.no hnb) (fun v I' M' h=>h.keep) ?_
 rintro v J2 N - ⟨hJ2,a2,c2,N2,rfl,hN⟩
 subst N
 have hT2:=hT1.mono hJ2
 have hb2':=hb1'.mono hJ2
 have hg2:=hg1.mono hJ2
 refine ArithOb.mk 0 rfl ?_
 refine PCallOb.whole _ (Loops_fix hT2 hb2' hkb (k:=0) fun l hl=>hl.no hnb) (fun v I' M' h=>h.keep) ?_
 rintro v J3 N - ⟨hJ3,a3,c3,N3,rfl,hN⟩
 subst N
 have hT3:=hT2.mono hJ3
 have hg3:=hg2.mono hJ3
 refine ArithOb.mk 0 rfl ?_
 refine PCallOb.whole _ (Lefts_fix hT3 hg3 hkg (r:=-1) (.inr (.inl (by decide)))) (fun v I' M' h=>h.keep) ?_
 rintro v J4 N - ⟨hJ4,a4,c4,N4,rfl,hN⟩
 subst N
 have hT4:=hT3.mono hJ4
 have hg4:=hg3.mono hJ4
 refine ArithOb.mk 0 rfl ?_
 refine PCallOb.whole _ (Lefts_fix hT4 hg4 hkg (r:=2) hno2) (fun v I' M' h=>h.keep) ?_
 rintro v J5 N - ⟨hJ5,a5,c5,N5,rfl,hN⟩
 subst N
 have hT5:=hT4.mono hJ5
 have hg5:=hg4.mono hJ5
 refine ArithOb.mk 0 rfl ?_
 refine GuardOb.yz (by kernel_rfl) ?_
 refine CallOb.whole _ (Left_fix hT5 hg5 hkg e6) ?_
 rintro v J6 N - ⟨hJ6,a6,c6,N6,rfl,hN⟩
 subst N
 have hT6:=hT5.mono hJ6
 have hg6:=hg5.mono hJ6
 refine GuardOb.yz (by kernel_rfl) ?_
 refine CallOb.whole _ (Loops_fix hT6 hg6 hkg e7) ?_
 rintro v J7 N - ⟨hJ7,a7,c7,N7,rfl,hN⟩
 subst N
 exact⟨_,_,.refl,rfl⟩
end Go.V
