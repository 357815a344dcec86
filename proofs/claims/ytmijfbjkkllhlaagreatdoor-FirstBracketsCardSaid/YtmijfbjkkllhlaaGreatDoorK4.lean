/-
  Part 4 of what the proofs of this seat share: the executor, data in memory, walks.
-/
import Derived.Test.YtmijfbjkkllhlaaGreatDoorK3
import Derived.Test.YtmijfbjkkllhlaaGreatDoorK2
set_option linter.all false
namespace Go.V
open Go Go.Proofs
theorem lies_many (k:Nat):liesAt Tryz.prog Tryz.prog.depth 229 ((k+1) * 2 / Tryz.prog.cellsOf 229) 0 229 1=true:=by
 have h2:Tryz.prog.cellsOf 229=2:=by kernel_rfl
 have hd:Tryz.prog.depth=(Tryz.prog.depth - 1)+1:=by kernel_rfl
 have hsl:sameLayout Tryz.prog Tryz.prog.depth 229 229=true:=by kernel_rfl
 have hr:rowAt Tryz.prog (sameLayout Tryz.prog Tryz.prog.depth · 229) Tryz.prog.depth 229 (k+1) 0 1=true:=by
  generalize hf:(sameLayout Tryz.prog Tryz.prog.depth · 229)=f
  have hf':f 229=true:=by rw[←hf];exact hsl
  rw[hd]
  unfold rowAt
  simp only[h2,hf']
  simp
 rw[h2,Nat.mul_div_cancel _ (by decide:0 < 2)]
 rw[hd]
 unfold liesAt
 rw[hr]
 rfl
theorem copyCheckN {I:GH} (pre post:List Blk) (b:Nat) (v:Value) (k:Nat) (rest:List Value) (hr:rest.length=2 * k) :
  Spec Tryz.prog 203 [ptr b] I (pre++⟨b,.cells (.pointer none::v::rest).toArray 229 (0,0)⟩::post) fun r I' M'=>r=.tuple #[]∧I'=I∧M'=pre++⟨b,.cells (splice (.pointer none::v::rest) 0 [ptr b]).toArray 229 (0,0)⟩::post:=by
 obtain⟨inf,z,hi,hi1,_⟩:=(TryzEOK 229 _ rfl).inf
 refine spec_of_V [] TryzEOK Tryz.func203 rfl rfl rfl ?_
 intro B h0
 have hm:∀ {o:Obj},(⟨b,o⟩:Blk)∈pre++⟨b,o⟩::post:=fun {o}=>List.mem_append.2 (.inr (.head _))
 have hsz:(Value.pointer none::v::rest).toArray.size=(k+1) * 2:=by
  simp[hr]
  omega
 have hl:liesAt Tryz.prog Tryz.prog.depth 229 ((Value.pointer none::v::rest).toArray.size / Tryz.prog.cellsOf 229) 0 229 1=true:=by
  rw[hsz]
  exact lies_many k
 refine LoadOb.mk [.pointer none] (blk_rd (cs:=.pointer none::v::rest) (k:=0) (n:=1) (T:=229) hm (by simp)) ?_
 refine .other (OtherOb.eqNil TryzEOK rfl (by simp) rfl rfl rfl rfl ?_)
 refine CondOb.mk (fun _=>?_) (fun h=>by cases h)
 refine OtherOb.conv rfl (by simp) rfl (fun w hw=>Lib.run_to_unsafe (t:=229) (e:=229) w ⟨b,0,none⟩ (by kernel_rfl) (by kernel_rfl) (j:=inf) (cells:=(Value.pointer none::v::rest).toArray.size) hi (by rw[hi1];decide) (shape_of hw hm) (by rw[hsz];show 0 < _;omega)) ?_
 refine CallOb.mk (pre++⟨b,.cells (.pointer none::v::rest).toArray 229 (0,0)⟩::post) [] _ (by simp) (NoEscape_spec _) ?_
 rintro v I' M' - ⟨rfl,rfl,rfl⟩
 refine OtherOb.conv rfl (by simp) rfl (fun w hw=>Lib.run_from_unsafe (u:=229) (e:=229) w ⟨b,0,none⟩ (by kernel_rfl) (by kernel_rfl) (j:=inf) (cells:=(Value.pointer none::v::rest).toArray.size) hi (shape_of hw (List.mem_append.2 (.inl hm))) hl) ?_
 refine StoreOb.mk pre post _ _ (List.append_nil _) rfl (by rw[hsz];show 0+0+1≤(k+1) * 2;omega) rfl ?_
 exact⟨_,_,.refl,rfl,rfl,rfl⟩
theorem copyCheckU {I:GH} {M:List Blk} {b:Nat} {arr:Array Value} {T:Nat} (hM:(⟨b,.cells arr T (0,0)⟩:Blk)∈M) (h0:arr[0]?=some (ptr b)) :
  Spec Tryz.prog 203 [ptr b] I M fun r I' M'=>r=.tuple #[]∧I'=I∧M'=M:=by
 refine spec_of_V [] TryzEOK Tryz.func203 rfl rfl rfl ?_
 intro B h0'
 have hr:Rd I M ((⟨b,0,none⟩:Addr).add 0) 1 [ptr b]:=by
  obtain⟨l⟩:=arr
  cases l with
  | nil=>simp at h0
  | cons x l=>
   simp only[List.getElem?_toArray,List.getElem?_cons_zero,Option.some.injEq] at h0
   subst h0
   exact blk_rd (cs:=ptr b::l) (k:=0) (n:=1) hM (by simp)
 refine LoadOb.mk [ptr b] hr ?_
 refine .other (OtherOb.eqNil TryzEOK rfl (by simp) rfl rfl rfl rfl ?_)
 refine CondOb.mk (fun h=>by cases h) (fun _=>?_)
 refine LoadOb.mk [ptr b] hr ?_
 refine .other (OtherOb.neSame TryzEOK rfl (by simp) rfl rfl rfl rfl rfl ?_)
 refine CondOb.mk (fun h=>by cases h) (fun _=>?_)
 exact⟨_,_,.refl,rfl,rfl,rfl⟩
theorem store_at {Y:RK} {D:Nm} {m:Me} {I:GH} {M:List Blk} {R:Type} {id off:Nat} {cs:Tri EV} {T lim:Nat} {a:Loc} {arr:Array Value} {pre post:List Blk} (hm:MS Y D m I M) (hg:m.t.get id=some (.cells cs T lim)) (ha:D id=some a)
  (ho:a.o=0) (hsp:M=pre++⟨a.b,.cells arr T (0,0)⟩::post) (hsz:a.o+lim≤arr.size) (hc:∀ i v,i < lim→cs.get i=some v→∃ x,arr[a.o+i]?=some x∧VR D v x) (hk:∀ i,Y.E T=some i→arr.size=a.o+a.c * i.size) (hmx:a.c≤maxLen)
  {l:List EV} {vs:List Value} (hl:VRs D l vs) {K:Me→Option R} {r:R} (h:storeE m (.p id off) l K=some r) :
  ∃ m',K m'=some r∧m'.n=m.n∧off+vs.length≤arr.size∧MS Y D m' I (pre++⟨a.b,.cells (splice arr.toList off vs).toArray T (0,0)⟩::post):=by
 unfold storeE at h
 simp only[hg] at h
 cases hb:(Nat.ble (Nat.add off l.length) lim && l.all EV.one) with
 | false=>rw[hb] at h;cases h
 | true=>
  rw[hb] at h
  simp only[cond_true] at h
  rw[Bool.and_eq_true] at hb
  have hlim:off+l.length≤lim:=Nat.le_of_ble_eq_true hb.1
  obtain⟨cs',h1,h2⟩:=Tri.puts_ok l cs off
  rw[h1] at h
  obtain⟨t',h3,h4⟩:=Tri.set_ok (some (Ent.cells cs' T lim)) m.t id
  rw[h3] at h
  have hlen:=hl.len
  have hfit:off+vs.length≤arr.size:=by omega
  refine⟨_,h,rfl,hfit,?_⟩
  have hnew:∀ x∈M,x.num≠a.b→x∈pre++⟨a.b,.cells (splice arr.toList off vs).toArray T (0,0)⟩::post:=fun x hx hn=>by
   rw[hsp] at hx
   rcases List.mem_append.1 hx with hx | hx
   ·exact List.mem_append.2 (.inl hx)
   ·rcases List.mem_cons.1 hx with rfl | hx
    ·exact(hn rfl).elim
    ·exact List.mem_append.2 (.inr (List.mem_cons_of_mem _ hx))
  refine hm.step (fun i e hi=>(h4 i e hi).imp (fun q=>⟨q.1,some_inj' q.2⟩) fun q=>q) ha (Nm.le_refl D) (fun _ _=>rfl) hm.dom (fun _ _ h=>h) (fun i e a' hne hi hai x hx hn=>hnew x hx ?_) ?_ ?_
  ·rw[hn]
   exact fun hb=>hne (hm.inj _ _ _ _ _ _ hi hg hai ha hb)
  ·have hls:(splice arr.toList off vs).length=arr.size:=by rw[splice_len (by simpa using hfit)];simp
   refine .cells (splice arr.toList off vs).toArray ho (by simp) (by simp[hls];exact hsz) (fun i v hi hgi=>?_) (fun i hi=>by simp[hls];exact hk i hi) hmx
   rw[ho,Nat.zero_add]
   simp only[List.getElem?_toArray]
   rw[splice_get (by simpa using hfit)]
   rcases h2 i v hgi with ⟨g1,g2⟩ | ⟨g1,g2⟩
   ·have hlt:=(List.getElem?_eq_some_iff.1 g2).1
    rw[if_pos ⟨g1,by omega⟩]
    exact hl.get g2
   ·rw[if_neg (by omega)]
    have:=hc i v hi g2
    rw[ho,Nat.zero_add] at this
    simpa using this
  ·intro i e a' hne hi hai hb
   exact hne (hm.inj _ _ _ _ _ _ hi hg hai ha hb)
noncomputable def ccE (m:Me) (vs:List EV):Option (EV×Me):=match vs with
 | [.p id 0]=>(match m.t.get id with
  | some (.cells cs T lim)=>cnd (Nat.beq T 229 && Nat.ble 2 lim) (match cs.get 0 with
   | some .pn=>storeE m (.p id 0) [.p id 0] fun m=>some (.t [],m)
   | some (.p id' 0)=>cnd (Nat.beq id id') (some (.t [],m)) none
   | _=>none) none
  | _=>none)
 | _=>none
theorem cc_ok {Y:RK} (hY:Y.P=Tryz.prog) (hYE:Y.E=TryzE) {m m':Me} {vs:List EV} {v:EV} (h:ccE m vs=some (v,m')) {D:Nm} {I:GH} {M:List Blk} {us:List Value} (hu:VRs D vs us) (hm:MS Y D m I M) :
  Spec Y.P 203 us I M fun r I' M'=>∃ D',D.ext D' m.n∧VR D' v r∧MS Y D' m' I' M':=by
 unfold ccE at h
 split at h
 ·rename_i id
  obtain⟨x,xs,hx,hn,rfl⟩:=hu.uncons
  obtain rfl:=hn.unnil
  obtain⟨a,ha,rfl⟩:=hx.ptr
  split at h
  ·rename_i cs T lim hg
   obtain⟨h1,hq⟩:=cnd_some h
   clear h
   rw[Bool.and_eq_true] at h1
   obtain⟨hT,hlim⟩:=h1
   obtain rfl:=Nat.eq_of_beq_eq_true hT
   have hlim:=Nat.le_of_ble_eq_true hlim
   obtain⟨arr,ho,hM,hl,hc,hk,hmx⟩:=hm.ent _ _ _ hg ha
   have hsz:=hk _ (by rw[hYE];rfl)
   have hsz:arr.size=a.c * 2:=by
    rw[hsz,ho,Nat.zero_add]
   have hp:Value.pointer (some ⟨a.b,a.o+0,none⟩)=ptr a.b:=by rw[ho];rfl
   split at hq
   ·rename_i hc0
    obtain⟨x0,hx0,hv0⟩:=hc 0 _ (by omega) hc0
    obtain⟨pre,post,hsp⟩:=List.append_of_mem hM
    obtain⟨m1,h2,h3,h4,h5⟩:=store_at hm hg ha ho hsp hl hc hk hmx (l:=[.p id 0]) (vs:=[ptr a.b]) (by simp only[VRs,VR];exact⟨_,_,⟨a,ha,hp.symm⟩,rfl,rfl⟩) hq
    cases h2
    rw[hp,hY,hsp]
    obtain⟨l⟩:=arr
    have hx0':x0=.pointer none:=by simpa only[VR] using hv0
    rw[ho] at hx0
    match l,hx0,hsz with
    | [],hx0,_=>simp at hx0
    | [_],_,hsz=>simp at hsz;omega
    | y::w::rest,hx0,hsz=>
     have hy:y=.pointer none:=by simpa[hx0'] using hx0
     subst hy
     have hrl:rest.length=2 * (a.c - 1):=by simp at hsz;omega
     refine Spec.weakK (copyCheckN pre post a.b w (a.c - 1) rest hrl) ?_
     rintro r I' M' ⟨rfl,rfl,rfl⟩
     exact⟨D,Nm.ext_refl,by simp only[VR,VRs];exact⟨[],rfl,rfl⟩,h5⟩
   ·rename_i id' hc0
    obtain⟨h2,hq2⟩:=cnd_some hq
    obtain rfl:=Nat.eq_of_beq_eq_true h2
    cases hq2
    obtain⟨x0,hx0,hv0⟩:=hc 0 _ (by omega) hc0
    obtain⟨a',ha',rfl⟩:=hv0.ptr
    rw[ha] at ha'
    cases ha'
    rw[hp] at hx0 ⊢
    rw[hY]
    refine Spec.weakK (copyCheckU hM (by rw[←hx0,ho])) ?_
    rintro r I' M' ⟨rfl,rfl,rfl⟩
    exact⟨D,Nm.ext_refl,by simp only[VR,VRs];exact⟨[],rfl,rfl⟩,hm⟩
   ·cases hq
  ·cases h
 ·cases h
end Go.V
namespace Go.V
open Go Go.Proofs
def frz (I:GH):List Blk→GH
 | []=>I
 | x::l=>ins (frz I l) x.num x.obj
theorem frz_inv {I:GH}:∀ {M:List Blk} {b:Nat} {o:Obj},frz I M b=some o→I b=some o∨∃ x∈M,x.num=b∧x.obj=o
 | [],b,o,h=>.inl h
 | x::l,b,o,h=>by
  unfold frz ins at h
  by_cases e:b=x.num
  ·subst e
   simp only[beq_self',cond_true,Option.some.injEq] at h
   exact .inr ⟨x,by simp,rfl,h⟩
  ·simp only[beq_ne e,cond_false] at h
   rcases frz_inv h with h | ⟨y,h1,h2,h3⟩
   ·exact .inl h
   ·exact .inr ⟨y,by simp[h1],h2,h3⟩
theorem frz_mem {I:GH}:∀ {M:List Blk} (hn:(M.map (·.num)).Nodup) {x:Blk},x∈M→frz I M x.num=some x.obj
 | y::l,hn,x,h=>by
  simp only[List.map_cons,List.nodup_cons] at hn
  rcases List.mem_cons.1 h with rfl | h
  ·unfold frz ins
   simp only[beq_self',cond_true]
  ·have e:x.num≠y.num:=fun e=>hn.1 (List.mem_map.2 ⟨x,h,e⟩)
   unfold frz ins
   simp only[beq_ne e,cond_false]
   exact frz_mem hn.2 h
theorem frz_le {I:GH}:∀ {M:List Blk} (hd:∀ x∈M,I x.num=none) {b:Nat} {o:Obj},I b=some o→frz I M b=some o
 | [],hd,b,o,h=>h
 | y::l,hd,b,o,h=>by
  have e:b≠y.num:=fun e=>by
   have:=hd y (by simp)
   rw[←e,h] at this
   cases this
  unfold frz ins
  simp only[beq_ne e,cond_false]
  exact frz_le (fun x hx=>hd x (by simp[hx])) h
theorem kn_frz {I:GH} {M:List Blk} (hn:(M.map (·.num)).Nodup) (hd:∀ x∈M,I x.num=none) {b:Nat} {o:Obj} (h:Kn I M b o):frz I M b=some o:=by
 rcases h with h | ⟨x,h1,rfl,rfl⟩
 ·exact frz_le hd h
 ·exact frz_mem hn h1
structure Frz (I:GH) (M:List Blk) (J:GH):Prop where
 kn:∀ b o,Kn I M b o→J b=some o
 inv:∀ b o,J b=some o→Kn I M b o
theorem Frz.rd {I J:GH} {M:List Blk} (h:Frz I M J) {a:Addr} {n:Nat} {vs:List Value} (hr:Rd I M a n vs) (M':List Blk):Rd J M' a n vs:=by
 obtain⟨h1,cs,T,f,h2,h3,h4⟩:=hr
 exact⟨h1,cs,T,f,.inl (h.kn _ _ h2),h3,h4⟩
theorem Frz.le {I J:GH} {M:List Blk} (h:Frz I M J):∀ b o,I b=some o→J b=some o:=fun b o hb=>h.kn b o (.inl hb)
theorem frz_end {I I':GH} {M':List Blk} {w w':World} (h1:Holds I' M' w') (h2:Kept I [] w I' M' w'):Frz I' M' (frz I' M')∧Holds (frz I' M') [] w'∧Kept I [] w (frz I' M') [] w':=by
 refine⟨⟨fun b o h=>kn_frz h1.nd h1.d h,fun b o h=>?_⟩,⟨fun b o h=>?_,by simp,by simp,by simp⟩,⟨fun b o h=>frz_le h1.d (h2.le _ _ h),fun b o h=>?_,by simp,h2.old,h2.out,h2.sz⟩⟩
 ·rcases frz_inv h with h | ⟨x,g1,g2,g3⟩
  ·exact .inl h
  ·exact .inr ⟨x,g1,g2,g3⟩
 ·rcases frz_inv h with h | ⟨x,g1,rfl,rfl⟩
  ·exact h1.i _ _ h
  ·exact h1.m _ g1
 ·rcases frz_inv h with h | ⟨x,g1,rfl,rfl⟩
  ·exact h2.newI _ _ h
  ·rcases h2.newM _ g1 with ⟨y,hy,_⟩ | h
   ·cases hy
   ·exact .inr h
theorem Spec.frz {P:Program} {f:Nat} {args:List Value} {I:GH} {Q:Value→GH→List Blk→Prop} (h:Spec P f args I [] Q):Spec P f args I [] fun r J M''=>M''=[]∧(∀ b o,I b=some o→J b=some o)∧∃ I' M',Q r I' M'∧Frz I' M' J:=by
 rcases h with ⟨h1,h2⟩ | h
 ·refine .inl ⟨h1,fun w hw=>?_⟩
  refine(h2 w hw).mono ?_
  rintro e w' ⟨v,I',M',e1,e2,e3,e4⟩
  obtain⟨g1,g2,g3⟩:=frz_end e3 e4
  exact⟨v,_,[],e1,⟨rfl,g3.le,I',M',e2,g1⟩,g2,g3⟩
 ·refine .inr fun w hw=>?_
  obtain⟨v,w',I',M',e1,e2,e3,e4⟩:=h w hw
  obtain⟨g1,g2,g3⟩:=frz_end e3 e4
  exact⟨v,w',_,[],e1,⟨rfl,g3.le,I',M',e2,g1⟩,g2,g3⟩
noncomputable def triL {α:Type} (l:List α):Tri α:=Tri.putsK l .nil 0 id
theorem triL_get {α:Type} {l:List α} {i:Nat} {v:α} (h:(triL l).get i=some v):l[i]?=some v:=by
 obtain⟨t,h1,h2⟩:=Tri.puts_ok l (.nil:Tri α) 0
 unfold triL at h
 rw[h1] at h
 rcases h2 _ _ h with ⟨_,h⟩ | ⟨_,h⟩
 ·simpa using h
 ·cases h
noncomputable def GTs:GT:=fun g=>cnd (Nat.beq g 0) (some (triL (countsL.map (EV.i .i64))))
 (cnd (Nat.beq g 1) (some (triL (signsL.map EV.s)))
 (cnd (Nat.beq g 2) (some (triL [.i .i64 0,.i .i64 1,.s [63],.i .i64 0,.i .i64 (-1),.s [42],.i .i64 1,.i .i64 (-1),.s [43]]))
 (cnd (Nat.beq g 4) (some (triL (debL.map (EV.i .u8)))) none)))
theorem gi_map {α:Type} {f:α→EV} {h:α→Value} (hf:∀ x D,VR D (f x) (h x)) {l:List α} {i:Nat} {v:EV} (hv:(triL (l.map f)).get i=some v):∃ x,(l.map h).toArray[i]?=some x∧∀ D,VR D v x:=by
 have:=triL_get hv
 rw[List.getElem?_map] at this
 cases hx:l[i]? with
 | none=>rw[hx] at this;cases this
 | some x=>
  rw[hx] at this
  simp only[Option.map_some,Option.some.injEq] at this
  subst this
  exact⟨h x,by simp[hx],hf x⟩
theorem gi_tabs {I:GH} (hT:Tabs I debL):GI GTs I:=by
 intro g cs h
 unfold GTs at h
 rw[cnd_eq,cnd_eq,cnd_eq,cnd_eq] at h
 cases h1:Nat.beq g 0 with
 | true=>
  rw[h1,cond_true] at h
  obtain rfl:=Nat.eq_of_beq_eq_true h1
  have h:=Option.some.inj h
  subst h
  obtain⟨T,f,h⟩:=hT.c
  exact⟨_,T,f,h,fun i v hv=>gi_map (f:=EV.i .i64) (h:=Value.int .i64) (fun x D=>by simp only[VR]) hv⟩
 | false=>
 rw[h1,cond_false] at h
 cases h2:Nat.beq g 1 with
 | true=>
  rw[h2,cond_true] at h
  obtain rfl:=Nat.eq_of_beq_eq_true h2
  have h:=Option.some.inj h
  subst h
  obtain⟨T,f,h⟩:=hT.s
  exact⟨_,T,f,h,fun i v hv=>gi_map (f:=EV.s) (h:=fun l=>Value.string (strOf l)) (fun x D=>by simp only[VR,strOf]) hv⟩
 | false=>
 rw[h2,cond_false] at h
 cases h3:Nat.beq g 2 with
 | true=>
  rw[h3,cond_true] at h
  obtain rfl:=Nat.eq_of_beq_eq_true h3
  have h:=Option.some.inj h
  subst h
  obtain⟨T,f,h⟩:=hT.p
  refine⟨_,T,f,h,fun i v hv=>?_⟩
  have hv:=triL_get hv
  rcases i with _ | _ | _ | _ | _ | _ | _ | _ | _ | i
  all_goals first | (cases hv;exact⟨_,rfl,fun D=>by simp only[VR]<;>rfl⟩) | (simp at hv)
 | false=>
 rw[h3,cond_false] at h
 cases h4:Nat.beq g 4 with
 | true=>
  rw[h4,cond_true] at h
  obtain rfl:=Nat.eq_of_beq_eq_true h4
  have h:=Option.some.inj h
  subst h
  obtain⟨_,_,T,f,h⟩:=hT.d
  exact⟨_,T,f,h,fun i v hv=>gi_map (f:=EV.i .u8) (h:=Value.int .u8) (fun x D=>by simp only[VR]) hv⟩
 | false=>
 rw[h4,cond_false] at h
 cases h
noncomputable def idxN:List UInt8→Nat→Nat→Int
 | [],_,_=>-1
 | b::l,c,k=>cnd (Nat.beq b.toNat c) (Int.ofNat k) (idxN l c (Nat.succ k))
theorem idxN_eq (c:UInt8):∀ (l:List UInt8) (k:Nat),idxN l c.toNat k=if Lib.indexByte l c=-1 then -1 else Lib.indexByte l c+k
 | [],k=>rfl
 | b::l,k=>by
  have hge:=Lib.indexByte_ge l c
  unfold idxN Lib.indexByte
  rw[cnd_eq]
  by_cases h:b=c
  ·subst h
   simp
  ·have h1:Nat.beq b.toNat c.toNat=false:=by
    cases hb:Nat.beq b.toNat c.toNat with
    | false=>rfl
    | true=>exact absurd (UInt8.toNat_inj.1 (Nat.eq_of_beq_eq_true hb)) h
   have h2:(b == c)=false:=by simpa using h
   rw[h1,cond_false,h2,idxN_eq c l]
   simp only[Bool.false_eq_true,if_false]
   by_cases h3:Lib.indexByte l c=-1
   ·simp[h3]
   ·have h4:(Lib.indexByte l c == -1)=false:=by simpa using h3
    rw[h4,if_neg h3]
    simp only[Bool.false_eq_true,if_false]
    rw[if_neg (by omega)]
    omega
theorem yk_funs:FunsOK Tryz.prog:=funsOK_of (by kernel_rfl)
theorem yk_orders:Tryz.prog.follows .mixedOrders=true:=by kernel_rfl
noncomputable def YZ:RK:=⟨Tryz.prog,TryzE,fun _=>none,fun _ _ _=>none⟩
noncomputable def rdM:List SE:=[.map [(.i .u8 123,.f 217 [] []),(.i .u8 34,.f 218 [] []),(.i .u8 91,.f 219 [] []),(.i .u8 46,.f 220 [] []),(.i .u8 47,.f 236 [] [.p 1 0]),(.i .u8 38,.f 236 [] [.p 2 0]),(.i .u8 33,.f 236 [] [.p 3 0]),(.i .u8 63,.f 236 [] [.p 4 0]),(.i .u8 42,.f 236 [] [.p 5 0]),(.i .u8 43,.f 236 [] [.p 6 0]),(.i .u8 40,.f 236 [] [.p 7 0]),(.i .u8 41,.f 236 [] [.p 8 0]),(.i .u8 60,.f 222 [] []),(.i .u8 62,.f 236 [] [.p 10 0]),(.i .u8 58,.f 236 [] [.p 11 0]),(.i .u8 65,.f 223 [] []),(.i .u8 66,.f 223 [] []),(.i .u8 67,.f 223 [] []),(.i .u8 68,.f 223 [] []),(.i .u8 69,.f 223 [] []),(.i .u8 70,.f 223 [] []),(.i .u8 71,.f 223 [] []),(.i .u8 72,.f 223 [] []),(.i .u8 73,.f 223 [] []),(.i .u8 74,.f 223 [] []),(.i .u8 75,.f 223 [] []),(.i .u8 76,.f 223 [] []),(.i .u8 77,.f 223 [] []),(.i .u8 78,.f 223 [] []),(.i .u8 79,.f 223 [] []),(.i .u8 80,.f 223 [] []),(.i .u8 81,.f 223 [] []),(.i .u8 82,.f 223 [] []),(.i .u8 83,.f 223 [] []),(.i .u8 84,.f 223 [] []),(.i .u8 85,.f 223 [] []),(.i .u8 86,.f 223 [] []),(.i .u8 87,.f 223 [] []),(.i .u8 88,.f 223 [] []),(.i .u8 89,.f 223 [] []),(.i .u8 90,.f 223 [] []),(.i .u8 95,.f 223 [] []),(.i .u8 97,.f 223 [] []),(.i .u8 98,.f 223 [] []),(.i .u8 99,.f 223 [] []),(.i .u8 100,.f 223 [] []),(.i .u8 101,.f 223 [] []),(.i .u8 102,.f 223 [] []),(.i .u8 103,.f 223 [] []),(.i .u8 104,.f 223 [] []),(.i .u8 105,.f 223 [] []),(.i .u8 106,.f 223 [] []),(.i .u8 107,.f 223 [] []),(.i .u8 108,.f 223 [] []),(.i .u8 109,.f 223 [] []),(.i .u8 110,.f 223 [] []),(.i .u8 111,.f 223 [] []),(.i .u8 112,.f 223 [] []),(.i .u8 113,.f 223 [] []),(.i .u8 114,.f 223 [] []),(.i .u8 115,.f 223 [] []),(.i .u8 116,.f 223 [] []),(.i .u8 117,.f 223 [] []),(.i .u8 118,.f 223 [] []),(.i .u8 119,.f 223 [] []),(.i .u8 120,.f 223 [] []),(.i .u8 121,.f 223 [] []),(.i .u8 122,.f 223 [] [])],
 .cells [.i .u8 3] 5,
 .cells [.i .u8 4] 5,
 .cells [.i .u8 5] 5,
 .cells [.i .u8 6] 5,
 .cells [.i .u8 7] 5,
 .cells [.i .u8 8] 5,
 .cells [.i .u8 9] 5,
 .cells [.i .u8 10] 5,
 .cells [.i .u8 11] 5,
 .cells [.i .u8 12] 5,
 .cells [.i .u8 13] 5]
theorem rd_run:(opn (callF YZ (E_code YZ 100000) 205 [] ⟨.nil,0⟩) none fun p=>opn (readAll p.2.t 0 p.2.n) none fun L=>some (p.1,L))=some (EV.m 0,rdM):=by kernel_rfl
noncomputable def prL:PR:=fun g vs m=>cnd (Nat.beq g 253) (match vs with
 | [.s l,.i .u8 (.ofNat k)]=>cnd (Nat.blt k 256) (some (.i .i64 (idxN l k 0),m)) none
 | _=>none) (cnd (Nat.beq g 216) (match vs with
 | [v]=>some (v,m)
 | _=>none) (cnd (Nat.beq g 205) (match vs with
 | []=>memo (.m 0) rdM m
 | _=>none) (cnd (Nat.beq g 203) (ccE m vs) none)))
noncomputable def YK:RK:=⟨Tryz.prog,TryzE,GTs,prL⟩
theorem prim_ok:PrimOK YK:=by
 intro g vs m v m' h D I M us hu hm
 change prL g vs m=some (v,m') at h
 unfold prL at h
 rw[cnd_eq] at h
 cases h1:Nat.beq g 253 with
 | true=>
  rw[h1,cond_true] at h
  obtain rfl:=Nat.eq_of_beq_eq_true h1
  split at h
  ·rename_i l k
   rw[cnd_eq] at h
   cases hk:Nat.blt k 256 with
   | false=>rw[hk] at h;cases h
   | true=>
    rw[hk,cond_true] at h
    have hk':k < 256:=Nat.blt_eq ▸ hk
    cases h
    simp only[VRs,VR] at hu
    obtain⟨x,xs,rfl,⟨y,ys,rfl,rfl,rfl⟩,rfl⟩:=hu
    have hkc:(UInt8.ofNat k).toNat=k:=by simp;omega
    have:=IndexByteString_spec (I:=I) (M:=M) ⟨l.toArray⟩ (UInt8.ofNat k)
    rw[hkc] at this
    refine Spec.weakK this ?_
    rintro r I' M' ⟨rfl,rfl,rfl⟩
    refine⟨D,Nm.ext_refl,?_,hm⟩
    simp only[VR]
    have:=idxN_eq (UInt8.ofNat k) l 0
    rw[hkc] at this
    rw[this]
    split
    ·rename_i e
     simp[e]
    ·simp
  ·cases h
 | false=>
 rw[h1,cond_false,cnd_eq] at h
 cases h2:Nat.beq g 216 with
 | true=>
  rw[h2,cond_true] at h
  obtain rfl:=Nat.eq_of_beq_eq_true h2
  split at h
  ·cases h
   simp only[VRs] at hu
   obtain⟨x,xs,hu,rfl,rfl⟩:=hu
   refine Spec.weakK (NoEscape_spec _) ?_
   rintro r I' M' ⟨rfl,rfl,rfl⟩
   exact⟨D,Nm.ext_refl,hu,hm⟩
  ·cases h
 | false=>
 rw[h2,cond_false,cnd_eq] at h
 cases h3:Nat.beq g 205 with
 | true=>
  rw[h3,cond_true] at h
  obtain rfl:=Nat.eq_of_beq_eq_true h3
  split at h
  ·obtain⟨⟨v0,m0⟩,h4,h5⟩:=opn_eq rd_run
   obtain⟨L,h6,h7⟩:=opn_eq h5
   cases h7
   exact memo_ok (Y:=YK) TryzEOK yk_funs yk_orders h4 h6 (fun D us h=>by simpa only[VRs] using h) h hu hm
  ·cases h
 | false=>
 rw[h3,cond_false,cnd_eq] at h
 cases h4:Nat.beq g 203 with
 | true=>
  rw[h4,cond_true] at h
  obtain rfl:=Nat.eq_of_beq_eq_true h4
  exact cc_ok rfl rfl h hu hm
 | false=>
 rw[h4,cond_false] at h
 cases h
theorem reckonX {I:GH} (hT:Tabs I debL) {f g:Nat} {args:List EV} {m':Me} {v:EV} (h:callF YK (E_code YK f) g args ⟨.nil,0⟩=some (v,m')) {us:List Value} (hu:VRs (fun _=>none) args us) :
  Spec Tryz.prog g us I [] fun r J M''=>M''=[]∧(∀ b o,I b=some o→J b=some o)∧∃ I' M' D',VR D' v r∧MS YK D' m' I' M'∧Frz I' M' J:=by
 have hm:MS YK (fun _=>none) ⟨.nil,0⟩ I []:=⟨fun id e a h h'=>(by cases h'),fun id id' e e' a a' h h1 h'=>(by cases h'),fun id a h=>(by cases h),gi_tabs hT⟩
 refine Spec.weakK (reckon (Y:=YK) TryzEOK yk_funs prim_ok yk_orders h hu hm).frz ?_
 rintro r J M'' ⟨rfl,h1,I',M',⟨D',-,h2,h3⟩,h4⟩
 exact⟨rfl,h1,I',M',D',h2,h3,h4⟩
end Go.V
namespace Go.V
open Go Go.Proofs
noncomputable def gives (f g:Nat) (args:List EV):Option EV:=opn (callF YK (E_code YK f) g args ⟨.nil,0⟩) none fun p=>some p.1
theorem gives_spec {I:GH} (hT:Tabs I debL) {f g:Nat} {args:List EV} {b:Bool} (h:gives f g args=some (.b b)) {us:List Value} (hu:VRs (fun _=>none) args us) :
  Spec Tryz.prog g us I [] fun r J M''=>r=.bool b∧(∀ b o,I b=some o→J b=some o)∧M''=[]:=by
 unfold gives at h
 obtain⟨⟨v,m'⟩,h1,h⟩:=opn_eq h
 cases h
 refine Spec.weakK (reckonX hT h1 hu) ?_
 rintro r J M'' ⟨rfl,hle,I',M',D',hv,hm,hJ⟩
 simp only[VR] at hv
 exact⟨hv,hle,rfl⟩
end Go.V
namespace Go.V
open Go Go.Proofs
theorem of11_0:gives 100000 49 [.s [97,32,60,45,32,34,120,34,32,47,32,97],.s [34,97,98,34],.s [97],.b false]=some (.b true):=by kernel_rfl
theorem of11_1:gives 100000 49 [.s [97,32,60,45,32,34,120,34,32,47,32,97],.s [34,97,34,63,32,34,98,34],.s [97,98],.b false]=some (.b true):=by kernel_rfl
end Go.V
namespace Go.V
open Go Go.Proofs
theorem of11_2:gives 100000 49 [.s [97,32,60,45,32,34,120,34,32,47,32,97],.s [34,97,34,42],.s [97],.b true]=some (.b true):=by kernel_rfl
theorem of11_3:gives 100000 49 [.s [97,32,60,45,32,34,120,34,32,47,32,97],.s [33,34,97,34,32,91,97,45,99,93],.s [97,98,99],.b false]=some (.b true):=by kernel_rfl
end Go.V
namespace Go.V
open Go Go.Proofs
theorem of11_4:gives 100000 49 [.s [97,32,60,45,32,34,120,34,32,47,32,97],.s [97],.s [120],.b false]=some (.b true):=by kernel_rfl
theorem of11_5:gives 100000 49 [.s [97,32,60,45,32,34,120,34,32,47,32,97],.s [97,63],.s [120],.b true]=some (.b true):=by kernel_rfl
theorem of11_6:gives 100000 49 [.s [97,32,60,45,32,34,120,34,32,47,32,97],.s [38,91,93],.s [],.b false]=some (.b true):=by kernel_rfl
end Go.V
namespace Go.V
open Go Go.Proofs
theorem awake11_spec {I:GH} (hT:Tabs I debL):Spec Tryz.prog 34 [] I [] fun v J M''=>v=.bool true∧(∀ b o,I b=some o→J b=some o)∧M''=[]:=by
 refine spec_of_V [] TryzEOK Tryz.func34 rfl rfl rfl ?_
 intro B h0
 refine CallOb.mk [] [] _ (.refl _) (gives_spec hT of11_0 (us:=_) (by simp only[VRs,VR];exact⟨_,_,rfl,⟨_,_,rfl,⟨_,_,rfl,⟨_,_,rfl,rfl,rfl⟩,rfl⟩,rfl⟩,rfl⟩)) ?_
 rintro v I1 M1 - ⟨rfl,hI1,rfl⟩
 have hT1:=hT.mono hI1
 refine GuardOb.mk (fun _=>?_) (fun h=>by cases h)
 refine CallOb.mk [] [] _ (.refl _) (gives_spec hT1 of11_1 (us:=_) (by simp only[VRs,VR];exact⟨_,_,rfl,⟨_,_,rfl,⟨_,_,rfl,⟨_,_,rfl,rfl,rfl⟩,rfl⟩,rfl⟩,rfl⟩)) ?_
 rintro v I2 M2 - ⟨rfl,hI2,rfl⟩
 have hT2:=hT1.mono hI2
 refine GuardOb.mk (fun _=>?_) (fun h=>by cases h)
 refine CallOb.mk [] [] _ (.refl _) (gives_spec hT2 of11_2 (us:=_) (by simp only[VRs,VR];exact⟨_,_,rfl,⟨_,_,rfl,⟨_,_,rfl,⟨_,_,rfl,rfl,rfl⟩,rfl⟩,rfl⟩,rfl⟩)) ?_
 rintro v I3 M3 - ⟨rfl,hI3,rfl⟩
 have hT3:=hT2.mono hI3
 refine GuardOb.mk (fun _=>?_) (fun h=>by cases h)
 refine CallOb.mk [] [] _ (.refl _) (gives_spec hT3 of11_3 (us:=_) (by simp only[VRs,VR];exact⟨_,_,rfl,⟨_,_,rfl,⟨_,_,rfl,⟨_,_,rfl,rfl,rfl⟩,rfl⟩,rfl⟩,rfl⟩)) ?_
 rintro v I4 M4 - ⟨rfl,hI4,rfl⟩
 have hT4:=hT3.mono hI4
 refine GuardOb.mk (fun _=>?_) (fun h=>by cases h)
 refine CallOb.mk [] [] _ (.refl _) (gives_spec hT4 of11_4 (us:=_) (by simp only[VRs,VR];exact⟨_,_,rfl,⟨_,_,rfl,⟨_,_,rfl,⟨_,_,rfl,rfl,rfl⟩,rfl⟩,rfl⟩,rfl⟩)) ?_
 rintro v I5 M5 - ⟨rfl,hI5,rfl⟩
 have hT5:=hT4.mono hI5
 refine GuardOb.mk (fun _=>?_) (fun h=>by cases h)
 refine CallOb.mk [] [] _ (.refl _) (gives_spec hT5 of11_5 (us:=_) (by simp only[VRs,VR];exact⟨_,_,rfl,⟨_,_,rfl,⟨_,_,rfl,⟨_,_,rfl,rfl,rfl⟩,rfl⟩,rfl⟩,rfl⟩)) ?_
 rintro v I6 M6 - ⟨rfl,hI6,rfl⟩
 have hT6:=hT5.mono hI6
 refine GuardOb.mk (fun _=>?_) (fun h=>by cases h)
 refine CallOb.mk [] [] _ (.refl _) (gives_spec hT6 of11_6 (us:=_) (by simp only[VRs,VR];exact⟨_,_,rfl,⟨_,_,rfl,⟨_,_,rfl,⟨_,_,rfl,rfl,rfl⟩,rfl⟩,rfl⟩,rfl⟩)) ?_
 rintro v I7 M7 - ⟨rfl,hI7,rfl⟩
 have hT7:=hT6.mono hI7
 exact⟨_,_,.refl,rfl,fun b o h=>hI7 _ _ (hI6 _ _ (hI5 _ _ (hI4 _ _ (hI3 _ _ (hI2 _ _ (hI1 _ _ h)))))),rfl⟩
end Go.V
namespace Go.V
open Go Go.Proofs
structure Fl where
 z:Bool
 s:Bool
 f:Bool
 deriving DecidableEq
def Fl.cells (x:Fl):List Value:=[.bool x.z,.bool x.s,.bool x.f]
def Fl.val (x:Fl):Value:=.agg #[.bool x.z,.bool x.s,.bool x.f]
theorem Fl.cells_len (x:Fl):x.cells.length=3:=rfl
theorem perm_nil {M:List Blk}:M.Perm (M++[]):=by simp
structure FsAt (I:GH) (M:List Blk) (a:Option Addr) (n:Nat) (ks:List Fl):Prop where
 n:ks.length=n
 rd:∀ j (h:j < ks.length),∃ ad,a=some ad∧Rd I M (ad.add (j * 3)) 3 ks[j].cells
def fl0:Fl:=⟨false,false,false⟩
section
variable {I:GH} {M:List Blk} {d:Nd} {a:Option Addr} {n c:Nat} {ks:List Fl}
theorem FsAt.head (hk:FsAt I M a n ks) (h0:0 < n):∃ ad,a=some ad∧Rd I M (ad.add (0 * 3)) 3 (ks.headD fl0).cells:=by
 have h1:0 < ks.length:=by rw[hk.n];exact h0
 obtain⟨ad,h2,h3⟩:=hk.rd 0 h1
 refine⟨ad,h2,?_⟩
 cases ks with
 | nil=>simp at h1
 | cons k ks=>exact h3
end
end Go.V
namespace Go.V
open Go Go.Proofs
def worV (x y:Int):Int:=IntKind.u64.wrap ((BitVec.ofInt 64 x ||| BitVec.ofInt 64 y).toNat:Int)
theorem worV_bv (x y:BitVec 64):worV x.toNat y.toNat=((x ||| y).toNat:Int):=by
 unfold worV
 rw[bv_ofInt,bv_ofInt,wrap_bv]
def worC (x y:Ws):Nat→List Value
 | 0=>[.int .u64 x.a.toNat,.int .u64 x.b.toNat,.int .u64 x.c.toNat,.int .u64 x.d.toNat]
 | 1=>[.int .u64 (worV x.a.toNat y.a.toNat),.int .u64 x.b.toNat,.int .u64 x.c.toNat,.int .u64 x.d.toNat]
 | 2=>[.int .u64 (worV x.a.toNat y.a.toNat),.int .u64 (worV x.b.toNat y.b.toNat),.int .u64 x.c.toNat,.int .u64 x.d.toNat]
 | 3=>[.int .u64 (worV x.a.toNat y.a.toNat),.int .u64 (worV x.b.toNat y.b.toNat),.int .u64 (worV x.c.toNat y.c.toNat),.int .u64 x.d.toNat]
 | _=>[.int .u64 (worV x.a.toNat y.a.toNat),.int .u64 (worV x.b.toNat y.b.toNat),.int .u64 (worV x.c.toNat y.c.toNat),.int .u64 (worV x.d.toNat y.d.toNat)]
theorem Or_spec {I:GH} {M:List Blk} (x y:Ws):Spec Tryz.prog 88 [x.val,y.val] I M fun r I' M'=>r=(x.or y).val∧I'=I∧M'=M:=by
 refine spec_of_V [] TryzEOK Tryz.func88 rfl rfl rfl ?_
 intro B h0
 refine LoopOb.inv (ι:=Nat) (fun i=>{ fl:=[(2,.ref 2 0),(4,.ref 4 0),(7,.val y.val),(8,.val (.int .i64 i))],cl:=[(2,worC x y i),(4,Ws.zero.cells)],gi:=I,mi:=M }) (fun i=>i≤4) (fun i=>4 - i) ?_ ?_
 ·exact⟨0,by simp,.refl,.cons .refl (.cons .refl (.cons .refl (.cons .refl .nil))),.cons rfl (.cons rfl .nil)⟩
 ·intro i hi
  match i,hi with
  | 0,_=>
   refine CondOb.mk (fun _=>?_) (fun h=>by simp at h)
   refine ArrOb.mk 0 rfl (by decide) ?_
   refine ArrOb.mk 0 rfl (by decide) ?_
   refine ArrOb.mk 0 rfl (by decide) ?_
   refine ArithOb.mk 1 (by decide) ?_
   exact⟨1,⟨by simp,by simp⟩,.refl,.cons .refl (.cons .refl (.cons .refl (.cons .refl .nil))),.cons rfl (.cons rfl .nil)⟩
  | 1,_=>
   refine CondOb.mk (fun _=>?_) (fun h=>by simp at h)
   refine ArrOb.mk 1 rfl (by decide) ?_
   refine ArrOb.mk 1 rfl (by decide) ?_
   refine ArrOb.mk 1 rfl (by decide) ?_
   refine ArithOb.mk 2 (by decide) ?_
   exact⟨2,⟨by simp,by simp⟩,.refl,.cons .refl (.cons .refl (.cons .refl (.cons .refl .nil))),.cons rfl (.cons rfl .nil)⟩
  | 2,_=>
   refine CondOb.mk (fun _=>?_) (fun h=>by simp at h)
   refine ArrOb.mk 2 rfl (by decide) ?_
   refine ArrOb.mk 2 rfl (by decide) ?_
   refine ArrOb.mk 2 rfl (by decide) ?_
   refine ArithOb.mk 3 (by decide) ?_
   exact⟨3,⟨by simp,by simp⟩,.refl,.cons .refl (.cons .refl (.cons .refl (.cons .refl .nil))),.cons rfl (.cons rfl .nil)⟩
  | 3,_=>
   refine CondOb.mk (fun _=>?_) (fun h=>by simp at h)
   refine ArrOb.mk 3 rfl (by decide) ?_
   refine ArrOb.mk 3 rfl (by decide) ?_
   refine ArrOb.mk 3 rfl (by decide) ?_
   refine ArithOb.mk 4 (by decide) ?_
   exact⟨4,⟨by simp,by simp⟩,.refl,.cons .refl (.cons .refl (.cons .refl (.cons .refl .nil))),.cons rfl (.cons rfl .nil)⟩
  | 4,_=>
   refine CondOb.mk (fun h=>by simp at h) (fun _=>?_)
   refine⟨_,_,.refl,?_,rfl,rfl⟩
   show Value.agg #[.int .u64 (worV x.a.toNat y.a.toNat),.int .u64 (worV x.b.toNat y.b.toNat),.int .u64 (worV x.c.toNat y.c.toNat),.int .u64 (worV x.d.toNat y.d.toNat)]=_
   rw[worV_bv,worV_bv,worV_bv,worV_bv]
   rfl
def wandV (x y:Int):Int:=IntKind.u64.wrap ((BitVec.ofInt 64 x &&& BitVec.ofInt 64 y).toNat:Int)
theorem wandV_bv (x y:BitVec 64):wandV x.toNat y.toNat=((x &&& y).toNat:Int):=by
 unfold wandV
 rw[bv_ofInt,bv_ofInt,wrap_bv]
def wandC (x y:Ws):Nat→List Value
 | 0=>[.int .u64 x.a.toNat,.int .u64 x.b.toNat,.int .u64 x.c.toNat,.int .u64 x.d.toNat]
 | 1=>[.int .u64 (wandV x.a.toNat y.a.toNat),.int .u64 x.b.toNat,.int .u64 x.c.toNat,.int .u64 x.d.toNat]
 | 2=>[.int .u64 (wandV x.a.toNat y.a.toNat),.int .u64 (wandV x.b.toNat y.b.toNat),.int .u64 x.c.toNat,.int .u64 x.d.toNat]
 | 3=>[.int .u64 (wandV x.a.toNat y.a.toNat),.int .u64 (wandV x.b.toNat y.b.toNat),.int .u64 (wandV x.c.toNat y.c.toNat),.int .u64 x.d.toNat]
 | _=>[.int .u64 (wandV x.a.toNat y.a.toNat),.int .u64 (wandV x.b.toNat y.b.toNat),.int .u64 (wandV x.c.toNat y.c.toNat),.int .u64 (wandV x.d.toNat y.d.toNat)]
theorem And_spec {I:GH} {M:List Blk} (x y:Ws):Spec Tryz.prog 128 [x.val,y.val] I M fun r I' M'=>r=(x.and y).val∧I'=I∧M'=M:=by
 refine spec_of_V [] TryzEOK Tryz.func128 rfl rfl rfl ?_
 intro B h0
 refine LoopOb.inv (ι:=Nat) (fun i=>{ fl:=[(2,.ref 2 0),(4,.ref 4 0),(7,.val y.val),(8,.val (.int .i64 i))],cl:=[(2,wandC x y i),(4,Ws.zero.cells)],gi:=I,mi:=M }) (fun i=>i≤4) (fun i=>4 - i) ?_ ?_
 ·exact⟨0,by simp,.refl,.cons .refl (.cons .refl (.cons .refl (.cons .refl .nil))),.cons rfl (.cons rfl .nil)⟩
 ·intro i hi
  match i,hi with
  | 0,_=>
   refine CondOb.mk (fun _=>?_) (fun h=>by simp at h)
   refine ArrOb.mk 0 rfl (by decide) ?_
   refine ArrOb.mk 0 rfl (by decide) ?_
   refine ArrOb.mk 0 rfl (by decide) ?_
   refine ArithOb.mk 1 (by decide) ?_
   exact⟨1,⟨by simp,by simp⟩,.refl,.cons .refl (.cons .refl (.cons .refl (.cons .refl .nil))),.cons rfl (.cons rfl .nil)⟩
  | 1,_=>
   refine CondOb.mk (fun _=>?_) (fun h=>by simp at h)
   refine ArrOb.mk 1 rfl (by decide) ?_
   refine ArrOb.mk 1 rfl (by decide) ?_
   refine ArrOb.mk 1 rfl (by decide) ?_
   refine ArithOb.mk 2 (by decide) ?_
   exact⟨2,⟨by simp,by simp⟩,.refl,.cons .refl (.cons .refl (.cons .refl (.cons .refl .nil))),.cons rfl (.cons rfl .nil)⟩
  | 2,_=>
   refine CondOb.mk (fun _=>?_) (fun h=>by simp at h)
   refine ArrOb.mk 2 rfl (by decide) ?_
   refine ArrOb.mk 2 rfl (by decide) ?_
   refine ArrOb.mk 2 rfl (by decide) ?_
   refine ArithOb.mk 3 (by decide) ?_
   exact⟨3,⟨by simp,by simp⟩,.refl,.cons .refl (.cons .refl (.cons .refl (.cons .refl .nil))),.cons rfl (.cons rfl .nil)⟩
  | 3,_=>
   refine CondOb.mk (fun _=>?_) (fun h=>by simp at h)
   refine ArrOb.mk 3 rfl (by decide) ?_
   refine ArrOb.mk 3 rfl (by decide) ?_
   refine ArrOb.mk 3 rfl (by decide) ?_
   refine ArithOb.mk 4 (by decide) ?_
   exact⟨4,⟨by simp,by simp⟩,.refl,.cons .refl (.cons .refl (.cons .refl (.cons .refl .nil))),.cons rfl (.cons rfl .nil)⟩
  | 4,_=>
   refine CondOb.mk (fun h=>by simp at h) (fun _=>?_)
   refine⟨_,_,.refl,?_,rfl,rfl⟩
   show Value.agg #[.int .u64 (wandV x.a.toNat y.a.toNat),.int .u64 (wandV x.b.toNat y.b.toNat),.int .u64 (wandV x.c.toNat y.c.toNat),.int .u64 (wandV x.d.toNat y.d.toNat)]=_
   rw[wandV_bv,wandV_bv,wandV_bv,wandV_bv]
   rfl
theorem BinOb.eqW {x y:Operand} {p q:Ws} {V:Value→Prop} {other:Prop} (h:V (.bool (decide (p=q)))) :
  BinOb Tryz.prog .eql 65 x y (.val (.agg #[.int .u64 p.a.toNat,.int .u64 p.b.toNat,.int .u64 p.c.toNat,.int .u64 p.d.toNat])) (.val (.agg #[.int .u64 q.a.toNat,.int .u64 q.b.toNat,.int .u64 q.c.toNat,.int .u64 q.d.toNat])) V other:=by
 refine BinOb.eq4 TryzEOK (e:=63) rfl rfl rfl rfl (by kernel_rfl) ?_
 rw[Ws.eqb]
 exact h
theorem Subset_spec {I:GH} {M:List Blk} (x y:Ws):Spec Tryz.prog 90 [x.val,y.val] I M fun r I' M'=>r=.bool (x.sub y)∧I'=I∧M'=M:=by
 refine spec_of_V [] TryzEOK Tryz.func90 rfl rfl rfl ?_
 intro B h0
 refine CodeOb.draw TryzEOK rfl rfl rfl ?_
 refine PCallOb.mkR M [] _ perm_nil (And_spec x y) (fun v I' M' h x hx=>by rw[h.2.2];exact hx) ?_
 rintro v I' M' - ⟨rfl,rfl,rfl⟩
 rw[List.append_nil]
 refine BinOb.eqW (p:=x.and y) (q:=x) ?_
 exact⟨_,_,.refl,rfl,rfl,rfl⟩
theorem eqI_bv (x y:BitVec 64):eqI (x.toNat:Int) (y.toNat:Int)=decide (x=y):=by
 rw[eqI_eq,←bv_nat_inj,Bool.eq_iff_iff]
 simp
theorem opn_s {α R:Type} (v:α) (x:R) (f:α→R):opn (some v) x f=f v:=rfl
theorem eqE_first (a0 a1 a2 a3 b0 b1 b2 b3:Int) (f g:Bool):eqT Tryz.prog TryzE 8 67 (.a [.i .u64 a0,.i .u64 a1,.i .u64 a2,.i .u64 a3,.b f]) (.a [.i .u64 b0,.i .u64 b1,.i .u64 b2,.i .u64 b3,.b g])=some (eqI a0 b0 && (eqI a1 b1 && (eqI a2 b2 && (eqI a3 b3 && (f == g))))):=by
 obtain⟨i67,h67,hs67⟩:∃ i,TryzE 67=some i∧i.sh=.struct [(65,0),(4,4)]:=⟨_,rfl,rfl⟩
 obtain⟨i65,h65,hs65,hz65⟩:∃ i,TryzE 65=some i∧i.sh=.array 4 63∧i.size=4:=⟨_,rfl,rfl,rfl⟩
 obtain⟨i63,h63,hs63,hz63⟩:∃ i,TryzE 63=some i∧i.sh=.int .u64∧i.size=1:=⟨_,rfl,rfl,rfl⟩
 obtain⟨i4,h4,hs4,hz4⟩:∃ i,TryzE 4=some i∧i.sh=.bool∧i.size=1:=⟨_,rfl,rfl,rfl⟩
 have hp:plainT Tryz.prog 67=true:=by kernel_rfl
 have hr:List.range 4=[0,1,2,3]:=rfl
 have hq:∀ k a b,eqT Tryz.prog TryzE (k+1) 63 (.i .u64 a) (.i .u64 b)=some (eqI a b):=fun k a b=>by
  simp only[eqT,h63,opn_s,hs63]
  rfl
 have hb:∀ k a b,eqT Tryz.prog TryzE (k+1) 4 (.b a) (.b b)=some (a == b):=fun k a b=>by
  simp only[eqT,h4,opn_s,hs4]
 have hset:∀ k,eqT Tryz.prog TryzE (k+2) 65 (.a [.i .u64 a0,.i .u64 a1,.i .u64 a2,.i .u64 a3]) (.a [.i .u64 b0,.i .u64 b1,.i .u64 b2,.i .u64 b3])=some (eqI a0 b0 && (eqI a1 b1 && (eqI a2 b2 && eqI a3 b3))):=fun k=>by
  rw[eqT]
  simp only[h65,opn_s,hs65,h63,hz63,hr,List.map_cons,List.map_nil]
  have p0:∀ c0 c1 c2 c3,partE TryzE 63 (0 * 1) [.i .u64 c0,.i .u64 c1,.i .u64 c2,.i .u64 c3]=some (.i .u64 c0):=fun _ _ _ _=>rfl
  have p1:∀ c0 c1 c2 c3,partE TryzE 63 (1 * 1) [.i .u64 c0,.i .u64 c1,.i .u64 c2,.i .u64 c3]=some (.i .u64 c1):=fun _ _ _ _=>rfl
  have p2:∀ c0 c1 c2 c3,partE TryzE 63 (2 * 1) [.i .u64 c0,.i .u64 c1,.i .u64 c2,.i .u64 c3]=some (.i .u64 c2):=fun _ _ _ _=>rfl
  have p3:∀ c0 c1 c2 c3,partE TryzE 63 (3 * 1) [.i .u64 c0,.i .u64 c1,.i .u64 c2,.i .u64 c3]=some (.i .u64 c3):=fun _ _ _ _=>rfl
  simp only[eqPl,p0,p1,p2,p3,opn_s,hq,cnd_eq]
  cases eqI a0 b0<;>cases eqI a1 b1<;>cases eqI a2 b2<;>cases eqI a3 b3<;>rfl
 rw[eqT]
 simp only[h67,opn_s,hs67,hp]
 have p0:∀ c0 c1 c2 c3 c4,partE TryzE 65 0 [.i .u64 c0,.i .u64 c1,.i .u64 c2,.i .u64 c3,c4]=some (.a [.i .u64 c0,.i .u64 c1,.i .u64 c2,.i .u64 c3]):=fun _ _ _ _ _=>rfl
 have p1:∀ c0 c1 c2 c3 c4,partE TryzE 4 4 [.i .u64 c0,.i .u64 c1,.i .u64 c2,.i .u64 c3,c4]=some c4:=fun _ _ _ _ _=>rfl
 simp only[eqPl,p0,p1,opn_s,hset,hb,cnd_eq]
 cases eqI a0 b0<;>cases eqI a1 b1<;>cases eqI a2 b2<;>cases eqI a3 b3<;>cases f<;>cases g<;>rfl
theorem Fi.eqb (x y:Fi):(eqI x.w.a.toNat y.w.a.toNat && (eqI x.w.b.toNat y.w.b.toNat && (eqI x.w.c.toNat y.w.c.toNat && (eqI x.w.d.toNat y.w.d.toNat && (x.f == y.f)))))=decide (x=y):=by
 obtain⟨⟨a,b,c,d⟩,f⟩:=x
 obtain⟨⟨a',b',c',d'⟩,f'⟩:=y
 simp only[eqI_bv]
 rw[Bool.eq_iff_iff]
 simp[and_assoc]
theorem Fi.vrs (D:Nm) (x:Fi):VRs D [.i .u64 x.w.a.toNat,.i .u64 x.w.b.toNat,.i .u64 x.w.c.toNat,.i .u64 x.w.d.toNat,.b x.f] x.cells:=by
 simp[VRs,VR,Fi.cells]
theorem BinOb.eqI {x y:Operand} {p q:Fi} {V:Value→Prop} {other:Prop} (h:V (.bool (decide (p=q)))) :
  BinOb Tryz.prog .eql 67 x y (.val (.agg #[.int .u64 p.w.a.toNat,.int .u64 p.w.b.toNat,.int .u64 p.w.c.toNat,.int .u64 p.w.d.toNat,.bool p.f])) (.val (.agg #[.int .u64 q.w.a.toNat,.int .u64 q.w.b.toNat,.int .u64 q.w.c.toNat,.int .u64 q.w.d.toNat,.bool q.f])) V other:=by
 refine b_agg_ok (X:=⟨Tryz.prog,TryzE,[],0,0,default,fun _=>none,[],none⟩) (D:=fun _=>none) (v:=.b (decide (p=q))) TryzEOK ?_ (Fi.vrs _ p) (Fi.vrs _ q) (fun u hu=>by simp only[VR] at hu;rw[hu];exact h)
 show b_agg Tryz.prog TryzE .eql 67 _ _=_
 unfold b_agg
 rw[eqE_first,Fi.eqb,show Tryz.prog.eqGuardType Tryz.prog.depth 67=false by kernel_rfl]
 rfl
theorem BinOb.neI {x y:Operand} {p q:Fi} {V:Value→Prop} {other:Prop} (h:V (.bool (!decide (p=q)))) :
  BinOb Tryz.prog .neq 67 x y (.val (.agg #[.int .u64 p.w.a.toNat,.int .u64 p.w.b.toNat,.int .u64 p.w.c.toNat,.int .u64 p.w.d.toNat,.bool p.f])) (.val (.agg #[.int .u64 q.w.a.toNat,.int .u64 q.w.b.toNat,.int .u64 q.w.c.toNat,.int .u64 q.w.d.toNat,.bool q.f])) V other:=by
 refine b_agg_ok (X:=⟨Tryz.prog,TryzE,[],0,0,default,fun _=>none,[],none⟩) (D:=fun _=>none) (v:=.b (!decide (p=q))) TryzEOK ?_ (Fi.vrs _ p) (Fi.vrs _ q) (fun u hu=>by simp only[VR] at hu;rw[hu];exact h)
 show b_agg Tryz.prog TryzE .neq 67 _ _=_
 unfold b_agg
 rw[eqE_first,Fi.eqb,show Tryz.prog.eqGuardType Tryz.prog.depth 67=false by kernel_rfl]
 rfl
theorem ISeq_spec {I:GH} {M:List Blk} (x y:Fi):Spec Tryz.prog 51 [x.val,y.val] I M fun r I' M'=>r=(x.seq y).val∧I'=I∧M'=M:=by
 obtain⟨xw,xf⟩:=x
 refine spec_of_V [] TryzEOK Tryz.func51 rfl rfl rfl ?_
 intro B h0
 refine CondOb.mk (fun h=>?_) (fun h=>?_)
 ·have hf:xf=false:=by simpa using h
  subst hf
  exact⟨_,_,.refl,rfl,rfl,rfl⟩
 have hf:xf=true:=by simpa using h
 subst hf
 refine CodeOb.draw TryzEOK rfl rfl rfl ?_
 refine PCallOb.mkR M [] _ perm_nil (Or_spec xw y.w) (fun v I' M' h x hx=>by rw[h.2.2];exact hx) ?_
 rintro v I' M' - ⟨rfl,rfl,rfl⟩
 rw[List.append_nil]
 exact⟨_,_,.refl,rfl,rfl,rfl⟩
theorem IChoice_spec {I:GH} {M:List Blk} (x y:Fi):Spec Tryz.prog 53 [x.val,y.val] I M fun r I' M'=>r=(x.choice y).val∧I'=I∧M'=M:=by
 obtain⟨xw,xf⟩:=x
 refine spec_of_V [] TryzEOK Tryz.func53 rfl rfl rfl ?_
 intro B h0
 refine CodeOb.draw TryzEOK rfl rfl rfl ?_
 refine PCallOb.mkR M [] _ perm_nil (Or_spec xw y.w) (fun v I' M' h x hx=>by rw[h.2.2];exact hx) ?_
 rintro v I' M' - ⟨rfl,rfl,rfl⟩
 rw[List.append_nil]
 refine GuardOb.mk (fun h=>?_) (fun h=>?_)
 all_goals
  have hf:xf=_:=h
  subst hf
  exact⟨_,_,.refl,rfl,rfl,rfl⟩
theorem IWithin_spec {I:GH} {M:List Blk} (x y:Fi):Spec Tryz.prog 55 [x.val,y.val] I M fun r I' M'=>r=.bool (x.within y)∧I'=I∧M'=M:=by
 obtain⟨xw,xf⟩:=x
 refine spec_of_V [] TryzEOK Tryz.func55 rfl rfl rfl ?_
 intro B h0
 refine CallOb.mk M [] _ perm_nil (Subset_spec xw y.w) ?_
 rintro v I' M' - ⟨rfl,rfl,rfl⟩
 rw[List.append_nil]
 repeat' refine GuardOb.mk (fun h=>?_) (fun h=>?_)
 all_goals
  refine⟨_,_,.refl,?_,rfl,rfl⟩
  refine congrArg Value.bool ?_
  simp_all[Fi.within]
end Go.V
namespace Go.V
open Go Go.Proofs
theorem i0:i64ok 0:=⟨by decide,by decide⟩
def leafNd (k:Int) (s:ByteArray):Nd:=⟨k,0,0,0,0,s,0,0,none,0,0,[]⟩
end Go.V
namespace Go.V
open Go Go.Proofs
def plainR (d:Nd):Bool:=decide (d.t=⟨#[]⟩) && (decide (d.lo=0) && decide (d.hi=0))
def fitsR (d:Nd) (n:Int):Bool:=
 bif decide (d.k=0) then plainR d && decide (n=0) else
 bif decide (d.k=1) then plainR d && decide (n=0) else
 bif decide (d.k=2) then decide (d.lo=0) && (decide (d.hi=0) && (decide (n=0) && (decide ((1:Int)≤d.t.size) && decide ((d.t.size:Int)≤255)))) else
 bif decide (d.k=3) then decide (d.lo=0) && (decide (d.hi=0) && (decide (n=0) && mayName d.t)) else
 bif decide (d.k=4) || decide (d.k=5) then plainR d && decide (2≤n) else
 bif decide (d.k=6) then decide (d.t=⟨#[]⟩) && (decide (n=1) && (decide (0≤d.lo) && (decide (d.lo≤99) && (decide (d.hi=-1) || (decide (d.lo≤d.hi) && decide (d.hi≤99)))))) else
 bif decide (d.k=7) || decide (d.k=8) then plainR d && decide (n=1) else
 bif decide (d.k=9) then decide (d.lo=0) && (decide (d.hi=0) && (decide (n=1) && mayName d.t)) else false
end Go.V
namespace Go.V
open Go Go.Proofs
end Go.V
namespace Go.V
open Go Go.Proofs
end Go.V
namespace Go.V
open Go Go.Proofs
structure LeafAt (I:GH) (a:Option Addr) (c:Nat) (k:Int) (s:ByteArray):Prop where
 rs:RS I a 1 c 9 96 (leafNd k s).cells
theorem LeafAt.rd {I:GH} {a:Option Addr} {c:Nat} {k:Int} {s:ByteArray} (h:LeafAt I a c k s):∃ ad,a=some ad∧∀ M,Rd I M (ad.add (0 * 9)) 9 (leafNd k s).cells:=by
 have:=RS.row (f:=Nd.cells) (l:=[leafNd k s]) Nd.cells_len (size:=9) (j:=0) (by simpa using h.rs) (by decide) (Nat.le_refl 1)
 simpa using this
end Go.V
namespace Go.V
open Go Go.Proofs
theorem OtherOb.nd {X:Ctx} {o:Oper} {F:Fr} {C:Bx} {I:GH} {M:List Blk} {K:KS} (h:OtherOb X o F C I M (fun F C I M=>(M.map (·.num)).Nodup→(∀ x∈M,I x.num=none)→K F C I M)):OtherOb X o F C I M K:=
 ⟨fun a w Q hR=>Oper.wpIn_mono (fun a' w'=>fun ⟨F',C',I',M',⟨β,hr⟩,hk⟩=>⟨F',C',I',M',⟨β,hr⟩,hk hr.holds.nd hr.holds.d⟩) (h.1 a w Q hR)⟩
abbrev Lf:=Tr×Int×ByteArray
def Lf.nd (x:Lf):Nd:=leafNd x.2.1 x.2.2
structure Lf.ok (I:GH) (x:Lf):Prop where
 t:x.1.ok I
 ns:x.1.ns=[x.nd]
 root:x.1.root=0
 fits:fitsR x.nd 0=true
end Go.V
namespace Go.V
open Go Go.Proofs
end Go.V
namespace Go.V
open Go Go.Proofs
end Go.V
namespace Go.V
open Go Go.Proofs
section
variable {X:Ctx} {β:Nat→Nat} {a:Act} {w:World} {F:Fr} {C:Bx} {I:GH} {M:List Blk} {o:Oper} {Q:Exit→Act→World→Prop} {K:KS}
end
end Go.V
namespace Go.V
open Go Go.Proofs
end Go.V
namespace Go.V
open Go
structure Fl.le (a b:Fl):Prop where
 z:a.z=true→b.z=true
 s:a.s=true→b.s=true
 f:a.f=true→b.f=true
theorem Fl.le_refl (a:Fl):a.le a:=⟨id,id,id⟩
def within (a b:Fl):Bool:=(!a.z || b.z) && ((!a.s || b.s) && (!a.f || b.f))
inductive LeL:List Fl→List Fl→Prop
 | nil:LeL [] []
 | cons {a b l m} (h:Fl.le a b) (t:LeL l m):LeL (a::l) (b::m)
theorem LeL.len:∀ {a b},LeL a b→a.length=b.length
 | _,_,.nil=>rfl
 | _,_,.cons h t=>by simp[t.len]
theorem LeL.getD:∀ {a b},LeL a b→∀ i,(a.getD i fl0).le (b.getD i fl0)
 | _,_,.nil,i=>by simp;exact Fl.le_refl _
 | _,_,.cons h t,0=>h
 | _,_,.cons h t,i+1=>by simpa using t.getD i
theorem LeL.map {α:Type} {f g:α→Fl}:∀ {l:List α},(∀ x∈l,(f x).le (g x))→LeL (l.map f) (l.map g)
 | [],_=>.nil
 | x::l,h=>.cons (h x (.head _)) (LeL.map fun y hy=>h y (.tail _ hy))
theorem LeL.head {a b:List Fl} (h:LeL a b):(a.headD fl0).le (b.headD fl0):=by
 cases h with
 | nil=>exact Fl.le_refl _
 | cons h _=>exact h
end Go.V
namespace Go.V
open Go Go.Proofs
end Go.V
namespace Go.V
open Go Go.Proofs
theorem BinOb.neIF {x y:Operand} {p q:Fi} (e:p=q) {V:Value→Prop} {other:Prop} (h:V (.bool false)) :
  BinOb Tryz.prog .neq 67 x y (.val (.agg #[.int .u64 p.w.a.toNat,.int .u64 p.w.b.toNat,.int .u64 p.w.c.toNat,.int .u64 p.w.d.toNat,.bool p.f])) (.val (.agg #[.int .u64 q.w.a.toNat,.int .u64 q.w.b.toNat,.int .u64 q.w.c.toNat,.int .u64 q.w.d.toNat,.bool q.f])) V other:=by
 refine BinOb.neI ?_
 rw[decide_eq_true e]
 exact h
theorem BinOb.eqIT {x y:Operand} {p q:Fi} (e:p=q) {V:Value→Prop} {other:Prop} (h:V (.bool true)) :
  BinOb Tryz.prog .eql 67 x y (.val (.agg #[.int .u64 p.w.a.toNat,.int .u64 p.w.b.toNat,.int .u64 p.w.c.toNat,.int .u64 p.w.d.toNat,.bool p.f])) (.val (.agg #[.int .u64 q.w.a.toNat,.int .u64 q.w.b.toNat,.int .u64 q.w.c.toNat,.int .u64 q.w.d.toNat,.bool q.f])) V other:=by
 refine BinOb.eqI ?_
 rw[decide_eq_true e]
 exact h
theorem GuardOb.yk {c b:Bool} {Y N:Prop} (e:c=b) (h:Y):GuardOb c b Y N:=⟨fun _=>h,fun e'=>absurd (e.symm.trans e') (by cases b<;>simp)⟩
theorem GuardOb.nk {c b:Bool} {Y N:Prop} (e:c=!b) (h:N):GuardOb c b Y N:=⟨fun e'=>absurd (e'.symm.trans e) (by cases b<;>simp),fun _=>h⟩
set_option maxHeartbeats 4000000 in
theorem firstBrackets_V {I:GH} (hT:Tabs I debL) {x:Fi} (hx:True) {y:Fi} (hy:True) {z:Fi} (hz:True):SpecE Tryz.prog 12 [x.val,y.val,z.val] I [] fun v I' M'=>v=.bool true:=by
 obtain⟨e1,e2,e3,e4,e5,e6,e7,e8,e9,e10⟩:=Fi.brackets x y z
 refine specE_of_V [] TryzEOK Tryz.func12 rfl rfl rfl ?_
 intro B h0
 refine CallOb.mk [] [] _ (.refl _) (awake11_spec hT) ?_
 rintro v J N - ⟨rfl,hJ,rfl⟩
 refine CondOb.mk (fun h=>by cases h) (fun _=>?_)
 have sS:∀ a b:Fi,Spec Tryz.prog 51 [a.val,b.val] J [] fun r I' M'=>r=(a.seq b).val∧I'=J∧M'=[]:=fun a b=>ISeq_spec a b
 have sC:∀ a b:Fi,Spec Tryz.prog 53 [a.val,b.val] J [] fun r I' M'=>r=(a.choice b).val∧I'=J∧M'=[]:=fun a b=>IChoice_spec a b
 have sW:∀ (a b:Fi) (p:Bool),a.within b=p→Spec Tryz.prog 55 [a.val,b.val] J [] fun r I' M'=>r=.bool p∧I'=J∧M'=[]:=fun a b p h=>by
  have:=IWithin_spec (I:=J) (M:=[]) a b
  rwa [h] at this
 refine CodeOb.draw TryzEOK rfl rfl rfl ?_
 first | refine PCallOb.mk _ (sS x y) ?_ | refine CallOb.mk [] _ _ (.refl _) (sS x y) ?_
 rintro v J1 N - ⟨rfl,rfl,rfl⟩
 first | refine PCallOb.mk _ (sS (x.seq y) z) ?_ | refine CallOb.mk [] _ _ (.refl _) (sS (x.seq y) z) ?_
 rintro v J1 N - ⟨rfl,rfl,rfl⟩
 first | refine PCallOb.mk _ (sS y z) ?_ | refine CallOb.mk [] _ _ (.refl _) (sS y z) ?_
 rintro v J1 N - ⟨rfl,rfl,rfl⟩
 first | refine PCallOb.mk _ (sS x (y.seq z)) ?_ | refine CallOb.mk [] _ _ (.refl _) (sS x (y.seq z)) ?_
 rintro v J1 N - ⟨rfl,rfl,rfl⟩
 refine BinOb.neIF (p:=(x.seq y).seq z) (q:=x.seq (y.seq z)) e1 ?_
 refine GuardOb.yk (by kernel_rfl) ?_
 first | refine PCallOb.mk _ (sC x y) ?_ | refine CallOb.mk [] _ _ (.refl _) (sC x y) ?_
 rintro v J1 N - ⟨rfl,rfl,rfl⟩
 first | refine PCallOb.mk _ (sC (x.choice y) z) ?_ | refine CallOb.mk [] _ _ (.refl _) (sC (x.choice y) z) ?_
 rintro v J1 N - ⟨rfl,rfl,rfl⟩
 first | refine PCallOb.mk _ (sC y z) ?_ | refine CallOb.mk [] _ _ (.refl _) (sC y z) ?_
 rintro v J1 N - ⟨rfl,rfl,rfl⟩
 first | refine PCallOb.mk _ (sC x (y.choice z)) ?_ | refine CallOb.mk [] _ _ (.refl _) (sC x (y.choice z)) ?_
 rintro v J1 N - ⟨rfl,rfl,rfl⟩
 refine BinOb.neIF (p:=(x.choice y).choice z) (q:=x.choice (y.choice z)) e2 ?_
 refine GuardOb.yk (by kernel_rfl) ?_
 first | refine PCallOb.mk _ (sC x y) ?_ | refine CallOb.mk [] _ _ (.refl _) (sC x y) ?_
 rintro v J1 N - ⟨rfl,rfl,rfl⟩
 first | refine PCallOb.mk _ (sC y x) ?_ | refine CallOb.mk [] _ _ (.refl _) (sC y x) ?_
 rintro v J1 N - ⟨rfl,rfl,rfl⟩
 refine BinOb.neIF (p:=x.choice y) (q:=y.choice x) e3 ?_
 refine GuardOb.yk (by kernel_rfl) ?_
 first | refine PCallOb.mk _ (sS fiT x) ?_ | refine CallOb.mk [] _ _ (.refl _) (sS fiT x) ?_
 rintro v J1 N - ⟨rfl,rfl,rfl⟩
 refine BinOb.neIF (p:=fiT.seq x) (q:=x) e4 ?_
 refine GuardOb.yk (by kernel_rfl) ?_
 first | refine PCallOb.mk _ (sS x fiT) ?_ | refine CallOb.mk [] _ _ (.refl _) (sS x fiT) ?_
 rintro v J1 N - ⟨rfl,rfl,rfl⟩
 refine BinOb.neIF (p:=x.seq fiT) (q:=x) e5 ?_
 refine CondOb.mk (fun h=>by cases h) (fun _=>?_)
 cases hp:x.within y<;>cases hq:y.within z
 ·refine CodeOb.draw TryzEOK rfl rfl rfl ?_
  first | refine PCallOb.mk _ (sW x y false hp) ?_ | refine CallOb.mk [] _ _ (.refl _) (sW x y false hp) ?_
  rintro v J1 N - ⟨rfl,rfl,rfl⟩
  first | refine PCallOb.mk _ (sW y z false hq) ?_ | refine CallOb.mk [] _ _ (.refl _) (sW y z false hq) ?_
  rintro v J1 N - ⟨rfl,rfl,rfl⟩
  set_option maxRecDepth 20000 in
  refine CodeOb.draw TryzEOK rfl rfl rfl ?_
  first | refine PCallOb.mk _ (sW x x true e6) ?_ | refine CallOb.mk [] _ _ (.refl _) (sW x x true e6) ?_
  rintro v J1 N - ⟨rfl,rfl,rfl⟩
  refine GuardOb.yk (by kernel_rfl) ?_
  refine GuardOb.nk (by kernel_rfl) ?_
  refine GuardOb.nk (by kernel_rfl) ?_
  first | refine PCallOb.mk _ (sC x y) ?_ | refine CallOb.mk [] _ _ (.refl _) (sC x y) ?_
  rintro v J1 N - ⟨rfl,rfl,rfl⟩
  first | refine PCallOb.mk _ (sW x (x.choice y) true e9) ?_ | refine CallOb.mk [] _ _ (.refl _) (sW x (x.choice y) true e9) ?_
  rintro v J1 N - ⟨rfl,rfl,rfl⟩
  refine GuardOb.yk (by kernel_rfl) ?_
  refine GuardOb.nk (by kernel_rfl) ?_
  exact⟨_,_,.refl,rfl⟩
 ·refine CodeOb.draw TryzEOK rfl rfl rfl ?_
  first | refine PCallOb.mk _ (sW x y false hp) ?_ | refine CallOb.mk [] _ _ (.refl _) (sW x y false hp) ?_
  rintro v J1 N - ⟨rfl,rfl,rfl⟩
  first | refine PCallOb.mk _ (sW y z true hq) ?_ | refine CallOb.mk [] _ _ (.refl _) (sW y z true hq) ?_
  rintro v J1 N - ⟨rfl,rfl,rfl⟩
  set_option maxRecDepth 20000 in
  refine CodeOb.draw TryzEOK rfl rfl rfl ?_
  first | refine PCallOb.mk _ (sW x x true e6) ?_ | refine CallOb.mk [] _ _ (.refl _) (sW x x true e6) ?_
  rintro v J1 N - ⟨rfl,rfl,rfl⟩
  refine GuardOb.yk (by kernel_rfl) ?_
  refine GuardOb.nk (by kernel_rfl) ?_
  refine GuardOb.nk (by kernel_rfl) ?_
  first | refine PCallOb.mk _ (sC x y) ?_ | refine CallOb.mk [] _ _ (.refl _) (sC x y) ?_
  rintro v J1 N - ⟨rfl,rfl,rfl⟩
  first | refine PCallOb.mk _ (sW x (x.choice y) true e9) ?_ | refine CallOb.mk [] _ _ (.refl _) (sW x (x.choice y) true e9) ?_
  rintro v J1 N - ⟨rfl,rfl,rfl⟩
  refine GuardOb.yk (by kernel_rfl) ?_
  refine GuardOb.nk (by kernel_rfl) ?_
  exact⟨_,_,.refl,rfl⟩
 ·cases hr:y.within x
  ·refine CodeOb.draw TryzEOK rfl rfl rfl ?_
   first | refine PCallOb.mk _ (sW x y true hp) ?_ | refine CallOb.mk [] _ _ (.refl _) (sW x y true hp) ?_
   rintro v J1 N - ⟨rfl,rfl,rfl⟩
   first | refine PCallOb.mk _ (sW y z false hq) ?_ | refine CallOb.mk [] _ _ (.refl _) (sW y z false hq) ?_
   rintro v J1 N - ⟨rfl,rfl,rfl⟩
   set_option maxRecDepth 20000 in
   refine CodeOb.draw TryzEOK rfl rfl rfl ?_
   first | refine PCallOb.mk _ (sW x x true e6) ?_ | refine CallOb.mk [] _ _ (.refl _) (sW x x true e6) ?_
   rintro v J1 N - ⟨rfl,rfl,rfl⟩
   refine GuardOb.yk (by kernel_rfl) ?_
   refine GuardOb.yk (by kernel_rfl) ?_
   refine GuardOb.nk (by kernel_rfl) ?_
   refine GuardOb.yk (by kernel_rfl) ?_
   first | refine PCallOb.mk _ (sW y x false hr) ?_ | refine CallOb.mk [] _ _ (.refl _) (sW y x false hr) ?_
   rintro v J1 N - ⟨rfl,rfl,rfl⟩
   refine GuardOb.nk (by kernel_rfl) ?_
   first | refine PCallOb.mk _ (sC x y) ?_ | refine CallOb.mk [] _ _ (.refl _) (sC x y) ?_
   rintro v J1 N - ⟨rfl,rfl,rfl⟩
   first | refine PCallOb.mk _ (sW x (x.choice y) true e9) ?_ | refine CallOb.mk [] _ _ (.refl _) (sW x (x.choice y) true e9) ?_
   rintro v J1 N - ⟨rfl,rfl,rfl⟩
   refine GuardOb.yk (by kernel_rfl) ?_
   refine GuardOb.yk (by kernel_rfl) ?_
   first | refine PCallOb.mk _ (sS x z) ?_ | refine CallOb.mk [] _ _ (.refl _) (sS x z) ?_
   rintro v J1 N - ⟨rfl,rfl,rfl⟩
   first | refine PCallOb.mk _ (sS y z) ?_ | refine CallOb.mk [] _ _ (.refl _) (sS y z) ?_
   rintro v J1 N - ⟨rfl,rfl,rfl⟩
   first | refine PCallOb.mk _ (sW (x.seq z) (y.seq z) true (e10 hp)) ?_ | refine CallOb.mk [] _ _ (.refl _) (sW (x.seq z) (y.seq z) true (e10 hp)) ?_
   rintro v J1 N - ⟨rfl,rfl,rfl⟩
   exact⟨_,_,.refl,rfl⟩
  ·refine CodeOb.draw TryzEOK rfl rfl rfl ?_
   first | refine PCallOb.mk _ (sW x y true hp) ?_ | refine CallOb.mk [] _ _ (.refl _) (sW x y true hp) ?_
   rintro v J1 N - ⟨rfl,rfl,rfl⟩
   first | refine PCallOb.mk _ (sW y z false hq) ?_ | refine CallOb.mk [] _ _ (.refl _) (sW y z false hq) ?_
   rintro v J1 N - ⟨rfl,rfl,rfl⟩
   set_option maxRecDepth 20000 in
   refine CodeOb.draw TryzEOK rfl rfl rfl ?_
   first | refine PCallOb.mk _ (sW x x true e6) ?_ | refine CallOb.mk [] _ _ (.refl _) (sW x x true e6) ?_
   rintro v J1 N - ⟨rfl,rfl,rfl⟩
   refine GuardOb.yk (by kernel_rfl) ?_
   refine GuardOb.yk (by kernel_rfl) ?_
   refine GuardOb.nk (by kernel_rfl) ?_
   refine GuardOb.yk (by kernel_rfl) ?_
   first | refine PCallOb.mk _ (sW y x true hr) ?_ | refine CallOb.mk [] _ _ (.refl _) (sW y x true hr) ?_
   rintro v J1 N - ⟨rfl,rfl,rfl⟩
   refine GuardOb.yk (by kernel_rfl) ?_
   refine BinOb.eqIT (p:=x) (q:=y) (e8 hp hr) ?_
   refine GuardOb.yk (by kernel_rfl) ?_
   first | refine PCallOb.mk _ (sC x y) ?_ | refine CallOb.mk [] _ _ (.refl _) (sC x y) ?_
   rintro v J1 N - ⟨rfl,rfl,rfl⟩
   first | refine PCallOb.mk _ (sW x (x.choice y) true e9) ?_ | refine CallOb.mk [] _ _ (.refl _) (sW x (x.choice y) true e9) ?_
   rintro v J1 N - ⟨rfl,rfl,rfl⟩
   refine GuardOb.yk (by kernel_rfl) ?_
   refine GuardOb.yk (by kernel_rfl) ?_
   first | refine PCallOb.mk _ (sS x z) ?_ | refine CallOb.mk [] _ _ (.refl _) (sS x z) ?_
   rintro v J1 N - ⟨rfl,rfl,rfl⟩
   first | refine PCallOb.mk _ (sS y z) ?_ | refine CallOb.mk [] _ _ (.refl _) (sS y z) ?_
   rintro v J1 N - ⟨rfl,rfl,rfl⟩
   first | refine PCallOb.mk _ (sW (x.seq z) (y.seq z) true (e10 hp)) ?_ | refine CallOb.mk [] _ _ (.refl _) (sW (x.seq z) (y.seq z) true (e10 hp)) ?_
   rintro v J1 N - ⟨rfl,rfl,rfl⟩
   exact⟨_,_,.refl,rfl⟩
 ·cases hr:y.within x
  ·refine CodeOb.draw TryzEOK rfl rfl rfl ?_
   first | refine PCallOb.mk _ (sW x y true hp) ?_ | refine CallOb.mk [] _ _ (.refl _) (sW x y true hp) ?_
   rintro v J1 N - ⟨rfl,rfl,rfl⟩
   first | refine PCallOb.mk _ (sW y z true hq) ?_ | refine CallOb.mk [] _ _ (.refl _) (sW y z true hq) ?_
   rintro v J1 N - ⟨rfl,rfl,rfl⟩
   set_option maxRecDepth 20000 in
   refine CodeOb.draw TryzEOK rfl rfl rfl ?_
   first | refine PCallOb.mk _ (sW x x true e6) ?_ | refine CallOb.mk [] _ _ (.refl _) (sW x x true e6) ?_
   rintro v J1 N - ⟨rfl,rfl,rfl⟩
   refine GuardOb.yk (by kernel_rfl) ?_
   refine GuardOb.yk (by kernel_rfl) ?_
   refine GuardOb.yk (by kernel_rfl) ?_
   first | refine PCallOb.mk _ (sW x z true (e7 hp hq)) ?_ | refine CallOb.mk [] _ _ (.refl _) (sW x z true (e7 hp hq)) ?_
   rintro v J1 N - ⟨rfl,rfl,rfl⟩
   refine GuardOb.yk (by kernel_rfl) ?_
   refine GuardOb.yk (by kernel_rfl) ?_
   first | refine PCallOb.mk _ (sW y x false hr) ?_ | refine CallOb.mk [] _ _ (.refl _) (sW y x false hr) ?_
   rintro v J1 N - ⟨rfl,rfl,rfl⟩
   refine GuardOb.nk (by kernel_rfl) ?_
   first | refine PCallOb.mk _ (sC x y) ?_ | refine CallOb.mk [] _ _ (.refl _) (sC x y) ?_
   rintro v J1 N - ⟨rfl,rfl,rfl⟩
   first | refine PCallOb.mk _ (sW x (x.choice y) true e9) ?_ | refine CallOb.mk [] _ _ (.refl _) (sW x (x.choice y) true e9) ?_
   rintro v J1 N - ⟨rfl,rfl,rfl⟩
   refine GuardOb.yk (by kernel_rfl) ?_
   refine GuardOb.yk (by kernel_rfl) ?_
   first | refine PCallOb.mk _ (sS x z) ?_ | refine CallOb.mk [] _ _ (.refl _) (sS x z) ?_
   rintro v J1 N - ⟨rfl,rfl,rfl⟩
   first | refine PCallOb.mk _ (sS y z) ?_ | refine CallOb.mk [] _ _ (.refl _) (sS y z) ?_
   rintro v J1 N - ⟨rfl,rfl,rfl⟩
   first | refine PCallOb.mk _ (sW (x.seq z) (y.seq z) true (e10 hp)) ?_ | refine CallOb.mk [] _ _ (.refl _) (sW (x.seq z) (y.seq z) true (e10 hp)) ?_
   rintro v J1 N - ⟨rfl,rfl,rfl⟩
   exact⟨_,_,.refl,rfl⟩
  ·refine CodeOb.draw TryzEOK rfl rfl rfl ?_
   first | refine PCallOb.mk _ (sW x y true hp) ?_ | refine CallOb.mk [] _ _ (.refl _) (sW x y true hp) ?_
   rintro v J1 N - ⟨rfl,rfl,rfl⟩
   first | refine PCallOb.mk _ (sW y z true hq) ?_ | refine CallOb.mk [] _ _ (.refl _) (sW y z true hq) ?_
   rintro v J1 N - ⟨rfl,rfl,rfl⟩
   set_option maxRecDepth 20000 in
   refine CodeOb.draw TryzEOK rfl rfl rfl ?_
   first | refine PCallOb.mk _ (sW x x true e6) ?_ | refine CallOb.mk [] _ _ (.refl _) (sW x x true e6) ?_
   rintro v J1 N - ⟨rfl,rfl,rfl⟩
   refine GuardOb.yk (by kernel_rfl) ?_
   refine GuardOb.yk (by kernel_rfl) ?_
   refine GuardOb.yk (by kernel_rfl) ?_
   first | refine PCallOb.mk _ (sW x z true (e7 hp hq)) ?_ | refine CallOb.mk [] _ _ (.refl _) (sW x z true (e7 hp hq)) ?_
   rintro v J1 N - ⟨rfl,rfl,rfl⟩
   refine GuardOb.yk (by kernel_rfl) ?_
   refine GuardOb.yk (by kernel_rfl) ?_
   first | refine PCallOb.mk _ (sW y x true hr) ?_ | refine CallOb.mk [] _ _ (.refl _) (sW y x true hr) ?_
   rintro v J1 N - ⟨rfl,rfl,rfl⟩
   refine GuardOb.yk (by kernel_rfl) ?_
   refine BinOb.eqIT (p:=x) (q:=y) (e8 hp hr) ?_
   refine GuardOb.yk (by kernel_rfl) ?_
   first | refine PCallOb.mk _ (sC x y) ?_ | refine CallOb.mk [] _ _ (.refl _) (sC x y) ?_
   rintro v J1 N - ⟨rfl,rfl,rfl⟩
   first | refine PCallOb.mk _ (sW x (x.choice y) true e9) ?_ | refine CallOb.mk [] _ _ (.refl _) (sW x (x.choice y) true e9) ?_
   rintro v J1 N - ⟨rfl,rfl,rfl⟩
   refine GuardOb.yk (by kernel_rfl) ?_
   refine GuardOb.yk (by kernel_rfl) ?_
   first | refine PCallOb.mk _ (sS x z) ?_ | refine CallOb.mk [] _ _ (.refl _) (sS x z) ?_
   rintro v J1 N - ⟨rfl,rfl,rfl⟩
   first | refine PCallOb.mk _ (sS y z) ?_ | refine CallOb.mk [] _ _ (.refl _) (sS y z) ?_
   rintro v J1 N - ⟨rfl,rfl,rfl⟩
   first | refine PCallOb.mk _ (sW (x.seq z) (y.seq z) true (e10 hp)) ?_ | refine CallOb.mk [] _ _ (.refl _) (sW (x.seq z) (y.seq z) true (e10 hp)) ?_
   rintro v J1 N - ⟨rfl,rfl,rfl⟩
   exact⟨_,_,.refl,rfl⟩
end Go.V
