/-
  Part 6 of what the proofs of this seat share: the executor, data in memory, walks.
-/
import Derived.Test.YtellgkgedepkjaaGreatDoorK5
import Derived.Test.YtellgkgedepkjaaGreatDoorK2
import Derived.Test.YtellgkgedepkjaaGreatDoorK3
import Derived.Test.YtellgkgedepkjaaGreatDoorK4
set_option linter.all false
namespace Go.V
open Go
section
variable {P:Program} {w:World}
theorem Zku (t u ty e:Nat) (i:TypeInfo) (ht:P.underlying t=some (.slice e)) {du:TypeDesc} (hu:P.underlying u=some du) (hdu:∀ k,du≠.int k) (hi:P.info? e=some i)
  {g off n c T:Nat} {arr:Array Value} (hg:w.heap[g]?=some (.cells arr T (0,0))) {x:Value} {m:Nat} {news:List Value} (h1:∀ v∈news,v.oneCell'=true)
  (hlen:∀ w',(Builtin.lenOf x).run P w'=.ok m w') (hnew:(Builtin.firstCells i.size m x).run P w=.ok news.toArray w) (hroom:n+m≤c) (hfit:off+n * i.size+news.length≤arr.size) :
  (Builtin.append_ #[t,u] ty #[.slice (some ⟨g,off,none⟩) n c,x]).run P w=.ok (.slice (some ⟨g,off,none⟩) (n+m) c) (w.setRow g (Z05 arr.toList (off+n * i.size) news).toArray):=by
 have hdu':(match du with | .int _=>true | _=>false)=false:=by cases du<;>first | rfl | exact(hdu _ rfl).elim
 have hst:=run_storeCells_at P g (off+n * i.size) T news 0 arr w hg (by simpa using hfit) h1;simp only[Nat.add_zero] at hst;have hadd:(Addr.add ⟨g,off,none⟩ (n * i.size))=⟨g,off+n * i.size,none⟩:=Z06 _ rfl _;simp[Builtin.append_,run_underlying ht,run_underlying hu,sizeOf,typeInfo,hi,hlen,hroom,hnew,hadd,hst,Z05]
theorem ZlH (t u ty e:Nat) (i:TypeInfo) (z:Value) (ht:P.underlying t=some (.slice e)) {du:TypeDesc} (hu:P.underlying u=some du) (hdu:∀ k,du≠.int k) (hi:P.info? e=some i) (hz:i.zero=some z) (hzs:z.cells.size=i.size)
  {base:Option Addr} {n c:Nat} {xs:List Value} (hold:(Builtin.firstCells i.size n (.slice base n c)).run P w.drew=.ok xs.toArray w.drew) (hxs:xs.length=n * i.size) {x:Value} {m:Nat} {news:List Value} (hl:news.length=m * i.size)
  (hlen:∀ w',(Builtin.lenOf x).run P w'=.ok m w') (hnew:(Builtin.firstCells i.size m x).run P w.drew=.ok news.toArray w.drew) (hroom:c < n+m) (b1:n+m≤maxLen) (b2:(n+m) * i.bytes≤140737488355328) :
  ∃ cap cur,(Builtin.append_ #[t,u] ty #[.slice base n c,x]).run P w=.ok (.slice (some ⟨w.heap.size,0,none⟩) (n+m) cap) (w.drew.alloc (.cells (xs++news++cur).toArray e (0,0)))∧n+m≤cap∧cap≤maxLen∧(xs++news++cur).length=cap * i.size:=by
 have hdu':(match du with | .int _=>true | _=>false)=false:=by cases du<;>first | rfl | exact(hdu _ rfl).elim
 have hn:¬ (n+m≤c):=by omega
 have hb1:n+m≤9223372036854775807:=by simp only[maxLen] at b1;exact b1
 have h63':¬ (9223372036854775807 < ((n:Int)+(m:Int))):=by omega
 have h48':¬ (281474976710656 < Builtin.nextslicecap (n+m) c * i.bytes):=by have:=growslice_fits (by omega:c < n+m) b2;omega
 have hge:=grownCap_ge w (n+m) c e;have hcm:grownCap w (n+m) c e≤maxLen:=grownCap_le_maxLen w (n+m) c e b1;refine⟨grownCap w (n+m) c e,(Builtin.zeroCells z.cells (grownCap w (n+m) c e - (n+m))).toList,?_,hge,hcm,?_⟩
 ·simp[Builtin.append_,run_underlying ht,run_underlying hu,sizeOf,typeInfo,zeroValue,hi,hz,hlen,hn,h63',h48',Question.forced,hnew,hold,newRow,grownCap]
  congr 2
  apply Array.ext'
  simp
 ·rw[List.length_append,List.length_append,hxs,hl,Array.length_toList,size_zeroCells,hzs,←Nat.add_mul,←Nat.add_mul]
  congr 1
  omega
end
section
variable {X:Ctx} {G:GT} {pr:PR} {D:Nm} {m m':Me} {F:Fr} {fr:Tri EV} {C:Bx} {I:GH} {M:List Blk} {K:KS} {o:Oper} {v:EV}
theorem Rd.cells' {ad:Addr} {n:Nat} {vs:List Value} (h:Rd I M ad n vs) {w:World} (hH:Holds I M w) (j:Nat) (v:Value) (hj:vs[j]?=some v):w.cell? (ad.add j)=some v:=by
 obtain⟨hsp,cs,T,fr,hkn,hv,hl⟩:=h;rw[Z06 _ hsp,Z0C (hkn.heap hH)];rw[←hv,List.getElem?_take] at hj
 split at hj
 ·rw[List.getElem?_drop] at hj
  simpa using hj
 ·cases hj
theorem ZlI {x:EV} {u:Value} {ut:Option TI} {ei:TI} {k:Nat} {R:Type} {K:List EV->Option R} {r:R} (h:ZeP G m.t x ei.size K=some r) (hs:Ziv ut ei x=true) (hx:VR D x u) (hm:MS (RX X G pr) D m I M) (hk:ZeN x=some k) (h0:k≠0) :
  ∃ l vs,K l=some r∧VRs D l vs∧(∀ w',(Builtin.lenOf u).run X.P w'=.ok k w')∧(∀ w,Holds I M w->(Builtin.firstCells ei.size k u).run X.P w=.ok vs.toArray w)∧vs.length=k * ei.size ∧
   ((∃ a b z e,ut=some ⟨a,b,z,.slice e⟩)∨∃ a b z,ut=some ⟨a,b,z,.string⟩):=by
 have hty:(∃ a b z e,ut=some ⟨a,b,z,.slice e⟩)∨∃ a b z,ut=some ⟨a,b,z,.string⟩:=by
  unfold Ziv at hs
  split at hs<;>first | exact .inl ⟨_,_,_,_,rfl⟩ | exact .inr ⟨_,_,_,rfl⟩ | cases hs
 cases x<;>simp only[ZeP] at h<;>first | cases h | skip
 case sn=>simp[ZeN,Ziu] at hk;exact(h0 hk.symm).elim
 case so=>simp[ZeN,Ziu] at hk;exact(h0 hk.symm).elim
 case sl id off n c=>
  simp only[ZeN,Ziu,Option.some.injEq] at hk;subst hk;obtain⟨a,ha,rfl⟩:=hx.sli;obtain⟨ad,l,vs,e1,hrd,hl,h⟩:=Z1U (u:=.pointer (some ⟨a.b,a.o+off,none⟩)) hm (by simp only[VR];exact⟨a,ha,rfl⟩) h;cases e1;have hrd':=hrd;obtain⟨_,_,_,_,_,_,hlen⟩:=hrd';exact⟨l,vs,h,hl,fun _=>rfl,fun w hw=>run_firstCells_some (P:=X.P) w ei.size n _ n c vs hlen (fun j v hj=>hrd.cells' hw j v hj),hlen,hty⟩
 case sx id off e n=>
  simp only[ZeN,Ziu,Option.some.injEq] at hk;subst hk;obtain⟨a,ha,_,rfl⟩:=hx.slx;obtain⟨ad,l,vs,e1,hrd,hl,h⟩:=Z1U (u:=.pointer (some ⟨a.b,a.o+off,none⟩)) hm (by simp only[VR];exact⟨a,ha,rfl⟩) h;cases e1;have hrd':=hrd;obtain⟨_,_,_,_,_,_,hlen⟩:=hrd';exact⟨l,vs,h,hl,fun _=>rfl,fun w hw=>run_firstCells_some (P:=X.P) w ei.size n _ n _ vs hlen (fun j v hj=>hrd.cells' hw j v hj),hlen,hty⟩
 case s q=>
  simp only[ZeN,Option.some.injEq] at hk;subst hk
  have hsz1:ei.size=1:=by
   unfold Ziv at hs
   split at hs<;>first | exact Nat.eq_of_beq_eq_true hs | (rename_i e;cases e) | cases hs
  have:=hx.str;subst this
  have hq:(⟨q.toArray⟩:ByteArray).size=q.length:=by simp[ByteArray.size]
  refine⟨_,Z0x ⟨q.toArray⟩,h,Zhm q,fun w=>?_,fun w hw=>?_,by simp[Z0x,hsz1],hty⟩
  ·show Result.ok _ _=_
   rw[hq]
  ·have:=Lib.run_firstCells_string w ei.size (P:=X.P) ⟨q.toArray⟩
   rw[hq] at this;exact this
theorem Zho (hE:EOK X.P X.E) (hd:∀ d,o.dst=some d->d < X.n) {s x:Operand} {t u:Nat} (ho:o.op=.call { callee:=.builtin .append,args:=#[s,x],argTypes:=#[t,u] })
  {e:Nat} {a1 b1:Nat} {z1:List Value} {tu ei:TI} (ht:X.E t=some ⟨a1,b1,z1,.slice e⟩) (hu:X.E u=some tu) (hus:∀ k,tu.sh≠.int k) (he:X.E e=some ei)
  {base:Option Addr} {n c k:Nat} {xu:Value} (hs:ev F s=.val (.slice base n c)) (hx:ev F x=.val xu) {xs news:List Value} (hxs:xs.length=n * ei.size) (hnl:news.length=k * ei.size) (h1:Z0z news=true)
  (hlen:∀ w',(Builtin.lenOf xu).run X.P w'=.ok k w') (hnew:∀ w,Holds I M w->(Builtin.firstCells ei.size k xu).run X.P w=.ok news.toArray w)
  (hold:∀ w,Holds I M w->(Builtin.firstCells ei.size n (.slice base n c)).run X.P w=.ok xs.toArray w) (b1:n+k≤maxLen) (b2:(n+k) * ei.bytes≤140737488355328)
  (kin:n+k≤c->∃ g off T arr pre post,base=some ⟨g,off,none⟩∧M=pre++⟨g,.cells arr T (0,0)⟩::post∧off+n * ei.size+news.length≤arr.size ∧
   K (put o.dst (.val (.slice base (n+k) c)) F) C I (pre++⟨g,.cells (Z05 arr.toList (off+n * ei.size) news).toArray T (0,0)⟩::post))
  (knew:c < n+k->∀ b cap cur,I b=none->(∀ y∈M,y.num≠b)->n+k≤cap->cap≤maxLen->(xs++news++cur).length=cap * ei.size ->
   K (put o.dst (.val (.slice (some ⟨b,0,none⟩) (n+k) cap)) F) C I (⟨b,.cells (xs++news++cur).toArray e (0,0)⟩::M)):OtherOb X o F C I M K:=by
 refine⟨fun a w Q ⟨β,hR⟩=>?_⟩;obtain⟨inf,z,hi,hi1,hi2,hi3,hi4⟩:=(hE _ _ he).inf
 obtain⟨d,hud,hdd⟩:=(hE _ _ hu).und;obtain⟨dt,htd,hdt⟩:=(hE _ _ ht).und
 have hdt':dt=.slice e:=by cases dt<;>simp_all[Z2k]
 subst hdt'
 have hzs:z.cells.size=inf.size:=by
  rw[hi1,←(hE _ _ he).len,←hi4];simp
 have es:=Z04 hR.fr hs;have ex:=Z04 hR.fr hx
 have hdu:∀ k,d≠.int k:=fun k e'=>hus k (by rw[←hdd,e'];rfl)
 rw[←hi1] at hxs hnl hold hnew
 by_cases hroom:n+k≤c
 ·obtain⟨g,off,T,arr,pre,post,rfl,hM,hfit,hk⟩:=kin hroom
  rw[←hi1] at hfit hk;have hg:w.heap[g]?=some (.cells arr T (0,0)):=hR.holds.m ⟨g,.cells arr T (0,0)⟩ (by rw[hM];simp);have hrun:=Zku (P:=X.P) (w:=w) t u o.type e inf htd hud hdu hi hg (Z1w h1) hlen (hnew w hR.holds) hroom hfit
  refine Z0r (by rw[ho];simp) ?_ ⟨_,_,_,_,⟨β,RelB.put (x:=.val (.slice (some ⟨g,off,none⟩) (n+k) c)) (hR.store_blk hM) hd rfl⟩,hk⟩;unfold execOp
  simp only[ho,resolve,invoke,builtin,Sem.run_bind,Sem.run_pure,Result.andThen_ok,List.map_toArray,List.map_cons,List.map_nil,es,ex,hrun]
 ·have hH:Holds I M w.drew:=hR.holds.heap rfl
  obtain⟨cap,cur,hrun,h2,h3,h4⟩:=ZlH (P:=X.P) (w:=w) t u o.type e inf z htd hud hdu hi hi3 hzs (hold w.drew hH) hxs hnl hlen (hnew w.drew hH) (by omega) b1 (by rw[hi2];exact b2);have hR2:RelB X β a w.drew F C I M:=hR.world rfl
  rw[hi1] at h4;refine Z0r (by rw[ho];simp) ?_ ⟨_,_,_,_,⟨β,RelB.put (x:=.val (.slice (some ⟨w.heap.size,0,none⟩) (n+k) cap)) (hR2.alloc_blk (.cells (xs++news++cur).toArray e (0,0))) hd rfl⟩,knew (by omega) w.heap.size cap cur hR.holds.freshI hR.holds.freshM h2 h3 h4⟩;unfold execOp
  simp only[ho,resolve,invoke,builtin,Sem.run_bind,Sem.run_pure,Result.andThen_ok,List.map_toArray,List.map_cons,List.map_nil,es,ex,hrun]
theorem Zkv {u:Nat} {ei:TI} {x:EV} (h:Ziv (X.E u) ei x=true):∃ tu,X.E u=some tu∧∀ k,tu.sh≠.int k:=by
 unfold Ziv at h
 split at h<;>first | (cases h;done) | (rename_i e;exact⟨_,e,by simp⟩) | (rename_i e _;exact⟨_,e,by simp⟩) | (rename_i e _ _;exact⟨_,e,by simp⟩)
theorem ZlJ {s:EV} {u:Value} (h:Zmq s=true) (hs:VR D s u):∃ a n c,u=.slice a n c∧n≤c:=by
 cases s<;>simp only[Zmq,Bool.false_eq_true] at h
 case sn=>exact⟨_,_,_,hs.sln,Nat.le_refl _⟩
 case so=>obtain⟨a,c,rfl⟩:=hs.slo;exact⟨_,_,_,rfl,Nat.zero_le _⟩
 case sl=>obtain⟨a,_,rfl⟩:=hs.sli;exact⟨_,_,_,rfl,Nat.le_of_ble_eq_true h⟩
 case sx=>obtain⟨a,_,hle,rfl⟩:=hs.slx;exact⟨_,_,_,rfl,by omega⟩
theorem Zjh {x:EV} {u:Value} {ut:Option TI} {ei:TI} (hs:Ziv ut ei x=true) (hx:VR D x u) (hk:ZeN x=some 0):(∃ b c,u=.slice b 0 c)∨u=.string .empty:=by
 cases x<;>simp[ZeN,Ziu] at hk
 case sn=>exact .inl ⟨_,_,hx.sln⟩
 case so=>obtain⟨a,c,rfl⟩:=hx.slo;exact .inl ⟨_,_,rfl⟩
 case sl=>subst hk;obtain⟨a,_,rfl⟩:=hx.sli;exact .inl ⟨_,_,rfl⟩
 case sx=>subst hk;obtain⟨a,_,_,rfl⟩:=hx.slx;exact .inl ⟨_,_,rfl⟩
 case gs=>subst hk;exact .inl ⟨_,_,hx.sgl⟩
 case s=>subst hk;exact .inr hx.str
noncomputable abbrev Zom (X:Ctx) (G:GT) (m:Me) (s x:EV) (ei:TI) (kn e:Nat):List EV->Option (EV×Me):=fun l=>opn (some kn) none fun k=>cnd (Nat.beq k 0) (cnd (Zmq s) (some (s,m)) none) (cnd (l.all EV.one) (ZmW G m s l k ei.size ei.bytes e) none)
theorem Zji (hE:EOK X.P X.E) (hd:∀ d,o.dst=some d->d < X.n) {os ox:Operand} {t u:Nat} (ho:o.op=.call { callee:=.builtin .append,args:=#[os,ox],argTypes:=#[t,u] })
  {e a1 b1:Nat} {z1:List Value} {ei:TI} (ht:X.E t=some ⟨a1,b1,z1,.slice e⟩) {s x:EV} (hsrc:Ziv (X.E u) ei x=true) (he:X.E e=some ei) (hk:ZeN x=some 0) {us ux:Value}
  (es:ev F os=.val us) (gs:VR D s us) (ex:ev F ox=.val ux) (gx:VR D x ux) (h:ZeP G m.t x ei.size (Zom X G m s x ei 0 e)=some (v,m'))
  (hm:MS (RX X G pr) D m I M) (k:Z4U X G pr D m I M v m' o.dst F C K):OtherOb X o F C I M K:=by
 have h2:∃ l,Zom X G m s x ei 0 e l=some (v,m'):=by
  cases x<;>simp only[ZeP] at h<;>first | cases h | exact⟨_,h⟩ | skip
  case sl=>obtain⟨a,ha,rfl⟩:=gx.sli;obtain⟨_,l,_,_,_,_,h⟩:=Z1U (u:=.pointer (some ⟨a.b,a.o+_,none⟩)) hm (by simp only[VR];exact⟨a,ha,rfl⟩) h;exact⟨l,h⟩
  case sx=>obtain⟨a,ha,_,rfl⟩:=gx.slx;obtain⟨_,l,_,_,_,_,h⟩:=Z1U (u:=.pointer (some ⟨a.b,a.o+_,none⟩)) hm (by simp only[VR];exact⟨a,ha,rfl⟩) h;exact⟨l,h⟩
 obtain⟨l,h2⟩:=h2;have h3:cnd (Zmq s) (some (s,m)) none=some (v,m'):=h2;obtain⟨hc,h3⟩:=Z0b h3;cases h3;obtain⟨a,n,c,rfl,hnc⟩:=ZlJ hc gs;obtain⟨tu,hu,hus⟩:=Zkv hsrc;exact OtherOb.append0 hE ho hd ht rfl hu hus he es hnc ex (Zjh hsrc gx hk) (k D _ M Nm.ext_refl gs hm)
theorem Znc (hE:EOK X.P X.E) (hd:∀ d,o.dst=some d->d < X.n) {os ox:Operand} {t u:Nat} (ho:o.op=.call { callee:=.builtin .append,args:=#[os,ox],argTypes:=#[t,u] })
  {e a1 b1:Nat} {z1:List Value} {tu ei:TI} (ht:X.E t=some ⟨a1,b1,z1,.slice e⟩) (hu:X.E u=some tu) (hus:∀ k,tu.sh≠.int k) (he:X.E e=some ei) {us ux:Value} {id off n c kn:Nat}
  (es:ev F os=.val us) (gs:VR D (.sl id off n c) us) (ex:ev F ox=.val ux) {l:List EV} {vs:List Value} (h:Zll G m id off n c l kn ei.size e=some (v,m')) (hb1:n+kn≤maxLen) (hb2:(n+kn) * ei.bytes≤140737488355328)
  (hl:VRs D l vs) (hvl:vs.length=kn * ei.size) (h1:Z0z vs=true) (hlen:∀ w',(Builtin.lenOf ux).run X.P w'=.ok kn w') (hnew:∀ w,Holds I M w->(Builtin.firstCells ei.size kn ux).run X.P w=.ok vs.toArray w)
  (hm:MS (RX X G pr) D m I M) (k:Z4U X G pr D m I M v m' o.dst F C K):OtherOb X o F C I M K:=by
 have hTe:∀ {q:List Value} {c:Nat},q.length=c * ei.size->∀ i,(RX X G pr).E e=some i->q.length=c * i.size:=fun hq i hi=>by
  have:X.E e=some i:=hi;rw[he] at this;cases this;exact hq
 obtain⟨a,ha,rfl⟩:=gs.sli;unfold Zll at h
 by_cases hr:n+kn≤c
 ·have hb:Nat.ble (Nat.add n kn) c=true:=Nat.ble_eq_true_of_le hr
  rw[hb] at h;have h':Z4R m (.p id (Nat.add off (Nat.mul n ei.size))) l (fun m=>some (EV.sl id off (Nat.add n kn) c,m))=some (v,m'):=h;obtain⟨m2,h2,-,-,h3⟩:=Z7D (Y:=RX X G pr) h';cases h2;obtain⟨g,off',pre,post,arr,T,e1,hM,hfit,hone,⟨id',e',al,hid,hal,hg⟩,hms⟩:=h3 hm (u:=.pointer (some ⟨a.b,a.o+(off+n * ei.size),none⟩)) (by simp only[VR];exact⟨a,ha,rfl⟩) hl;cases e1;refine⟨fun ac w Q ⟨β,hR⟩=>?_⟩;obtain⟨inf,z,hi,hi1,hi2,hi3,hi4⟩:=(hE _ _ he).inf
  obtain⟨d,hud,hdd⟩:=(hE _ _ hu).und;obtain⟨dt,htd,hdt⟩:=(hE _ _ ht).und
  have hdt':dt=.slice e:=by cases dt<;>simp_all[Z2k]
  subst hdt';have hg:w.heap[a.b]?=some (.cells arr T (0,0)):=hR.holds.m ⟨a.b,.cells arr T (0,0)⟩ (by rw[hM];simp);have es':=Z04 hR.fr es
  have ex':=Z04 hR.fr ex;rw[←hi1] at hnew;have hrun:=Zku (P:=X.P) (w:=w) t u o.type e inf htd hud (fun k e'=>hus k (by rw[←hdd,e'];rfl)) hi hg (Z1w h1) hlen (hnew w hR.holds) hr (off:=a.o+off) (by rw[hi1];omega);rw[hi1,Nat.add_assoc] at hrun
  have hR2:=hR.store_blk (cs':=(Z05 arr.toList (a.o+(off+n * ei.size)) vs).toArray) hM;refine Z0r (by rw[ho];simp) ?_ ⟨_,_,_,_,⟨β,RelB.put (x:=.val (.slice (some ⟨a.b,a.o+off,none⟩) (n+kn) c)) hR2 hd rfl⟩,?_⟩
  ·unfold execOp
   simp only[ho,resolve,invoke,builtin,Sem.run_bind,Sem.run_pure,Result.andThen_ok,List.map_toArray,List.map_cons,List.map_nil,es',ex',hrun]
  ·exact k D _ _ Nm.ext_refl (by simp only[VR];exact⟨a,ha,rfl⟩) hms
 ·have hb:Nat.ble (Nat.add n kn) c=false:=by
   cases hb:Nat.ble (Nat.add n kn) c with
   | false=>rfl
   | true=>exact absurd (Nat.le_of_ble_eq_true hb) hr
  rw[hb] at h;have h':Z6c G m.t (.p id off) (Nat.mul n ei.size) (fun old=>ZgN m (old++l) e fun id m=>some (EV.sx id 0 0 (Nat.add n kn),m))=some (v,m'):=h;obtain⟨ad,old,xs,e1,hrd,hlo,h2⟩:=Z1U (u:=.pointer (some ⟨a.b,a.o+off,none⟩)) hm (by simp only[VR];exact⟨a,ha,rfl⟩) h';cases e1;obtain⟨m2,h6,hn,h7⟩:=Zco (Y:=RX X G pr) h2;cases h6;have hrd':=hrd;obtain⟨_,_,_,_,_,_,hxl⟩:=hrd'
  refine Zho hE hd ho ht hu hus he es ex hxl hvl h1 hlen hnew (fun w hw=>run_firstCells_some (P:=X.P) w ei.size n _ n c xs hxl (fun j v hj=>hrd.cells' hw j v hj)) hb1 hb2 (fun hr'=>(hr hr').elim) fun _ b cap cur hI hf hc1 hc2 hlen2=>?_
  refine k _ _ _ Nm.ext_set ?_ (h7 cur hm hf (hlo.append hl) (hTe hlen2) hc2);simp only[VR]
  exact⟨_,Nm.set_self _ _ _,by simpa using hc1,by simp⟩
theorem Znd (hE:EOK X.P X.E) (hd:∀ d,o.dst=some d->d < X.n) {os ox:Operand} {t u:Nat} (ho:o.op=.call { callee:=.builtin .append,args:=#[os,ox],argTypes:=#[t,u] })
  {e a1 b1:Nat} {z1:List Value} {tu ei:TI} (ht:X.E t=some ⟨a1,b1,z1,.slice e⟩) (hu:X.E u=some tu) (hus:∀ k,tu.sh≠.int k) (he:X.E e=some ei) {us ux:Value} {id n lim kn:Nat} {cs:Tri EV}
  (es:ev F os=.val us) (gs:VR D (.sx id 0 0 n) us) (ex:ev F ox=.val ux) (hg:m.t.get id=some (.cells cs e lim)) {l:List EV} {vs:List Value} (h:Zlm m id n cs lim l kn ei.size e=some (v,m')) (hb1:n+kn≤maxLen) (hb2:(n+kn) * ei.bytes≤140737488355328)
  (hl:VRs D l vs) (hvl:vs.length=kn * ei.size) (h1:Z0z vs=true) (hlen:∀ w',(Builtin.lenOf ux).run X.P w'=.ok kn w') (hnew:∀ w,Holds I M w->(Builtin.firstCells ei.size kn ux).run X.P w=.ok vs.toArray w)
  (hm:MS (RX X G pr) D m I M) (k:Z4U X G pr D m I M v m' o.dst F C K):OtherOb X o F C I M K:=by
 obtain⟨a,ha,hle,rfl⟩:=gs.slx;have hent:=hm.ent _ _ _ hg ha;obtain⟨arr,ho0,hM,hsz,hc,hk,hmx⟩:=hent;unfold Zlm at h;obtain⟨hlim,h⟩:=Z0b h;have hlim':n * ei.size≤lim:=Nat.le_of_ble_eq_true hlim;obtain⟨t1,h2,h3⟩:=Tri.set_ok (none:Option Ent) m.t id;rw[h2] at h;obtain⟨cs',h4,h5⟩:=Tri.puts_ok l cs (Nat.mul n ei.size);have h':Tri.putsK l cs (Nat.mul n ei.size) (fun cs=>Zlj (⟨t1,m.n⟩:Me) (.cells cs e (Nat.mul (Nat.add n kn) ei.size)) fun id m=>some (EV.sx id 0 0 (Nat.add n kn),m))=some (v,m'):=h
 rw[h4] at h';obtain⟨t2,h6,h7⟩:=Z7B h';cases h7
 have hsub:∀ i en,t1.get i=some en->i≠id∧m.t.get i=some en:=fun i en hi=>by
  rcases h3 i en hi with ⟨_,h8⟩ | h8
  ·cases h8
  ·exact h8
 have hgive:MS (RX X G pr) D ⟨t1,m.n⟩ I M:=⟨fun i en b hi=>hm.ent i en b (hsub i en hi).2,fun i i' en en' b b' hi hi'=>hm.inj i i' en en' b b' (hsub i en hi).2 (hsub i' en' hi').2,hm.dom,hm.glo⟩
 have hasz:arr.size=a.c * ei.size:=by
  have:=hk ei he;rw[ho0,Nat.zero_add] at this;exact this
 have hlb:=hl.len
 have hxs:((arr.toList.take (n * ei.size)).length=n * ei.size):=by
  rw[List.length_take,Array.length_toList];omega
 have hcell:∀ j,j < n * ei.size->∀ v,cs.get j=some v->∃ x,(arr.toList.take (n * ei.size))[j]?=some x∧VR D v x:=fun j hj v hv=>by
  obtain⟨x,g1,g2⟩:=hc j v (by omega) hv;rw[ho0,Nat.zero_add] at g1;exact⟨x,by rw[List.getElem?_take,if_pos hj];simpa using g1,g2⟩
 have hnewent:∀ (D':Nm) (M':List Blk) (b cp:Nat) (rest:List Value),D.le D'->(⟨b,.cells (arr.toList.take (n * ei.size)++vs++rest).toArray e (0,0)⟩:Blk)∈M'->(arr.toList.take (n * ei.size)++vs++rest).length=cp * ei.size->cp≤maxLen ->
   EntR D' X.E M' ⟨b,0,cp⟩ (.cells cs' e (Nat.mul (Nat.add n kn) ei.size)):=by
  intro D' M' b cp rest hD hM' hlen' hcp;have hmul:(n+kn) * ei.size=n * ei.size+kn * ei.size:=Nat.add_mul _ _ _;refine .cells _ rfl hM' ?_ (fun i v hi hgi=>?_) (fun i hi=>?_) hcp
  ·show 0+(n+kn) * ei.size≤_
   rw[List.size_toArray,List.length_append,List.length_append,hxs,hvl];omega
  ·have hi':i < n * ei.size+kn * ei.size:=by
    have:i < (n+kn) * ei.size:=hi;omega
   simp only[Nat.zero_add,List.getElem?_toArray]
   rcases h5 i v hgi with ⟨g1,g2⟩ | ⟨g1,g2⟩
   ·have g1':n * ei.size≤i:=g1
    obtain⟨x,g3,g4⟩:=hl.get (i:=i - n * ei.size) g2;refine⟨x,?_,g4.mono hD⟩;rw[List.append_assoc,List.getElem?_append_right (by omega),hxs,List.getElem?_append_left (by omega)]
    exact g3
   ·have g1':i < n * ei.size:=by
     rcases g1 with g1 | g1
     ·exact g1
     ·have:n * ei.size+l.length≤i:=g1
      omega
    obtain⟨x,g3,g4⟩:=hcell i g1' v g2;refine⟨x,?_,g4.mono hD⟩;rw[List.append_assoc,List.getElem?_append_left (by omega)]
    exact g3
  ·rw[he] at hi
   cases hi
   simpa using hlen'
 refine Zho hE hd ho ht hu hus he es ex hxs hvl h1 hlen hnew (fun w hw=>?_) hb1 hb2 (fun hr=>?_) fun _ b cap cur hI hf hc1 hc2 hlen2=>?_
 ·refine run_firstCells_some (P:=X.P) w ei.size n _ n _ _ hxs fun j v hj=>?_
  rw[Z06 _ rfl,Z0C (hw.m _ hM)];rw[List.getElem?_take] at hj
  split at hj
  ·rw[ho0];simpa using hj
  ·cases hj
 ·
  obtain⟨pre,post,hsp⟩:=List.append_of_mem hM;rw[Nat.sub_zero] at hr
  have hfit:a.o+0+n * ei.size+vs.length≤arr.size:=by
   have h9:=Nat.mul_le_mul_right ei.size hr;rw[Nat.add_mul] at h9;rw[ho0,hasz,hvl];omega
  refine⟨a.b,a.o+0,e,arr,pre,post,rfl,hsp,hfit,?_⟩
  have hsplice:Z05 arr.toList (a.o+0+n * ei.size) vs=arr.toList.take (n * ei.size)++vs++arr.toList.drop (n * ei.size+vs.length):=by
   rw[ho0];simp only[Z05,Nat.zero_add]
  rw[hsplice]
  have hkeep:∀ q∈M,q.num≠a.b->q∈pre++(⟨a.b,.cells (arr.toList.take (n * ei.size)++vs++arr.toList.drop (n * ei.size+vs.length)).toArray e (0,0)⟩:Blk)::post:=fun q hq hn=>by
   rw[hsp] at hq
   rcases List.mem_append.1 hq with hq | hq
   ·exact List.mem_append.2 (.inl hq)
   ·rcases List.mem_cons.1 hq with rfl | hq
    ·exact(hn rfl).elim
    ·exact List.mem_append.2 (.inr (List.mem_cons_of_mem _ hq))
  have hother:∀ i en b,t1.get i=some en->D i=some b->b.b≠a.b:=fun i en b hi hb hbb=>(hsub i en hi).1 (hm.inj _ _ _ _ _ _ (hsub i en hi).2 hg hb ha hbb)
  refine k _ _ _ Nm.ext_set ?_ (hgive.step (m:=⟨t1,m.n⟩) (j:=m.n) (fun i en hi=>(h6 i en hi).imp (fun q=>⟨q.1,Z0F q.2⟩) fun q=>q) (D.set_self _ ⟨a.b,0,a.c⟩) (Nm.le_set _ hm.fresh) (fun i hi=>by unfold Nm.set;rw[if_neg hi]) (fun i b hb=>?_) (fun _ _ h=>h)
   (fun i en b hne hi hb q hq hn=>hkeep q hq (by rw[hn];exact hother i en b hi hb)) (hnewent _ _ _ _ (arr.toList.drop (n * ei.size+vs.length)) (Nm.le_set _ hm.fresh) (by simp) ?_ hmx) fun i en b hne hi hb=>hother i en b hi hb)
  ·simp only[VR]
   exact⟨_,Nm.set_self _ _ _,by simpa using hr,by rw[ho0];rfl⟩
  ·unfold Nm.set at hb
   split at hb
   ·show i < m.n+1;omega
   ·have:=hm.dom _ _ hb;show i < m.n+1;omega
  ·rw[←hsplice,Z5s (by simpa using hfit)]
   simpa using hasz
 ·
  refine k _ _ _ Nm.ext_set ?_ (hgive.new (m:=⟨t1,m.n⟩) (a:=⟨b,0,cap⟩) h6 hf (hnewent _ _ _ _ _ (Nm.le_set _ hm.fresh) (by simp) hlen2 hc2));simp only[VR]
  exact⟨_,Nm.set_self _ _ _,by simpa using hc1,by simp⟩
theorem Zjj (hE:EOK X.P X.E) (hd:∀ d,o.dst=some d->d < X.n) {os ox:Operand} {t u:Nat} (ho:o.op=.call { callee:=.builtin .append,args:=#[os,ox],argTypes:=#[t,u] })
  {e a1 b1:Nat} {z1:List Value} {ei:TI} (ht:X.E t=some ⟨a1,b1,z1,.slice e⟩) {s x:EV} (hsrc:Ziv (X.E u) ei x=true) (he:X.E e=some ei) {kn:Nat} (hk:ZeN x=some kn) (h0:kn≠0) {us ux:Value}
  (es:ev F os=.val us) (gs:VR D s us) (ex:ev F ox=.val ux) (gx:VR D x ux) (h:ZeP G m.t x ei.size (Zom X G m s x ei kn e)=some (v,m'))
  (hm:MS (RX X G pr) D m I M) (k:Z4U X G pr D m I M v m' o.dst F C K):OtherOb X o F C I M K:=by
 obtain⟨l,vs,h2,hl,hlen,hnew,hvl,_⟩:=ZlI (ut:=X.E u) h hsrc gx hm hk h0;have h3:cnd (Nat.beq kn 0) (cnd (Zmq s) (some (s,m)) none) (cnd (l.all EV.one) (ZmW G m s l kn ei.size ei.bytes e) none)=some (v,m'):=h2;rw[Z0I h0] at h3;have h4:cnd (l.all EV.one) (ZmW G m s l kn ei.size ei.bytes e) none=some (v,m'):=h3;obtain⟨hone,h4⟩:=Z0b h4;have h1:=hl.one hone;obtain⟨tu,hu,hus⟩:=Zkv hsrc
 have hTe:∀ {q:List Value} {c:Nat},q.length=c * ei.size->∀ i,(RX X G pr).E e=some i->q.length=c * i.size:=fun hq i hi=>by
  have:X.E e=some i:=hi;rw[he] at this;cases this;exact hq
 cases s<;>simp only[ZmW] at h4<;>first | cases h4 | skip
 case sn=>
  obtain⟨hb,h5⟩:=Z0b h4;rw[Bool.and_eq_true] at hb;obtain⟨m2,h6,hn,h7⟩:=Zco (Y:=RX X G pr) h5;cases h6;have hsn:=gs.sln;subst hsn
  have hb1:0+kn≤maxLen:=by rw[Nat.zero_add];exact Nat.le_of_ble_eq_true hb.2
  have hb2:(0+kn) * ei.bytes≤140737488355328:=by rw[Nat.zero_add];exact Nat.le_of_ble_eq_true hb.1
  refine Zho hE hd ho ht hu hus he (n:=0) (c:=0) (xs:=[]) es ex (by simp) hvl h1 hlen hnew (fun w _=>by simp[run_firstCells_none]) hb1 hb2 (fun hr=>by omega) fun _ b cap cur hI hf hc1 hc2 hlen2=>?_
  refine k _ _ _ Nm.ext_set ?_ (h7 cur hm hf hl (hTe hlen2) hc2);simp only[VR]
  exact⟨_,Nm.set_self _ _ _,by simpa using hc1,by simp⟩
 case sl=>
  obtain⟨hb,h5⟩:=Z0b h4;rw[Bool.and_eq_true] at hb;exact Znc hE hd ho ht hu hus he es gs ex h5 (Nat.le_of_ble_eq_true hb.2) (Nat.le_of_ble_eq_true hb.1) hl hvl h1 hlen hnew hm k
 case sx=>
  split at h4
  ·rename_i hg
   obtain⟨hb,h5⟩:=Z0b h4;simp only[Bool.and_eq_true] at hb;obtain⟨⟨c1,c2⟩,c3,c4,c5⟩:=hb;have d1:=Nat.eq_of_beq_eq_true c1;have d2:=Nat.eq_of_beq_eq_true c2;have d3:=Nat.eq_of_beq_eq_true c3;subst d1;subst d2;subst d3;exact Znd hE hd ho ht hu hus he es gs ex hg h5 (Nat.le_of_ble_eq_true c5) (Nat.le_of_ble_eq_true c4) hl hvl h1 hlen hnew hm k
  ·cases h4
theorem Zjk (hE:EOK X.P X.E) (hd:∀ d,o.dst=some d->d < X.n) {args:Array Operand} {ts:Array Nat} (ho:o.op=.call { callee:=.builtin .append,args:=args,argTypes:=ts }) (h:Zln (RX X G pr) m ts.toList (rdL fr args.toList)=some (v,m'))
  (H:OR D F fr args.toList) (hm:MS (RX X G pr) D m I M) (k:Z4U X G pr D m I M v m' o.dst F C K):OtherOb X o F C I M K:=by
 unfold Zln at h
 split at h
 ·rename_i t u s x ht hl
  split at h
  ·rename_i sa sb sz e hE1
   obtain⟨ei,he,h⟩:=Z07 h;obtain⟨hsrc,h⟩:=Z0b h;obtain⟨os,ox,hargs,hs1,hx1⟩:=Z9H hl;obtain⟨us,es,gs⟩:=H.ev (x:=os) (by rw[hargs];simp) hs1;obtain⟨ux,ex,gx⟩:=H.ev (x:=ox) (by rw[hargs];simp) hx1
   have hargs':args=#[os,ox]:=by apply Array.ext';simpa using hargs
   have hts':ts=#[t,u]:=by apply Array.ext';simpa using ht
   have ho':o.op=.call { callee:=.builtin .append,args:=#[os,ox],argTypes:=#[t,u] }:=by rw[ho,hargs',hts']
   cases hk:ZeN x with
   | none=>
    exfalso
    unfold Ziv at hsrc
    split at hsrc<;>first | (cases hsrc;done) | (simp[ZeN,Ziu] at hk;done)
   | some kn=>
    rw[hk] at h
    by_cases h0:kn=0
    ·subst h0
     exact Zji hE hd ho' hE1 hsrc he hk es gs ex gx h hm k
    ·exact Zjj hE hd ho' hE1 hsrc he hk h0 es gs ex gx h hm k
  ·cases h
 ·cases h
end
section
variable {X:Ctx} {G:GT} {pr:PR} {D:Nm} {m m':Me} {F:Fr} {fr:Tri EV} {C:Bx} {I:GH} {M:List Blk} {K:KS} {o:Oper} {v:EV}
theorem Zhp (hE:EOK X.P X.E) (hd:∀ d,o.dst=some d->d < X.n) {args:Array Operand} {ts:Array Nat} (ho:o.op=.call { callee:=.builtin .unsafeString,args:=args,argTypes:=ts }) (h:ZgT (RX X G pr) m ts.toList (rdL fr args.toList)=some (v,m'))
  (H:OR D F fr args.toList) (hm:MS (RX X G pr) D m I M) (k:Z4U X G pr D m I M v m' o.dst F C K):OtherOb X o F C I M K:=by
 unfold ZgT at h
 split at h
 ·rename_i pt it ht hl
  cases h;obtain⟨op,on,hargs,h1,h2⟩:=Z9H hl;obtain⟨u1,e1,g1⟩:=H.ev (x:=op) (by rw[hargs];simp) h1;obtain⟨u2,e2,g2⟩:=H.ev (x:=on) (by rw[hargs];simp) h2
  have hargs':args=#[op,on]:=by apply Array.ext';simpa using hargs
  have hts':ts=#[pt,it]:=by apply Array.ext';simpa using ht
  have g1':u1=.pointer none:=by simpa only[VR] using g1
  subst g1';rw[g2.int] at e2;refine OtherOb.ustring0 (by rw[ho,hargs',hts']) hd e1 e2 (k D _ M Nm.ext_refl ?_ hm);simp only[VR]
  rfl
 ·rename_i pt it id n ht hl
  split at h
  ·rename_i sa sb sz e cs T lim hpt hg
   obtain⟨ei,he,h7⟩:=Z07 h;obtain⟨hb,h8⟩:=Z0b h7;simp only[Bool.and_eq_true] at hb;obtain⟨op,on,hargs,h1,h2⟩:=Z9H hl;obtain⟨u1,e1,g1⟩:=H.ev (x:=op) (by rw[hargs];simp) h1;obtain⟨u2,e2,g2⟩:=H.ev (x:=on) (by rw[hargs];simp) h2
   have hargs':args=#[op,on]:=by apply Array.ext';simpa using hargs
   have hts':ts=#[pt,it]:=by apply Array.ext';simpa using ht
   rw[g2.int] at e2;obtain⟨a,ha,rfl⟩:=g1.ptr;have hent:=hm.ent _ _ _ hg ha;obtain⟨arr,ho0,hM,hsz,hc,hk,hmx⟩:=hent;have hTe:=Nat.eq_of_beq_eq_true hb.2.1;subst hTe;unfold Z6c at h8;simp only[hg] at h8
   cases hbl0:Nat.ble (Nat.add 0 n) lim with
   | false=>rw[hbl0] at h8;cases h8
   | true=>
   rw[hbl0] at h8;simp only[cond_true] at h8;have hnl:0+n≤lim:=Nat.le_of_ble_eq_true hbl0;obtain⟨l,c1,c2,h9⟩:=Tri.many_ok cs n 0 _ _ h8;obtain⟨bs,hbs,h10⟩:=Z07 h9;obtain⟨h63,h11⟩:=Z0b h10;obtain⟨t1,h4,h5⟩:=Tri.set_ok (none:Option Ent) m.t id;rw[h4] at h11;cases h11
   have htl:(arr.toList.take n).length=n:=by rw[List.length_take,Array.length_toList];omega
   have hlv:VRs D l (arr.toList.take n):=VRs.of_get (by rw[htl,c1]) fun i v hi=>by
    have hin:i < n:=by rw[←c1];exact(List.getElem?_eq_some_iff.1 hi).1
    obtain⟨x,g3,g4⟩:=hc i v (by omega) (by have:=c2 i hin;rw[Nat.zero_add] at this;rw[this,hi]);rw[ho0,Nat.zero_add] at g3
    exact⟨x,by rw[List.getElem?_take,if_pos hin];simpa using g3,g4⟩
   have hvs:=Z7E hbs hlv
   have hbl:bs.length=n:=by
    have:=congrArg List.length hvs;rw[htl] at this
    simpa using this.symm
   obtain⟨pre,post,hsp⟩:=List.append_of_mem hM
   have hperm:M.Perm (⟨a.b,.cells arr T (0,0)⟩::(pre++post)):=by rw[hsp];exact List.perm_middle
   have hcs:arr.toList.take bs.length=bs.map fun b=>Value.int .u8 b.toNat:=by rw[hbl];exact hvs
   have h0:bs≠[]:=fun e'=>by
    subst e';have:0 < n:=Nat.le_of_ble_eq_true hb.2.2;simp at hbl;omega
   have e1':ev F op=.val (.pointer (some ⟨a.b,0,none⟩)):=by rw[e1,ho0]
   have e2':ev F on=.val (.int .i64 bs.length):=by rw[e2,hbl];rfl
   refine OtherOb.ustring hE (by rw[ho,hargs',hts']) hd hpt rfl he (Nat.eq_of_beq_eq_true hb.1) e1' e2' h0 (by rw[hbl];exact Nat.le_of_ble_eq_true h63) hperm hcs ?_
   have hsub:∀ i en,t1.get i=some en->i≠id∧m.t.get i=some en:=fun i en hi=>by
    rcases h5 i en hi with ⟨_,h8⟩ | h8
    ·cases h8
    ·exact h8
   refine k D _ _ Nm.ext_refl (by simp only[VR]) ⟨fun i en b hi hb1=>?_,fun i i' en en' b b' hi hi'=>hm.inj i i' en en' b b' (hsub i en hi).2 (hsub i' en' hi').2,hm.dom,hm.glo⟩
   refine(hm.ent i en b (hsub i en hi).2 hb1).mono (Nm.le_refl D) fun q hq hn=>?_
   rcases List.mem_cons.1 (hperm.mem_iff.1 hq) with rfl | hq
   ·exact((hsub i en hi).1 (hm.inj _ _ _ _ _ _ (hsub i en hi).2 hg hb1 ha hn.symm)).elim
   ·exact hq
  ·cases h
 ·cases h
def Zhq:Op->Bool
 | .makeMap .. | .lookup .. | .mapUpdate .. | .insert ..=>true
 | .call { callee:=.builtin .append,.. }=>true
 | .call { callee:=.builtin .copy,.. }=>true
 | .call { callee:=.builtin .unsafeString,.. }=>true
 | _=>false
theorem Z2G {op:Op} (ho:o.op=op) (h:Zhq op=true) (k:OtherOb X o F C I M K):Z40 X o F C I M K:=by
 obtain⟨dst,op',ty,pos,after,guard⟩:=o;simp only at ho;subst ho;unfold Zhq at h
 split at h<;>first | exact k | cases h
theorem Zne (hE:EOK X.P X.E) (hd:∀ d,o.dst=some d->d < X.n) (h:E_x (RX X G pr) m o fr=some (v,m')) (H:OR D F fr o.op.operands.toList) (hm:MS (RX X G pr) D m I M) (k:Z4U X G pr D m I M v m' o.dst F C K):Z40 X o F C I M K:=by
 unfold E_x at h
 split at h
 ·rename_i t x y ho
  exact Zf1 ho h H hm k
 ·rename_i t ho
  exact Z2G ho rfl (ZdK hE hd ho h (by simp) hm k)
 ·rename_i t x ho
  split at h
  ·rename_i kk n hx
   refine Z2G ho rfl (ZdK hE hd ho h (fun y hy=>?_) hm k);cases hy
   obtain⟨u,e1,g1⟩:=H.ev (x:=x) (by rw[ho];simp[Op.operands]) hx;rw[g1.int] at e1;exact⟨_,_,e1⟩
  ·cases h
 ·rename_i t x y ok ho
  exact Z2G ho rfl (Zhk hE hd ho h H hm k)
 ·rename_i t x y z ho
  exact Z2G ho rfl (ZdL hE (.inl ho) h H hm k)
 ·rename_i t x y z ho
  exact Z2G ho rfl (ZdL hE (.inr ho) h H hm k)
 ·rename_i s d x ho
  have hob:=Zhl hE hd ho h H hm k;obtain⟨dst,op',ty,pos,after,guard⟩:=o;simp only at ho;subst ho
  have hd2:∃ a b z,X.E d=some ⟨a,b,z,.string⟩:=by
   unfold ZdB at h
   split at h
   ·exact⟨_,_,_,by assumption⟩
   ·exact⟨_,_,_,by assumption⟩
   ·exact⟨_,_,_,by assumption⟩
   ·cases h
  obtain⟨a,b,z,hd2⟩:=hd2;simp only[Z40,V_q,hd2]
  split
  ·rename_i e _
   cases e
  ·exact hob
 ·rename_i b args ts ho
  have H':OR D F fr args.toList:=by rw[ho] at H;simpa[Op.operands,Call.operands] using H
  unfold ZoN at h
  split at h
  ·exact Z2G ho rfl (Zjk hE hd ho h H' hm k)
  ·exact Z2G ho rfl (Zhn hE hd ho h H' hm k)
  ·exact Z2G ho rfl (Zhp hE hd ho h H' hm k)
  ·cases h
 ·cases h
end
def ZaX (Y:RK) (call:EV->List EV->Me->Option (EV×Me)):Prop:=∀ f l m v m',call f l m=some (v,m')->∀ (D:Nm) (I:GH) (M:List Blk) (u:Value) (us:List Value),VR D f u->VRs D l us->MS Y D m I M ->
 (∃ g fs cs,u=.func (.func g) fs cs∧Spec Y.P g (fs.toList++us++cs.toList) I M fun r I' M'=>∃ D',D.ext D' m.n∧VR D' v r∧MS Y D' m' I' M') ∨
 ∃ q,u=.func (.yield q) #[] #[]∧ZfH Y.P q us I M fun r I' M'=>∃ D',D.ext D' m.n∧VR D' v r∧MS Y D' m' I' M'
def PFv (dst:Option Nat) (v:EV) (D:Nm) (F F':Fr):Prop:=(∀ d,dst=some d->SvE D (F' d) v)∧∀ (D:Nm) t v',dst≠some t->SvE D (F t) v'->SvE D (F' t) v'
theorem PFv.put {dst:Option Nat} {v:EV} {D:Nm} {x:SV} (F:Fr) (h:SvE D x v):PFv dst v D F (put dst x F):=by
 constructor
 ·rintro d rfl
  simpa[Go.V.put,upd] using h
 ·intro D t v' hne h
  cases dst with
  | none=>exact h
  | some d=>
   have:t≠d:=fun e=>hne (by rw[e])
   simp only[Go.V.put,upd,Z0I this,cond_false];exact h
theorem PF.v {dst:Option Nat} {u:Value} {F F':Fr} (h:PF dst u F F') {D:Nm} {v:EV} (hv:VR D v u):PFv dst v D F F':=⟨fun d hd=>by rw[h.1 d hd];exact .val hv,h.2⟩
section
variable {X:Ctx} {G:GT} {pr:PR} {D:Nm} {m m':Me} {F:Fr} {fr:Tri EV} {C:Bx} {I:GH} {M:List Blk} {K:KS} {o:Oper} {v:EV}
def ZdN (X:Ctx) (G:GT) (pr:PR) (o:Oper) (fr:Tri EV) (m:Me) (v:EV) (m':Me):Prop:=m.n≤m'.n∧∀ (D:Nm) (F:Fr) (C:Bx) (I:GH) (M:List Blk) (K:KS),OR D F fr o.op.operands.toList->MS (RX X G pr) D m I M ->
 (∀ D' F' C' I' M',D.ext D' m.n->PFv o.dst v D' F F'->MS (RX X G pr) D' m' I' M'->K F' C' I' M')->Z40 X o F C I M K
theorem Zkw {op:Op} (ho:o.op=op) (hk:Z2x X.E op=0) (h:V_q X op (evr F) C I M (fun x=>K (put o.dst x F) C I M) (OtherOb X o F C I M K)):Z40 X o F C I M K:=by
 obtain⟨dst,op',ty,pos,after,guard⟩:=o;simp only at ho;subst ho
 cases op' with
 | call c=>
  obtain⟨callee,args,ts⟩:=c
  cases callee with
  | value f=>simp[Z2x] at hk
  | invoke r n=>exact h
  | builtin b=>exact h
 | alloc t=>simp[Z2x] at hk
 | box t x=>simp[Z2x] at hk
 | store t x y=>simp[Z2x] at hk
 | buildSlice t l ps=>simp[Z2x] at hk
 | makeSlice t l c=>simp[Z2x] at hk
 | _=>exact h
theorem Zcp {R:Type} {dst:Option Nat} {K:Tri EV->Option R} {r:R} (h:ZbI dst fr v K=some r):∃ fr',K fr'=some r∧(dst=none->fr'=fr)∧∀ d,dst=some d->∀ t w,fr'.get t=some w->(t=d∧w=v)∨(t≠d∧fr.get t=some w):=by
 unfold ZbI at h
 cases dst with
 | none=>exact⟨fr,h,fun _=>rfl,fun d hd=>by cases hd⟩
 | some d=>
  have h':(ZgM v fun v=>fr.setK (some v) d K)=some r:=h;rw[ZgZ] at h';obtain⟨fr',h1,h2⟩:=Tri.set_ok (some v) fr d;rw[h1] at h';refine⟨fr',h',(fun e=>by cases e),fun d' hd t w hw=>?_⟩;cases hd
  rcases h2 t w hw with ⟨e1,e2⟩ | ⟨e1,e2⟩
  ·exact .inl ⟨e1,(Z0F e2).symm⟩
  ·exact .inr ⟨e1,e2⟩
theorem Zhr {R:Type} (hE:EOK X.P X.E) (hesc:∀ d,d < X.n->X.esc.contains d=true) (hd:∀ d,o.dst=some d->d < X.n) {call:EV->List EV->Me->Option (EV×Me)} (hcall:ZaX (RX X G pr) call) {K:Tri EV->Me->Option R} {r:R}
  (h:Zki (RX X G pr) call o fr m K=some r):∃ v m' fr',ZdN X G pr o fr m v m'∧(ZbI o.dst fr v fun fr=>K fr m')=some r∧K fr' m'=some r∧(o.dst=none->fr'=fr)∧∀ d,o.dst=some d->∀ t w,fr'.get t=some w->(t=d∧w=v)∨(t≠d∧fr.get t=some w):=by
 have fin:∀ {v:EV} {m':Me},ZdN X G pr o fr m v m'->(ZbI o.dst fr v fun fr=>K fr m')=some r->∃ v m' fr',ZdN X G pr o fr m v m'∧(ZbI o.dst fr v fun fr=>K fr m')=some r∧K fr' m'=some r∧(o.dst=none->fr'=fr)∧∀ d,o.dst=some d->∀ t w,fr'.get t=some w->(t=d∧w=v)∨(t≠d∧fr.get t=some w):=fun {v m'} hc hp=>by
  obtain⟨fr',h1,h2,h3⟩:=Zcp hp;exact⟨v,m',fr',hc,hp,h1,h2,h3⟩
 unfold Zki at h
 split at h
 ·
  rename_i f args ts ho
  unfold ZgU at h;obtain⟨fv,hf,h⟩:=Z07 h;obtain⟨l,hl,h⟩:=Z07 h;obtain⟨⟨v,m'⟩,hc,h⟩:=Z07 h;obtain⟨hn,h⟩:=Z0b h;refine fin ⟨Nat.le_of_ble_eq_true hn,fun D F C I M K hO hm hk=>?_⟩ h;rw[ho] at hO;obtain⟨u,e1,g1⟩:=hO.ev (x:=f) (by simp[Op.operands,Call.operands]) hf;obtain⟨us,e2,g2⟩:=hO.evs (l:=args.toList) (by intro y hy;simp[Op.operands,Call.operands];exact .inr (by simpa using hy)) hl;obtain⟨dst,op',ty,pos,after,guard⟩:=o;simp only at ho;subst ho
  rcases hcall _ _ _ _ _ hc D I M u us g1 g2 hm with ⟨g,fs,cs,rfl,hs⟩ | ⟨q,rfl,hs⟩
  ·simp only[Z40,e1,e2]
   exact CallOb.whole _ hs fun r I' M' hI hx=>by
    obtain⟨D',h1,h2,h3⟩:=hx;exact hk D' _ C I' M' h1 (.put F (.val h2)) h3
  ·simp only[Z40,e1,e2]
   refine OtherOb.yield rfl hd e1 e2 ⟨M,[],_,by simp,hs,fun r I' M' hI hx=>?_⟩;obtain⟨D',h1,h2,h3⟩:=hx
   rw[List.append_nil];exact hk D' _ C I' M' h1 (.put F (.val h2)) h3
 ·rename_i op hno
  unfold ZoR at h
  split at h
  ·rename_i hk0
   unfold ZoP at h;obtain⟨v,hv,h⟩:=Z07 h;refine fin ⟨Nat.le_refl _,fun D F C I M K hO hm hk=>?_⟩ h;exact Zkw rfl hk0 (Zks hE hv hO hm fun x hx=>hk D _ C I M Nm.ext_refl (.put F hx) hm)
  ·unfold ZoO at h
   obtain⟨d,hdd,h⟩:=Z07 h;obtain⟨⟨l,T,c,mk⟩,ha,h⟩:=Z07 h;obtain⟨m2,h2,hn,h3⟩:=Zco (Y:=RX X G pr) h;refine fin (v:=mk m.n) (m':=m2) ⟨by omega,fun D F C I M K hO hm hk=>?_⟩ (by rw[hdd];exact h2)
   refine Zkt hE hesc hd ha (by rw[hdd];rfl) hO fun b vs u F' C' hI hf hvs hlen hc hu hpf=>?_
   have h4:=h3 (vs:=vs) [] (b:=b) (c:=c) hm hf hvs (by simpa using hlen) hc;rw[List.append_nil] at h4;exact hk _ F' C' I _ Nm.ext_set (hpf.v (hu _ _ (Nm.set_self _ _ _))) h4
  ·unfold ZoQ at h
   obtain⟨⟨v,m'⟩,hx,h⟩:=Z07 h;obtain⟨hn,h⟩:=Z0b h;refine fin ⟨Nat.le_of_ble_eq_true hn,fun D F C I M K hO hm hk=>?_⟩ h
   exact Zne hE hd hx hO hm fun D' u M' h1 h2 h3=>hk D' _ C I M' h1 (.put F (.val h2)) h3
end
def St (X:Ctx) (G:GT) (pr:PR) (D0:Nm) (n0:Nat) (fr:Tri EV) (m:Me) (a:Act) (w:World):Prop:=
 ∃ D F C I M,Rel X a w F C I M∧FR D F fr∧MS (RX X G pr) D m I M∧D0.ext D n0∧n0≤m.n
section
variable {X:Ctx} {G:GT} {pr:PR} {D0:Nm} {n0:Nat} {m m':Me} {fr fr':Tri EV} {a:Act} {w:World}
theorem Nm.ext_trans {D D' D'':Nm} {n n':Nat} (h:D.ext D' n) (h':D'.ext D'' n') (hn:n≤n'):D.ext D'' n:=fun i hi=>by rw[h' i (by omega),h i hi]
theorem Zjl {ops:Array Oper} {o:Oper} {b:Bool} {D:Nm} {F:Fr} {β:Nat->Nat} (h:Z7u ops.toList o fr=some b) (hF:∀ t,Z1R β (F t) (a.tmps.getD t undef)) (hfr:FR D F fr):Region.wanted o (yielded ops a.tmps)=b:=by
 unfold Z7u at h
 split at h
 ·rename_i hg
  cases h;simp[Region.wanted,hg]
 ·rename_i j c hg
  split at h
  ·cases h
  ·rename_i d hj
   have hj':(ops[j]?).bind (·.dst)=some d:=by
    rw[Z3z] at hj
    simpa using hj
   have hy:=Z2P hj' a.tmps
   split at h
   ·rename_i q hq
    cases h;have hs:=hfr _ _ hq
    have hv:a.tmps.getD d undef=.bool q:=by
     have h1:=hF d
     rcases hs with ⟨u,e,hu⟩ | ⟨q',e',e⟩
     ·rw[e] at h1
      rw[h1,hu.bool]
     ·cases e'
      rw[e] at h1;exact h1
    simp[Region.wanted,hg,hy,Z2O hv]
   ·rename_i l hq
    cases h;have hs:=hfr _ _ hq;obtain⟨u,e,hu⟩:=hs.nb (by simp);obtain⟨vs,_,rfl⟩:=hu.tup
    have h1:=hF d;rw[e] at h1
    have hnone:yielded ops a.tmps j=none:=by
     rw[hy]
     cases hg':a.tmps[d]? with
     | none=>rfl
     | some v=>
      simp only[Z1R,Array.getD_eq_getD_getElem?,hg',Option.getD_some] at h1;subst h1;rfl
    simp[Region.wanted,hg,hnone]
   ·cases h
theorem Zhs {R:Type} {o:Oper} {K:Tri EV->Option R} {r:R} (h:Z7t o fr K=some r):∃ fr',K fr'=some r∧(o.dst=none->fr'=fr)∧∀ d,o.dst=some d->∀ t w,fr'.get t=some w->(t=d∧w=.t [])∨(t≠d∧fr.get t=some w):=by
 unfold Z7t at h
 cases hd:o.dst with
 | none=>rw[hd] at h;exact⟨fr,h,fun _=>rfl,fun d e=>by cases e⟩
 | some d=>
  rw[hd] at h;obtain⟨fr',h1,h2⟩:=Tri.set_ok (some (EV.t [])) fr d;simp only[h1] at h;refine⟨fr',h,(fun e=>by cases e),fun d' hd' t w hw=>?_⟩;cases hd'
  rcases h2 t w hw with ⟨e1,e2⟩ | ⟨e1,e2⟩
  ·exact .inl ⟨e1,(Z0F e2).symm⟩
  ·exact .inr ⟨e1,e2⟩
theorem FR.step {D D':Nm} {F F':Fr} {dst:Option Nat} {v:EV} (h:FR D F fr) (hle:D.le D') (hp:PFv dst v D' F F') (h1:dst=none->fr'=fr) (h2:∀ d,dst=some d->∀ t w,fr'.get t=some w->(t=d∧w=v)∨(t≠d∧fr.get t=some w)):FR D' F' fr':=fun t u ht=>by
 cases hd:dst with
 | none=>
  rw[h1 hd] at ht;exact hp.2 D' t u (by rw[hd];simp) ((h t u ht).mono hle)
 | some d=>
  rcases h2 d hd t u ht with ⟨rfl,rfl⟩ | ⟨hne,hg⟩
  ·exact hp.1 _ hd
  ·exact hp.2 D' t u (by rw[hd];intro e;cases e;exact hne rfl) ((h t u hg).mono hle)
theorem Z9I (hE:EOK X.P X.E) (hesc:∀ d,d < X.n->X.esc.contains d=true) {call:EV->List EV->Me->Option (EV×Me)} (hcall:ZaX (RX X G pr) call) (ops:Array Oper) (Q:Exit->Act->World->Prop)
  (hQ:∀ a w,St X G pr D0 n0 fr' m' a w->Q .normal a w):∀ (l:List Oper) (k:Nat),(∀ j,l[j]?=ops[k+j]?)->(∀ o∈l,∀ d,o.dst=some d->d < X.n)->∀ {fr m a w},ZeQ (RX X G pr) call ops.toList l fr m=some (fr',m') ->
   St X G pr D0 n0 fr m a w->wpOpsIn (fen X) 0 X.P ops Q (List.range' k l.length) a w
 | [],k,_,_,fr,m,a,w,h,hs=>by
  have h':some (fr,m)=some (fr',m'):=h;cases h';exact hQ _ _ hs
 | o::rest,k,hl,hd,fr,m,a,w,h,hs=>by
  have h0:ops[k]?=some o:=by simpa using (hl 0).symm
  have hl':∀ j,rest[j]?=ops[k+1+j]?:=fun j=>by have:=hl (j+1);simpa[Nat.add_assoc,Nat.add_comm 1 j] using this
  have hd':∀ o∈rest,∀ d,o.dst=some d->d < X.n:=fun o ho=>hd o (by simp[ho])
  have hd0:=hd o (by simp);have h':opn (Z7u ops.toList o fr) none (fun w=>cnd w (Zki (RX X G pr) call o fr m fun fr m=>ZeQ (RX X G pr) call ops.toList rest fr m) (Z7t o fr fun fr=>ZeQ (RX X G pr) call ops.toList rest fr m))=some (fr',m'):=h
  obtain⟨b,hb,h'⟩:=Z07 h';obtain⟨D,F,C,I,M,⟨β,hR⟩,hF,hm,hx,hn⟩:=hs;have hw:=Zjl hb hR.fr hF;simp only[List.length_cons,List.range'_succ,wpOpsIn,h0];rw[hw]
  cases b with
  | true=>
   have h2:Zki (RX X G pr) call o fr m (fun fr m=>ZeQ (RX X G pr) call ops.toList rest fr m)=some (fr',m'):=h';obtain⟨v,m1,fr1,⟨hmn,hcore⟩,-,h3,g1,g2⟩:=Zhr hE hesc hd0 hcall h2;simp only[if_true]
   refine Oper.wpIn_mono (fun a' w'=>?_) (Z2g hE hd0 ⟨β,hR⟩ (hcore D F C I M (fun F' C' I' M'=>∃ D',D.ext D' m.n∧FR D' F' fr1∧MS (RX X G pr) D' m1 I' M') (hF.op _) hm
    fun D' F' C' I' M' e1 e2 e3=>⟨D',e1,hF.step (hm.le e1) e2 g1 g2,e3⟩))
   rintro⟨F',C',I',M',hr',D',e1,e2,e3⟩;exact Z9I hE hesc hcall ops Q hQ rest (k+1) hl' hd' h3 ⟨D',F',C',I',M',hr',e2,e3,Nm.ext_trans hx e1 hn,Nat.le_trans hn hmn⟩
  | false=>
   have h2:Z7t o fr (fun fr=>ZeQ (RX X G pr) call ops.toList rest fr m)=some (fr',m'):=h';obtain⟨fr1,h3,g1,g2⟩:=Zhs h2;simp only[Bool.false_eq_true,if_false];refine⟨fun _ _=>trivial,Z9I hE hesc hcall ops Q hQ rest (k+1) hl' hd' h3 ⟨D,put o.dst (.val undef) F,C,I,M,⟨β,hR.put (x:=.val undef) hd0 rfl⟩,hF.step (Nm.le_refl D) (.put F (.val .undef)) g1 g2,hm,hx,hn⟩⟩
end
theorem ZlK {X:Ctx} {ops:List Oper} {Q:Exit->Act->World->Prop} (hlt:∀ j e,Dep ops j e->e < j) (J:(Nat->Prop)->Act->World->Prop)
  (step:∀ (L:Nat->Prop) a w q o,J L a w->Z6L ops L->(∀ i,L i->i < ops.length)->ops[q]?=some o->¬ L q->(∀ e,Dep ops q e->L e) ->
   (Region.wanted o (yielded ops.toArray a.tmps)=true->o.wpIn (fen X) 0 X.P a w (J fun j=>L j∨j=q) Q)∧(Region.wanted o (yielded ops.toArray a.tmps)=false->J (fun j=>L j∨j=q) (a.put o.dst undef) w))
  (fin:∀ a w,J (fun i=>i < ops.length) a w->Q .normal a w):∀ (fuel:Nat) (listed:Array Bool) (a:Act) (w:World),listed.size=ops.length->todo ops listed≤fuel->Z6L ops (fun i=>listed.getD i false=true) ->
   J (fun i=>listed.getD i false=true) a w->wpAnyIn (fen X) 0 X.P .any ops.toArray Q fuel listed a w:=by
 have lim:∀ (listed:Array Bool) (i:Nat),listed.getD i false=true->i < listed.size:=fun listed i h=>by
  refine Classical.byContradiction fun hn=>?_
  simp[Array.getD,hn] at h
 have full:∀ (listed:Array Bool) a w,listed.size=ops.length->Region.ready .any ops.toArray listed=[]->J (fun i=>listed.getD i false=true) a w->Q .normal a w:=fun listed a w hsz hnil hJ=>by
  have all:∀ i,i < ops.length->listed.getD i false=true:=fun i=>by
   induction i using Nat.strongRecOn with
   | ind i ih=>
    intro hi
    refine Classical.byContradiction fun hn=>?_
    have ho:ops[i]?=some ops[i]:=List.getElem?_eq_getElem hi
    have:i∈Region.ready .any ops.toArray listed:=(Z1K hsz).2 ⟨_,ho,hn,fun e he=>by
     have h1:=hlt i e he
     exact ih e h1 (by omega)⟩
    rw[hnil] at this;cases this
  have e:(fun i=>listed.getD i false=true)=fun i=>i < ops.length:=by
   funext i
   simp only[eq_iff_iff];exact⟨fun h=>by have:=lim listed i h;omega,all i⟩
  rw[e] at hJ;exact fin a w hJ
 intro fuel
 induction fuel with
 | zero=>
  intro listed a w hsz hf hcl hJ
  have hnil:Region.ready .any ops.toArray listed=[]:=by
   cases hr:Region.ready .any ops.toArray listed with
   | nil=>rfl
   | cons i l=>
    obtain⟨o,ho,hn,_⟩:=(Z1K hsz).1 (by rw[hr];simp:i∈Region.ready .any ops.toArray listed);have:=Z6f (List.getElem?_eq_some_iff.1 ho).1 hsz hn
    omega
  exact⟨hnil,full listed a w hsz hnil hJ⟩
 | succ fuel ih=>
  intro listed a w hsz hf hcl hJ;refine⟨fun hnil=>full listed a w hsz hnil hJ,fun q hq=>?_⟩;obtain⟨o,ho,hn,hd⟩:=(Z1K hsz).1 hq
  have hlt':=(List.getElem?_eq_some_iff.1 ho).1;have hset:=Z8q (listed:=listed) (i:=q) (by omega)
  have next:∀ a' w',J (fun j=>listed.getD j false=true∨j=q) a' w'->wpAnyIn (fen X) 0 X.P .any ops.toArray Q fuel (listed.setIfInBounds q true) a' w':=fun a' w' h=>by
   refine ih _ a' w' (by simpa using hsz) ?_ ?_ (by rw[hset];exact h)
   ·have:=Z6f hlt' hsz hn
    omega
   ·rw[hset]
    rintro j e (hj | rfl) he
    ·exact .inl (hcl j e hj he)
    ·exact .inl (hd e he)
  obtain⟨s1,s2⟩:=step _ a w q o hJ hcl (fun i hi=>by have:=lim listed i hi;omega) ho hn hd
  have hidx:ops.toArray[q]?=some o:=by simpa using ho
  unfold wpOpIn;simp only[hidx]
  cases hw:Region.wanted o (yielded ops.toArray a.tmps) with
  | true=>
   simp only[if_true];exact Oper.wpIn_mono next (s1 hw)
  | false=>
   simp only[Bool.false_eq_true,if_false];exact⟨fun _ _=>trivial,next _ _ (s2 hw)⟩
theorem ZdO {S:List Me} {lo hi j:Nat} {p:Me->Bool} {m:Me} (h:ZeS S lo hi p=true) (h1:lo≤j) (h2:j≤hi) (hj:S[j]?=some m):p m=true:=by
 unfold ZeS at h;refine List.all_eq_true.1 h m ?_;refine List.mem_of_getElem? (i:=j - lo) ?_;rw[List.getElem?_take,if_pos (by omega),List.getElem?_drop,show lo+(j - lo)=j by omega];exact hj
theorem Zht {α:Type} {p:α->Bool} {j:Nat}:∀ {l:List α},(∀ q e,l[q]?=some e->p e=true->q < j)->(l.filter p).length≤j:=by
 intro l h
 have e1:l.filter p=(l.take j).filter p:=by
  conv=>lhs;rw[←List.take_append_drop j l]
  rw[List.filter_append]
  have:(l.drop j).filter p=[]:=by
   rw[List.filter_eq_nil_iff];intro a ha hp
   obtain⟨q,hq⟩:=List.getElem?_of_mem ha;rw[List.getElem?_drop] at hq;have:=h _ _ hq hp;omega
  rw[this,List.append_nil]
 rw[e1];refine Nat.le_trans (List.length_filter_le _ _) ?_
 simp;omega
theorem Zhu {α:Type} {p:α->Bool} {j:Nat} {l:List α} (hj:j≤l.length) (h:∀ q e,q < j->l[q]?=some e->p e=true):j≤(l.filter p).length:=by
 have e1:(l.take j).filter p=l.take j:=by
  rw[List.filter_eq_self];intro a ha
  obtain⟨q,hq⟩:=List.getElem?_of_mem ha;rw[List.getElem?_take] at hq
  split at hq
  ·exact h q a (by assumption) hq
  ·cases hq
 have e2:l.filter p=(l.take j).filter p++(l.drop j).filter p:=by
  conv=>lhs;rw[←List.take_append_drop j l]
  rw[List.filter_append]
 rw[e2,e1,List.length_append,List.length_take];omega
mutual
theorem ZdP {D:Nm}:∀ {x y:EV} {u:Value},ZeR x y=true->VR D x u->VR D y u
 | x,y,u,h,hx=>by
  cases x<;>cases y<;>simp only[ZeR,Bool.false_eq_true,Bool.and_eq_true] at h
  case b.b=>
   have:=eq_of_beq h;subst this;exact hx
  case i.i=>
   obtain⟨h1,h2⟩:=h;have:=IntKind.eqb_eq h1;subst this;rw[Z7x,decide_eq_true_eq] at h2;subst h2;exact hx
  case s.s=>
   rw[Z8I,decide_eq_true_eq] at h;subst h;exact hx
  case pn.pn=>exact hx
  case p.p=>
   obtain⟨h1,h2⟩:=h;have:=Nat.eq_of_beq_eq_true h1;subst this;have:=Nat.eq_of_beq_eq_true h2;subst this;exact hx
  case g.g=>
   obtain⟨h1,h2⟩:=h;have:=Nat.eq_of_beq_eq_true h1;subst this;have:=Nat.eq_of_beq_eq_true h2;subst this;exact hx
  case sn.sn=>exact hx
  case sl.sl=>
   obtain⟨h1,h2,h3,h4⟩:=h;have:=Nat.eq_of_beq_eq_true h1;subst this;have:=Nat.eq_of_beq_eq_true h2;subst this;have:=Nat.eq_of_beq_eq_true h3;subst this;have:=Nat.eq_of_beq_eq_true h4;subst this;exact hx
  case sx.sx=>
   obtain⟨h1,h2,h3,h4⟩:=h;have:=Nat.eq_of_beq_eq_true h1;subst this;have:=Nat.eq_of_beq_eq_true h2;subst this;have:=Nat.eq_of_beq_eq_true h3;subst this;have:=Nat.eq_of_beq_eq_true h4;subst this;exact hx
  case gs.gs=>
   obtain⟨h1,h2,h3,h4⟩:=h;have:=Nat.eq_of_beq_eq_true h1;subst this;have:=Nat.eq_of_beq_eq_true h2;subst this;have:=Nat.eq_of_beq_eq_true h3;subst this;have:=Nat.eq_of_beq_eq_true h4;subst this;exact hx
  case mn.mn=>exact hx
  case m.m=>have:=Nat.eq_of_beq_eq_true h;subst this;exact hx
  case f.f=>
   obtain⟨h1,h2,h3⟩:=h;have:=Nat.eq_of_beq_eq_true h1;subst this;simp only[VR] at hx ⊢;obtain⟨vs,ws,g1,g2,g3⟩:=hx
   exact⟨vs,ws,Z2W h2 g1,Z2W h3 g2,g3⟩
  case y.y=>have:=Nat.eq_of_beq_eq_true h;subst this;exact hx
  case fn.fn=>exact hx
  case ni.ni=>exact hx
  case t.t=>
   simp only[VR] at hx ⊢;obtain⟨vs,g1,g2⟩:=hx
   exact⟨vs,Z2W h g1,g2⟩
  case a.a=>
   simp only[VR] at hx ⊢;obtain⟨vs,g1,g2⟩:=hx
   exact⟨vs,Z2W h g1,g2⟩
theorem Z2W {D:Nm}:∀ {x y:List EV} {us:List Value},Z4b x y=true->VRs D x us->VRs D y us
 | [],[],us,h,hx=>hx
 | [],_::_,us,h,hx=>by simp[Z4b] at h
 | _::_,[],us,h,hx=>by simp[Z4b] at h
 | x::l,y::m,us,h,hx=>by
  simp only[Z4b,Bool.and_eq_true] at h;obtain⟨u,us,g1,g2,rfl⟩:=hx.uncons;exact .cons (ZdP h.1 g1) (Z2W h.2 g2)
end
def Znf (dst:Option Nat) (fr:Tri EV) (v:EV) (fr':Tri EV):Prop:=(dst=none->fr'=fr)∧∀ d,dst=some d->∀ t w,fr'.get t=some w->(t=d∧w=v)∨(t≠d∧fr.get t=some w)
def NewR (m m':Me) (l:List EV) (T:Nat):Prop:=m'.n=m.n+1∧(∀ id e,m'.t.get id=some e->id=m.n∨m.t.get id=some e)
def Grow (m m':Me):Prop:=m.n≤m'.n∧∀ id e,id < m.n->m'.t.get id=some e->m.t.get id=some e
theorem Grow.refl (m:Me):Grow m m:=⟨Nat.le_refl _,fun _ _ _ h=>h⟩
theorem Grow.trans {a b c:Me} (h:Grow a b) (k:Grow b c):Grow a c:=⟨Nat.le_trans h.1 k.1,fun id e hi he=>h.2 id e hi (k.2 id e (Nat.lt_of_lt_of_le hi h.1) he)⟩
theorem NewR.grow {m m':Me} {l:List EV} {T:Nat} (h:NewR m m' l T):Grow m m':=⟨by rw[h.1];omega,fun id e hi he=>by
 rcases h.2 id e he with h1 | h1
 ·omega
 ·exact h1⟩
theorem Zjm {m:Me} {l:List EV} {T:Nat} {R:Type} {K:Nat->Me->Option R} {r:R} (h:ZgN m l T K=some r):∃ m',K m.n m'=some r∧NewR m m' l T:=by
 unfold ZgN at h;obtain⟨cs,h1,h2⟩:=Tri.puts_ok l (.nil:Tri EV) 0;rw[h1] at h;obtain⟨t',h3,h4⟩:=Z7B h;exact⟨_,h4,rfl,fun id e hi=>(h3 id e hi).imp (fun q=>q.1) fun q=>q.2⟩
theorem MS.grow {Y:RK} {D:Nm} {m m':Me} {I:GH} {M:List Blk} (h:MS Y D m I M) (hg:Grow m m'):MS Y D m' I M where
 ent id e a h1 h2:=h.ent id e a (hg.2 id e (h.dom _ _ h2) h1) h2
 inj id id' e e' a a' h1 h1' h2 h2' hb:=h.inj id id' e e' a a' (hg.2 id e (h.dom _ _ h2) h1) (hg.2 id' e' (h.dom _ _ h2') h1') h2 h2' hb
 dom id a h2:=Nat.lt_of_lt_of_le (h.dom _ _ h2) hg.1
 glo:=h.glo
inductive Trc (X:Ctx) (G:GT) (pr:PR) (ops:List Oper):List (Nat×Nat)->Tri EV->Me->List (Nat×EV)->Tri EV->Me->List Me->List Hold->Prop
 | nil {fr m}:Trc X G pr ops [] fr m [] fr m [m] []
 | q {i o rest fr m v fr' vs frE mE S A} (ho:ops[i]?=some o) (hk:Z2x X.E o.op=0) (hw:Z7u ops o fr=some true) (hv:E_q X.P X.E G m.t o.op fr=some v) (hp:Znf o.dst fr v fr') (t:Trc X G pr ops rest fr' m vs frE mE S A) :
   Trc X G pr ops ((i,0)::rest) fr m ((i,v)::vs) frE mE S (bif Z2A o.op then .load i o fr v::A else A)
 | a {i o d rest fr m m' l T c mk fr' vs frE mE S A} (ho:ops[i]?=some o) (hk:Z2x X.E o.op=1) (hw:Z7u ops o fr=some true) (hd:o.dst=some d) (hv:E_a X.E o fr=some (l,T,c,mk)) (hn:NewR m m' l T) (hp:Znf o.dst fr (mk m.n) fr') (t:Trc X G pr ops rest fr' m' vs frE mE S A) :
   Trc X G pr ops ((i,1)::rest) fr m ((i,mk m.n)::vs) frE mE S (.made i m.n l T::A)
 | e {i o rest fr m m' v fr' vs frE mE S A} (ho:ops[i]?=some o) (hk:Z2x X.E o.op=2) (hw:Z7u ops o fr=some true) (hc:ZdN X G pr o fr m v m') (hp:Znf o.dst fr v fr') (t:Trc X G pr ops rest fr' m' vs frE mE S A) :
   Trc X G pr ops ((i,2)::rest) fr m ((i,v)::vs) frE mE (m::S) A
 | skip {i k o rest fr m fr' vs frE mE S A} (ho:ops[i]?=some o) (hk:Z2x X.E o.op=k) (hw:Z7u ops o fr=some false) (hp:Znf o.dst fr (.t []) fr') (t:Trc X G pr ops rest fr' m vs frE mE S A) :
   Trc X G pr ops ((i,k)::rest) fr m ((i,.t [])::vs) frE mE (bif Nat.beq k 2 then m::S else S) A
section
variable {X:Ctx} {G:GT} {pr:PR} {ops:List Oper}
theorem Z7F (hE:EOK X.P X.E) (hesc:∀ d,d < X.n->X.esc.contains d=true) (hdn:∀ o∈ops,∀ d,o.dst=some d->d < X.n) {call:EV->List EV->Me->Option (EV×Me)} (hcall:ZaX (RX X G pr) call):∀ (row:List (Nat×Nat)) {fr:Tri EV} {m:Me} {S0:List Me} {A0:List Hold} {frE:Tri EV} {mE:Me} {S':List Me} {A':List Hold},
  Z20 (RX X G pr) call ops row fr m S0 A0=some (frE,mE,S',A')->∃ vs S A,Trc X G pr ops row fr m vs frE mE S A∧S'=S.reverse++S0∧(∀ h∈A,h∈A')∧∀ h∈A0,h∈A'
 | [],fr,m,S0,A0,frE,mE,S',A',h=>by
  simp only[Z20,Option.some.injEq,Prod.mk.injEq] at h;obtain⟨rfl,rfl,rfl,rfl⟩:=h;exact⟨[],[m],[],.nil,by simp,by simp,fun _ h=>h⟩
 |(i,k)::rest,fr,m,S0,A0,frE,mE,S',A',h=>by
  simp only[Z20] at h;obtain⟨o,ho,h⟩:=Z07 h;obtain⟨w,hw,h⟩:=Z07 h;obtain⟨hk,h⟩:=Z0b h;rw[Z3z] at ho;have hk':Z2x X.E o.op=k:=Nat.eq_of_beq_eq_true hk;have hd0:=hdn o (List.mem_of_getElem? ho)
  cases w with
  | false=>
   have h2:Z7t o fr (fun fr=>Z20 (RX X G pr) call ops rest fr m (cnd (Nat.beq k 2) (m::S0) S0) A0)=some (frE,mE,S',A'):=h;obtain⟨fr1,h3,g1,g2⟩:=Zhs h2;obtain⟨vs,S,A,ht,hS,hA,hA0⟩:=Z7F hE hesc hdn hcall rest h3;refine⟨_,_,_,.skip ho hk' hw ⟨g1,g2⟩ ht,?_,hA,hA0⟩;rw[hS]
   cases Nat.beq k 2<;>simp[cnd]
  | true=>
   have h1:cnd (Nat.beq k 0) (opn (E_q X.P X.E G m.t o.op fr) none fun v=>ZbI o.dst fr v fun fr'=>Z20 (RX X G pr) call ops rest fr' m S0 (cnd (Z2A o.op) (.load i o fr v::A0) A0))
     (cnd (Nat.beq k 1) (opn o.dst none fun d=>opn (E_a X.E o fr) none fun r=>ZgN m r.1 r.2.1 fun id m=>ZbI (some d) fr (r.2.2.2 id) fun fr=>Z20 (RX X G pr) call ops rest fr m S0 (.made i id r.1 r.2.1::A0))
     (Zki (RX X G pr) call o fr m fun fr m'=>Z20 (RX X G pr) call ops rest fr m' (m::S0) A0))=some (frE,mE,S',A'):=h
   by_cases k0:k=0
   ·subst k0
    have h2:(opn (E_q X.P X.E G m.t o.op fr) none fun v=>ZbI o.dst fr v fun fr'=>Z20 (RX X G pr) call ops rest fr' m S0 (cnd (Z2A o.op) (.load i o fr v::A0) A0))=some (frE,mE,S',A'):=h1;obtain⟨v,hv,h2⟩:=Z07 h2;obtain⟨fr1,h3,g1,g2⟩:=Zcp h2;obtain⟨vs,S,A,ht,hS,hA,hA0⟩:=Z7F hE hesc hdn hcall rest h3;refine⟨_,_,_,.q ho hk' hw hv ⟨g1,g2⟩ ht,hS,fun y hy=>?_,fun y hy=>hA0 y ?_⟩
    ·cases hl:Z2A o.op with
     | false=>rw[hl] at hy;exact hA y hy
     | true=>
      rw[hl] at hy
      rcases List.mem_cons.1 hy with rfl | hy
      ·refine hA0 _ ?_
       rw[hl];simp[cnd]
      ·exact hA y hy
    ·cases Z2A o.op with
     | false=>exact hy
     | true=>exact List.mem_cons_of_mem _ hy
   rw[Z0I k0] at h1
   by_cases k1:k=1
   ·subst k1
    have h2:(opn o.dst none fun d=>opn (E_a X.E o fr) none fun r=>ZgN m r.1 r.2.1 fun id m=>ZbI (some d) fr (r.2.2.2 id) fun fr=>Z20 (RX X G pr) call ops rest fr m S0 (.made i id r.1 r.2.1::A0))=some (frE,mE,S',A'):=h1;obtain⟨d,hd,h2⟩:=Z07 h2;obtain⟨⟨l,T,c,mk⟩,ha,h2⟩:=Z07 h2;obtain⟨m2,h3,hn⟩:=Zjm h2
    have h3':ZbI o.dst fr (mk m.n) (fun fr=>Z20 (RX X G pr) call ops rest fr m2 S0 (.made i m.n l T::A0))=some (frE,mE,S',A'):=by rw[hd];exact h3
    obtain⟨fr1,h4,g1,g2⟩:=Zcp h3';obtain⟨vs,S,A,ht,hS,hA,hA0⟩:=Z7F hE hesc hdn hcall rest h4;refine⟨_,_,_,.a ho hk' hw hd ha hn ⟨g1,g2⟩ ht,hS,fun y hy=>?_,fun y hy=>hA0 y (List.mem_cons_of_mem _ hy)⟩
    rcases List.mem_cons.1 hy with rfl | hy
    ·exact hA0 _ (by simp)
    ·exact hA y hy
   ·rw[Z0I k1] at h1
    have h2:Zki (RX X G pr) call o fr m (fun fr m'=>Z20 (RX X G pr) call ops rest fr m' (m::S0) A0)=some (frE,mE,S',A'):=h1;obtain⟨v,m1,fr1,hcore,-,h3,g1,g2⟩:=Zhr hE hesc hd0 hcall h2;obtain⟨vs,S,A,ht,hS,hA,hA0⟩:=Z7F hE hesc hdn hcall rest h3
    have hk2:k=2:=by
     have:Z2x X.E o.op≤2:=by
      unfold Z2x
      split<;>first | omega | (split<;>first | omega | (split<;>omega))
     rw[hk'] at this;omega
    subst hk2;exact⟨_,_,_,.e ho hk' hw hcore ⟨g1,g2⟩ ht,by rw[hS];simp,hA,hA0⟩
theorem Trc.head {row:List (Nat×Nat)} {fr frE:Tri EV} {m mE:Me} {vs:List (Nat×EV)} {S:List Me} {A:List Hold} (h:Trc X G pr ops row fr m vs frE mE S A):∃ m2 S',S=m2::S'∧Grow m m2:=by
 induction h with
 | nil=>exact⟨_,_,rfl,.refl _⟩
 | q _ _ _ _ _ _ ih=>exact ih
 | a _ _ _ _ _ hn _ _ ih=>
  obtain⟨m2,S',h1,h2⟩:=ih;exact⟨m2,S',h1,hn.grow.trans h2⟩
 | e _ _ _ _ _ _ _=>exact⟨_,_,rfl,.refl _⟩
 | @skip i k o rest fr m fr' vs frE mE S A _ _ _ _ _ ih=>
  cases hk:Nat.beq k 2 with
  | true=>exact⟨_,_,rfl,.refl _⟩
  | false=>simpa using ih
theorem Trc.made_ge {row:List (Nat×Nat)} {fr frE:Tri EV} {m mE:Me} {vs:List (Nat×EV)} {S:List Me} {A:List Hold} (h:Trc X G pr ops row fr m vs frE mE S A):m.n≤mE.n∧∀ i c l T,.made i c l T∈A->m.n≤c∧i∈row.map (·.1):=by
 induction h with
 | nil=>exact⟨Nat.le_refl _,fun _ _ _ _ h=>by cases h⟩
 | @q i o rest fr m v fr' vs frE mE S A _ _ _ _ _ _ ih=>
  refine⟨ih.1,fun i' c l T hm=>?_⟩
  have hm':.made i' c l T∈A:=by
   cases hl:Z2A o.op with
   | false=>rw[hl] at hm;exact hm
   | true=>
    rw[hl] at hm
    rcases List.mem_cons.1 hm with e | hm
    ·cases e
    ·exact hm
  exact⟨(ih.2 i' c l T hm').1,List.mem_cons_of_mem _ (ih.2 i' c l T hm').2⟩
 | a _ _ _ _ _ hn _ _ ih=>
  refine⟨Nat.le_trans hn.grow.1 ih.1,fun i' c l T hm=>?_⟩
  rcases List.mem_cons.1 hm with e | hm
  ·cases e
   exact⟨Nat.le_refl _,by simp⟩
  ·exact⟨Nat.le_trans hn.grow.1 (ih.2 i' c l T hm).1,List.mem_cons_of_mem _ (ih.2 i' c l T hm).2⟩
 | e _ _ _ hc _ _ ih=>exact⟨Nat.le_trans hc.1 ih.1,fun i' c l T hm=>⟨Nat.le_trans hc.1 (ih.2 i' c l T hm).1,List.mem_cons_of_mem _ (ih.2 i' c l T hm).2⟩⟩
 | skip _ _ _ _ _ ih=>exact⟨ih.1,fun i' c l T hm=>⟨(ih.2 i' c l T hm).1,List.mem_cons_of_mem _ (ih.2 i' c l T hm).2⟩⟩
theorem Trc.split:∀ (pre:List (Nat×Nat)) {rest:List (Nat×Nat)} {fr frE:Tri EV} {m mE:Me} {vs:List (Nat×EV)} {S:List Me} {A:List Hold},Trc X G pr ops (pre++rest) fr m vs frE mE S A ->
  ∃ vs1 vs2 fr1 m1 S1 S2 A2,vs=vs1++vs2∧vs1.map (·.1)=pre.map (·.1)∧S=S1++S2∧S1.length=(pre.filter fun r=>Nat.beq r.2 2).length∧Trc X G pr ops rest fr1 m1 vs2 frE mE S2 A2∧(∀ h∈A2,h∈A)∧m.n≤m1.n ∧
   (∀ t w,fr1.get t=some w->(∃ i,(i,w)∈vs1∧Z1J ops i=some t)∨((∀ i∈pre.map (·.1),Z1J ops i≠some t)∧fr.get t=some w)) ∧
   (∀ i c l T,.made i c l T∈A->.made i c l T∈A2∨c < m1.n)
 | [],rest,fr,frE,m,mE,vs,S,A,h=>⟨[],vs,fr,m,[],S,A,rfl,rfl,rfl,rfl,h,fun _ h=>h,Nat.le_refl _,fun t w hw=>.inr ⟨by simp,hw⟩,fun _ _ _ _ h=>.inl h⟩
 |(i,k)::pre,rest,fr,frE,m,mE,vs,S,A,h=>by
  have fin:∀ {o:Oper} {fr':Tri EV} {m':Me} {v:EV} {vs':List (Nat×EV)} {S' S:List Me} {A' A:List Hold},ops[i]?=some o->Znf o.dst fr v fr'->m.n≤m'.n->Trc X G pr ops (pre++rest) fr' m' vs' frE mE S' A' ->
    (S=if Nat.beq k 2 then m::S' else S')->(∀ h∈A',h∈A)->(∀ i c l T,.made i c l T∈A->.made i c l T∈A'∨c < m'.n) ->
    ∃ vs1 vs2 fr1 m1 S1 S2 A2,(i,v)::vs'=vs1++vs2∧vs1.map (·.1)=((i,k)::pre).map (·.1)∧S=S1++S2∧S1.length=(((i,k)::pre).filter fun r=>Nat.beq r.2 2).length∧Trc X G pr ops rest fr1 m1 vs2 frE mE S2 A2∧(∀ h∈A2,h∈A)∧m.n≤m1.n ∧
     (∀ t w,fr1.get t=some w->(∃ i,(i,w)∈vs1∧Z1J ops i=some t)∨((∀ i'∈((i,k)::pre).map (·.1),Z1J ops i'≠some t)∧fr.get t=some w)) ∧
     (∀ i c l T,.made i c l T∈A->.made i c l T∈A2∨c < m1.n):=by
   intro o fr' m' v vs' S' S A' A ho hp hmn ht hS hA hA2;obtain⟨vs1,vs2,fr1,m1,S1,S2,A2,e1,e2,e3,e4,e5,e6,e7,e8,e9⟩:=Trc.split pre ht;refine⟨(i,v)::vs1,vs2,fr1,m1,(if Nat.beq k 2 then m::S1 else S1),S2,A2,by rw[e1];rfl,by simp[e2],?_,?_,e5,fun h hh=>hA h (e6 h hh),Nat.le_trans hmn e7,fun t w hw=>?_,fun i c l T hm=>?_⟩
   ·rw[hS,e3]
    split<;>simp
   ·simp only[List.filter_cons]
    split<;>simp[e4]
   ·rcases e8 t w hw with ⟨i',h1,h2⟩ | ⟨h1,h2⟩
    ·exact .inl ⟨i',List.mem_cons_of_mem _ h1,h2⟩
    ·have hdi:Z1J ops i=o.dst:=by simp[Z1J,ho]
     cases hd:o.dst with
     | none=>
      rw[hp.1 hd] at h2;refine .inr ⟨fun i' hi'=>?_,h2⟩
      rcases List.mem_cons.1 hi' with e | hi'
      ·rw[show i'=i from e,hdi,hd];simp
      ·exact h1 i' hi'
     | some d=>
      rcases hp.2 d hd t w h2 with ⟨rfl,rfl⟩ | ⟨hne,h3⟩
      ·exact .inl ⟨i,by simp,by rw[hdi,hd]⟩
      ·refine .inr ⟨fun i' hi'=>?_,h3⟩
       rcases List.mem_cons.1 hi' with e | hi'
       ·rw[show i'=i from e,hdi,hd]
        exact fun e=>hne (by cases e;rfl)
       ·exact h1 i' hi'
   ·rcases hA2 i c l T hm with h1 | h1
    ·exact e9 i c l T h1
    ·exact .inr (Nat.lt_of_lt_of_le h1 e7)
  cases h with
  | q ho hk hw hv hp t=>
   rename_i o v fr' vs' A'
   refine fin ho hp (Nat.le_refl _) t (by simp) (fun h hh=>?_) fun i c l T hm=>?_
   ·cases Z2A o.op with
    | false=>exact hh
    | true=>exact List.mem_cons_of_mem _ hh
   ·cases hl:Z2A o.op with
    | false=>rw[hl] at hm;exact .inl hm
    | true=>
     rw[hl] at hm
     rcases List.mem_cons.1 hm with e | hm
     ·cases e
     ·exact .inl hm
  | a ho hk hw hd hv hn hp t=>
   refine fin ho hp hn.grow.1 t (by simp) (fun h hh=>List.mem_cons_of_mem _ hh) fun i c l T hm=>?_
   rcases List.mem_cons.1 hm with e | hm
   ·cases e
    exact .inr (by rw[hn.1];omega)
   ·exact .inl hm
  | e ho hk hw hc hp t=>exact fin ho hp hc.1 t (by simp) (fun _ h=>h) fun _ _ _ _ h=>.inl h
  | skip ho hk hw hp t=>exact fin ho hp (Nat.le_refl _) t (by cases Nat.beq k 2<;>rfl) (fun _ h=>h) fun _ _ _ _ h=>.inl h
end
section
variable {ops:List Oper}
theorem ZlL {i k:Nat} {o:Oper} (ho:ops[i]?=some o) (h:dOk o k=true):∀ e,Dep ops i e->k.testBit e=true:=by
 rintro e ⟨o',ed,ho',hed,hb,rfl⟩;rw[ho] at ho'
 cases ho';have:=List.all_eq_true.1 h ed (by simpa using hed);rw[hb] at this
 simpa using this
theorem Z3V:∀ {row:List (Nat×Nat)} {k:Nat},Z4a ops row k=true->∀ (pre:List (Nat×Nat)) (i c:Nat) (post:List (Nat×Nat)),row=pre++(i,c)::post ->
  (∃ o,ops[i]?=some o)∧k.testBit i=false∧i ∉ pre.map (·.1)∧∀ e,Dep ops i e->k.testBit e=true∨e∈pre.map (·.1)
 | [],k,h,pre,i,c,post,e=>by simp at e
 |(i0,c0)::row,k,h,pre,i,c,post,e=>by
  simp only[Z4a,Bool.and_eq_true,Bool.not_eq_true'] at h;obtain⟨h1,h2⟩:=h
  split at h2
  ·rename_i o ho
   rw[Bool.and_eq_true] at h2
   cases pre with
   | nil=>
    simp only[List.nil_append,List.cons.injEq,Prod.mk.injEq] at e;obtain⟨⟨rfl,rfl⟩,rfl⟩:=e;exact⟨⟨o,ho⟩,h1,by simp,fun e he=>.inl (ZlL ho h2.1 e he)⟩
   | cons p pre=>
    simp only[List.cons_append,List.cons.injEq] at e;obtain⟨e1,e2⟩:=e;obtain⟨g1,g2,g3,g4⟩:=Z3V h2.2 pre i c post e2
    have hb:∀ x,(k ||| 2 ^ i0).testBit x=(k.testBit x || decide (x=i0)):=fun x=>by
     rw[Nat.testBit_or,Nat.testBit_two_pow]
     congr 1
     exact decide_eq_decide.2 eq_comm
    rw[hb,Bool.or_eq_false_iff] at g2;refine⟨g1,g2.1,?_,fun e he=>?_⟩
    ·rw[←e1]
     simp only[List.map_cons,List.mem_cons,not_or];exact⟨by simpa using g2.2,g3⟩
    ·rcases g4 e he with h | h
     ·rw[hb,Bool.or_eq_true] at h
      rcases h with h | h
      ·exact .inl h
      ·exact .inr (by rw[←e1];simp at h;simp[h])
     ·exact .inr (by rw[List.map_cons];exact List.mem_cons_of_mem _ h)
  ·cases h2
theorem Z9J:∀ {row:List (Nat×Nat)} {k:Nat},Z4a ops row k=true->∀ i,i < ops.length->k.testBit i=true∨i∈row.map (·.1)
 | [],k,h,i,hi=>by
  simp only[Z4a] at h;have:=Nat.eq_of_beq_eq_true h;subst this
  left
  rw[Nat.testBit_two_pow_sub_one]
  simpa using hi
 |(i0,c0)::row,k,h,i,hi=>by
  simp only[Z4a,Bool.and_eq_true,Bool.not_eq_true'] at h;obtain⟨h1,h2⟩:=h
  split at h2
  ·rw[Bool.and_eq_true] at h2
   rcases Z9J h2.2 i hi with h | h
   ·rw[Nat.testBit_or,Nat.testBit_two_pow,Bool.or_eq_true] at h
    rcases h with h | h
    ·exact .inl h
    ·have:i0=i:=by simpa using h
     exact .inr (by simp[this])
   ·exact .inr (by rw[List.map_cons];exact List.mem_cons_of_mem _ h)
  ·cases h2
theorem Zf3 {row:List (Nat×Nat)} (h:Z4a ops row 0=true):(row.map (·.1)).Nodup:=by
 have key:∀ {row:List (Nat×Nat)} {k:Nat},Z4a ops row k=true->(row.map (·.1)).Nodup:=by
  intro row
  induction row with
  | nil=>intro k _;exact List.nodup_nil
  | cons r row ih=>
   intro k h;obtain⟨i0,c0⟩:=r;have h':=h;simp only[Z4a,Bool.and_eq_true,Bool.not_eq_true'] at h;obtain⟨h1,h2⟩:=h
   split at h2
   ·rw[Bool.and_eq_true] at h2
    rw[List.map_cons,List.nodup_cons];refine⟨fun hm=>?_,ih h2.2⟩
    obtain⟨⟨x,c⟩,hx,hxe⟩:=List.mem_map.1 hm;obtain⟨pre,post,e⟩:=List.append_of_mem hx;have hxe':x=i0:=hxe;subst hxe';have:=(Z3V h' ((x,c0)::pre) x c post (by rw[e];rfl)).2.2.1;exact this (by simp)
   ·cases h2
 exact key h
theorem Zhv {α β:Type}:∀ {l:List (α×β)},(l.map (·.1)).Nodup->∀ {k:α} {a b:β},(k,a)∈l->(k,b)∈l->a=b
 | [],_,k,a,b,h,_=>by cases h
 |(k0,c)::l,hn,k,a,b,h,h'=>by
  rw[List.map_cons,List.nodup_cons] at hn
  rcases List.mem_cons.1 h with e | h
  ·cases e
   rcases List.mem_cons.1 h' with e' | h'
   ·cases e';rfl
   ·exact(hn.1 (List.mem_map.2 ⟨_,h',rfl⟩)).elim
  ·rcases List.mem_cons.1 h' with e' | h'
   ·cases e'
    exact(hn.1 (List.mem_map.2 ⟨_,h,rfl⟩)).elim
   ·exact Zhv hn.2 h h'
end
section
variable {X:Ctx} {G:GT} {pr:PR} {D0:Nm} {n0:Nat} {a:Act} {w:World}
theorem Z4V {ops:List Oper} {o:Oper} {b:Bool} {D:Nm} {F:Fr} {β:Nat->Nat} {fr:Tri EV} (h:Z7u ops o fr=some b) (hF:∀ t,Z1R β (F t) (a.tmps.getD t undef)) (H:∀ t∈looks ops o,∀ v,fr.get t=some v->SvE D (F t) v) :
  Region.wanted o (yielded ops.toArray a.tmps)=b:=by
 unfold Z7u at h
 split at h
 ·rename_i hg
  cases h;simp[Region.wanted,hg]
 ·rename_i j c hg
  split at h
  ·cases h
  ·rename_i d hj
   have hj':(ops[j]?).bind (·.dst)=some d:=by
    rw[Z3z] at hj
    simpa using hj
   have hjA:(ops.toArray[j]?).bind (·.dst)=some d:=by simpa using hj'
   have hy:=Z2P hjA a.tmps;have hlk:d∈looks ops o:=Z4f hg hj'
   split at h
   ·rename_i q hq
    cases h;have hs:=H _ hlk _ hq
    have hv:a.tmps.getD d undef=.bool q:=by
     have h1:=hF d
     rcases hs with ⟨u,e,hu⟩ | ⟨q',e',e⟩
     ·rw[e] at h1
      rw[h1,hu.bool]
     ·cases e'
      rw[e] at h1;exact h1
    simp[Region.wanted,hg,hy,Z2O hv]
   ·rename_i l hq
    cases h;have hs:=H _ hlk _ hq;obtain⟨u,e,hu⟩:=hs.nb (by simp);obtain⟨vs,_,rfl⟩:=hu.tup
    have h1:=hF d;rw[e] at h1
    have hnone:yielded ops.toArray a.tmps j=none:=by
     rw[hy]
     cases hg':a.tmps[d]? with
     | none=>rfl
     | some v=>
      simp only[Z1R,Array.getD_eq_getD_getElem?,hg',Option.getD_some] at h1;subst h1;rfl
    simp[Region.wanted,hg,hnone]
   ·cases h
theorem Zjn {ops:List Oper} {o:Oper} {D:Nm} {F:Fr} {fr:Tri EV} (H:∀ t∈looks ops o,∀ v,fr.get t=some v->SvE D (F t) v):OR D F fr o.op.operands.toList:=fun x hx v hv=>by
 cases x with
 | tmp t=>exact H t (Z30 (by simpa using hx)) v hv
 | const c=>exact(show FR D F .nil from fun t v h=>by cases h).op [.const c] (.const c) (by simp) v hv
 | global g=>exact(show FR D F .nil from fun t v h=>by cases h).op [.global g] (.global g) (by simp) v hv
 | func f=>exact(show FR D F .nil from fun t v h=>by cases h).op [.func f] (.func f) (by simp) v hv
theorem ZlM {m m2:Tri Ent} {op:Op} {fr:Tri EV} (h:Z2A op=false):E_q X.P X.E G m op fr=E_q X.P X.E G m2 op fr:=by
 cases op with
 | load=>simp[Z2A] at h
 | slice t x lo hi mx=>cases mx<;>rfl
 | call c=>
  obtain⟨callee,args,ts⟩:=c
  cases callee<;>rfl
 | _=>rfl
def DJ (X:Ctx) (G:GT) (pr:PR) (D0:Nm) (n0:Nat) (ops:List Oper) (es:List Nat) (fr:Tri EV) (vs:List (Nat×EV)) (S:List Me) (A:List Hold) (L:Nat->Prop) (a:Act) (w:World):Prop:=
 ∃ D F C I M j Sm,Rel X a w F C I M∧(∀ q e,es[q]?=some e->(L e ↔ q < j))∧j≤es.length∧S[j]?=some Sm∧MS (RX X G pr) D Sm I M∧(∀ i v t,L i->(i,v)∈vs->Z1J ops i=some t->SvE D (F t) v) ∧
  (∀ t v,(∀ i,L i->Z1J ops i≠some t)->fr.get t=some v->SvE D (F t) v)∧(∀ i c l T,Hold.made i c l T∈A->¬ L i->D c=none)∧D0.ext D n0
theorem DJ.fr {ops:List Oper} (hD:DC ops) {L:Nat->Prop} {q:Nat} {o:Oper} (hq:ops[q]?=some o) (hqL:¬ L q) {vs:List (Nat×EV)} (hvn:(vs.map (·.1)).Nodup) {v:EV} (hv:(q,v)∈vs) {D D':Nm} {F F':Fr} {fr:Tri EV} (hle:D.le D') (hp:PFv o.dst v D' F F')
  (hA:∀ i v t,L i->(i,v)∈vs->Z1J ops i=some t->SvE D (F t) v) (hB:∀ t v,(∀ i,L i->Z1J ops i≠some t)->fr.get t=some v->SvE D (F t) v) :
  (∀ i v t,(L i∨i=q)->(i,v)∈vs->Z1J ops i=some t->SvE D' (F' t) v)∧(∀ t v,(∀ i,(L i∨i=q)->Z1J ops i≠some t)->fr.get t=some v->SvE D' (F' t) v):=by
 have hdq:Z1J ops q=o.dst:=by simp[Z1J,hq]
 constructor
 ·rintro i u t (hi | rfl) hm hd
  ·have hne:o.dst≠some t:=fun e=>by
    obtain⟨oi,hoi,hdi⟩:=Z2R hd;exact hD.dd i q oi o t (fun e'=>hqL (e' ▸ hi)) hoi hq hdi e
   exact hp.2 D' t u hne ((hA i u t hi hm hd).mono hle)
  ·rw[Zhv hvn hm hv]
   rw[hdq] at hd;exact hp.1 t hd
 ·intro t u hno hg
  have hne:o.dst≠some t:=fun e=>hno q (.inr rfl) (by rw[hdq,e])
  exact hp.2 D' t u hne ((hB t u (fun i hi=>hno i (.inl hi)) hg).mono hle)
end
section
variable {X:Ctx} {G:GT} {pr:PR} {D0:Nm} {n0:Nat} {a:Act} {w:World}
theorem Z9K {bef:List Nat}:∀ {es:List Nat},Z9z bef es=true->∀ (p q:Nat) (x y:Nat),p < q->es[p]?=some x->es[q]?=some y->(bef.getD y 0).testBit x=true
 | [],_,p,q,x,y,_,hx,_=>by simp at hx
 | e::es,h,p,q,x,y,hpq,hx,hy=>by
  simp only[Z9z,Bool.and_eq_true] at h
  cases q with
  | zero=>omega
  | succ q=>
   have hy':es[q]?=some y:=by simpa using hy
   cases p with
   | zero=>
    simp at hx;subst hx;exact List.all_eq_true.1 h.1 y (List.mem_of_getElem? hy')
   | succ p=>exact Z9K h.2 p q x y (by omega) (by simpa using hx) hy'
theorem Zjo {E:Env} {ops:List Oper} {e:Nat}:e∈Z9y E ops ↔ e < ops.length∧Z4q E ops e=2:=by
 unfold Z9y;rw[List.mem_filter,List.mem_range]
 constructor
 ·rintro⟨h1,h2⟩;exact⟨h1,Nat.eq_of_beq_eq_true h2⟩
 ·rintro⟨h1,h2⟩;exact⟨h1,by rw[h2];rfl⟩
theorem ZaY {E:Env} {ops:List Oper} {i:Nat} {o:Oper} (h:ops[i]?=some o):Z4q E ops i=Z2x E o.op:=by
 unfold Z4q;rw[Z3z,h];rfl
theorem SvE.same {D:Nm} {x:SV} {u v:EV} (h:SvE D x u) (hs:ZeR u v=true):SvE D x v:=by
 rcases h with ⟨y,rfl,h⟩ | ⟨q,rfl,rfl⟩
 ·exact .val (ZdP hs h)
 ·have:v=.b q:=by
   cases v<;>simp only[ZeR,Bool.false_eq_true] at hs
   rw[eq_of_beq hs]
  exact .inr ⟨q,this,rfl⟩
theorem Zf4 (hE:EOK X.P X.E) (hesc:∀ d,d < X.n->X.esc.contains d=true) {call:EV->List EV->Me->Option (EV×Me)} (hcall:ZaX (RX X G pr) call) {id:Nat} {AA:Array Oper} (hmx:X.P.follows .mixedOrders=true) (hn:Za0 X.n AA=true)
  {fr frE:Tri EV} {m mE:Me} (h:Zcg (RX X G pr) call AA.toList fr m=some (frE,mE)) {Q:Exit->Act->World->Prop} (hQ:∀ a w,St X G pr D0 n0 frE mE a w->Q .normal a w) (hs:St X G pr D0 n0 fr m a w) :
  (Code.region id AA true).wpIn (fen X) 0 X.P Q a w:=by
 refine wpIn_region_any hmx ?_;generalize hops:AA.toList=ops at h
 have hAA:AA=ops.toArray:=by apply Array.ext';simpa using hops
 subst hAA
 have hdn:∀ o∈ops,∀ d,o.dst=some d->d < X.n:=by simpa using Z3L hn
 unfold Zcg at h;obtain⟨hrc,h⟩:=Z0b h;unfold Zkk at hrc;simp only[Bool.and_eq_true] at hrc;obtain⟨hchk,hperm,hchain,hrow⟩:=hrc;have hD:DC ops:=Za1 hchk
 have hrow':((Zn2 X.E ops).filter fun r=>Nat.beq r.2 2).map (·.1)=Z9y X.E ops:=by simpa using hrow
 clear hrow;generalize hes:Z9y X.E ops=es at *
 have hesm:∀ e,e∈es ↔ e < ops.length∧Z4q X.E ops e=2:=fun e=>by rw[←hes];exact Zjo
 generalize hrw:Zn2 X.E ops=row at *
 cases hdr:Z20 (RX X G pr) call ops row fr m [] [] with
 | none=>rw[hdr] at h;cases h
 | some res=>
 obtain⟨frE',mE',S',A'⟩:=res;rw[hdr] at h;have h':cnd (A'.all (Zlp (RX X G pr) es (Z9W ops) S'.reverse)) (some (frE',mE')) none=some (frE,mE):=h;clear h;obtain⟨hhold,h'⟩:=Z0b h';cases h';obtain⟨vs,S,A,htr,hS',hA',-⟩:=Z7F hE hesc hdn hcall row hdr;rw[List.append_nil] at hS';subst hS';rw[List.reverse_reverse] at hhold
 have hholdA:∀ y∈A,Zlp (RX X G pr) es (Z9W ops) S y=true:=fun y hy=>List.all_eq_true.1 hhold y (hA' y hy)
 have hrn:(row.map (·.1)).Nodup:=Zf3 hperm;obtain⟨vsW,vsR,frW,mW,SW,SR,AR,w1,w2,w3,w4,w5,w6,w7,w8,w9⟩:=Trc.split row (rest:=[]) (by rw[List.append_nil];exact htr)
 have hlenE:(row.filter fun r=>Nat.beq r.2 2).length=es.length:=by rw[←hrow',List.length_map]
 cases w5;rw[List.append_nil] at w1;subst w1
 have hvn:(vs.map (·.1)).Nodup:=by rw[w2];exact hrn
 have hmade:=htr.made_ge
 have preClosed:∀ (pre:List (Nat×Nat)) (rest:List (Nat×Nat)),row=pre++rest->Z6L ops (fun i=>i∈pre.map (·.1)):=fun pre rest hpr j e hj he=>by
  obtain⟨⟨x,c⟩,hx,hxe⟩:=List.mem_map.1 hj;have hxe':x=j:=hxe;subst hxe';obtain⟨p1,p2,e1⟩:=List.append_of_mem hx
  rcases(Z3V hperm p1 x c (p2++rest) (by rw[hpr,e1];simp)).2.2.2 e he with h | h
  ·simp at h
  ·show e∈pre.map (·.1)
   rw[e1,List.map_append];exact List.mem_append.2 (.inl h)
 let J:=DJ X G pr D0 n0 ops es fr vs S A
 have key:=ZlK (X:=X) (ops:=ops) (Q:=Q) hD.lt J ?step ?fin ops.length (Array.replicate ops.length false) a { w with drawn:=w.drawn+1 } (by simp) (by unfold todo;exact Nat.le_trans (List.length_filter_le _ _) (by simp)) ?cl ?start
 case cl=>
  intro j e hj
  exfalso
  by_cases hi:j < ops.length<;>simp[Array.getD_eq_getD_getElem?,hi] at hj
 case start=>
  obtain⟨D,F,C,I,M,⟨β,hR⟩,hF,hms,hx,hn0⟩:=hs;obtain⟨m2,S2,hS2,hg⟩:=htr.head
  have hL:∀ i,¬ (Array.replicate ops.length false).getD i false=true:=fun i=>by
   by_cases hi:i < ops.length<;>simp[Array.getD_eq_getD_getElem?,hi]
  refine⟨D,F,C,I,M,0,m2,⟨β,hR.world rfl⟩,fun q e _=>⟨fun h=>(hL e h).elim,fun h=>by omega⟩,Nat.zero_le _,by rw[hS2];rfl,hms.grow hg,fun i v t hi=>(hL i hi).elim,fun t v _ hg=>hF t v hg,fun i c l T hmd _=>?_,hx⟩;have:=(hmade.2 i c l T hmd).1
  cases hDc:D c with
  | none=>rfl
  | some b=>have:=hms.dom _ _ hDc;omega
 case fin=>
  rintro a w ⟨D,F,C,I,M,j,Sm,hR,hes',hj,hSj,hms,hA1,hB1,hN,hx⟩
  have hjl:j=es.length:=by
   refine Nat.le_antisymm hj ?_
   by_cases h0:es.length=0
   ·omega
   ·have hlt:es.length - 1 < es.length:=by omega
    have h1:=(hes' (es.length - 1) es[es.length - 1] (List.getElem?_eq_getElem hlt)).1 ((hesm _).1 (List.getElem_mem hlt)).1;omega
  have hSmE:Sm=mE:=by
   rw[hjl,w3,List.getElem?_append_right (by omega),w4,hlenE] at hSj
   simpa using hSj.symm
  subst hSmE;refine hQ a w ⟨D,F,C,I,M,hR,fun t v hg=>?_,hms,hx,?_⟩
  ·rcases w8 t v hg with ⟨i,h1,h2⟩ | ⟨h1,h2⟩
   ·obtain⟨oi,hoi,_⟩:=Z2R h2
    exact hA1 i v t (List.getElem?_eq_some_iff.1 hoi).1 h1 h2
   ·refine hB1 t v (fun i hi=>?_) h2
    rcases Z9J hperm i hi with h3 | h3
    ·simp at h3
    ·exact h1 i h3
  ·obtain⟨D',F',C',I',M',_,_,_,_,hn0⟩:=hs
   exact Nat.le_trans hn0 w7
 case step=>
  rintro L a w q o ⟨D,F,C,I,M,j,Sm,⟨β,hR⟩,hes',hj,hSj,hms,hA1,hB1,hN,hx⟩ hcl hLl hq hqL hdeps;have hql:q < ops.length:=(List.getElem?_eq_some_iff.1 hq).1;have hdo:=hdn o (List.mem_of_getElem? hq);obtain⟨⟨q',k⟩,hqr,hqe⟩:=List.mem_map.1 ((Z9J hperm q hql).resolve_left (by simp))
  have hqe':q'=q:=hqe;subst hqe';obtain⟨pre,post,hsp⟩:=List.append_of_mem hqr;obtain⟨-,-,hqpre,hdpre⟩:=Z3V hperm pre q' k post hsp
  have hdpre':∀ e,Dep ops q' e->e∈pre.map (·.1):=fun e he=>(hdpre e he).resolve_left (by simp)
  have hpc:=preClosed pre ((q',k)::post) hsp;have htr':=htr;rw[hsp] at htr';obtain⟨vs1,vs2,fr1,m1,S1,S2,A2,e1,e2,e3,e4,e5,e6,e7,e8,e9⟩:=Trc.split pre htr';have hmade2:=e5.made_ge
  have H:∀ t∈looks ops o,∀ v,fr1.get t=some v->SvE D (F t) v:=fun t ht v hv=>by
   rcases e8 t v hv with ⟨i,h1,h2⟩ | ⟨h1,h2⟩
   ·obtain⟨oi,hoi,hdi⟩:=Z2R h2
    have hipre:i∈pre.map (·.1):=by rw[←e2];exact List.mem_map.2 ⟨_,h1,rfl⟩
    have hne:i≠q':=fun e=>hqpre (e ▸ hipre)
    rcases hD.ord i q' oi o t hne hoi hq hdi ht with hb | hb
    ·exact hA1 i v t (hb.mem hcl hdeps) (by rw[e1];exact List.mem_append.2 (.inl h1)) h2
    ·exact(hqpre (hb.mem hpc fun e he=>hpc i e hipre he)).elim
   ·refine hB1 t v (fun i hi hdt=>?_) h2
    obtain⟨oi,hoi,hdi⟩:=Z2R hdt
    have hne:i≠q':=fun e=>hqL (e ▸ hi)
    rcases hD.ord i q' oi o t hne hoi hq hdi ht with hb | hb
    ·exact h1 i (hb.mem hpc hdpre') hdt
    ·exact hqL (hb.mem hcl fun e he=>hcl i e hi he)
  have hO:OR D F fr1 o.op.operands.toList:=Zjn H
  have hlo:loL es (Z9W ops) q'≤j:=Zht fun p e hp hb=>by
   exact(hes' p e hp).1 ((Z1y hb).mem hcl hdeps)
  have hhi:j≤hiL es (Z9W ops) q':=Zhu hj fun p e hp hpe=>by
   cases hb:((Z9W ops).getD e 0).testBit q' with
   | false=>rfl
   | true=>
    have hLe:L e:=(hes' p e hpe).2 hp;exact(hqL ((Z1y hb).mem hcl fun d hd=>hcl e d hLe hd)).elim
  have esKeep:Z2x X.E o.op≠2->∀ p e,es[p]?=some e->((L e∨e=q') ↔ p < j):=fun hk p e hp=>by
   have hne:e≠q':=fun he=>hk (by
    have:=((hesm e).1 (List.mem_of_getElem? hp)).2;rw[he,ZaY hq] at this
    exact this)
   exact⟨fun hh=>(hes' p e hp).1 (hh.resolve_right hne),fun hh=>.inl ((hes' p e hp).2 hh)⟩
  have esNext:Z2x X.E o.op=2->es[j]?=some q'∧j+1≤es.length∧∀ p e,es[p]?=some e->((L e∨e=q') ↔ p < j+1):=fun hk=>by
   have hqe:q'∈es:=(hesm q').2 ⟨hql,by rw[ZaY hq];exact hk⟩;obtain⟨p0,hp0⟩:=List.getElem?_of_mem hqe
   have hp0l:=(List.getElem?_eq_some_iff.1 hp0).1
   have h1:¬ p0 < j:=fun hh=>hqL ((hes' p0 q' hp0).2 hh)
   have h2:¬ j < p0:=fun hh=>by
    have hjl:j < es.length:=by omega
    have hbit:=Z9K hchain j p0 es[j] q' hh (List.getElem?_eq_getElem hjl) hp0;have:=(hes' j es[j] (List.getElem?_eq_getElem hjl)).1 ((Z1y hbit).mem hcl hdeps);omega
   have h3:p0=j:=by omega
   subst h3;refine⟨hp0,by omega,fun p e hp=>⟨fun hh=>?_,fun hh=>?_⟩⟩
   ·rcases hh with hh | rfl
    ·have:=(hes' p e hp).1 hh;omega
    ·refine Classical.byContradiction fun hn=>?_
     have hbit:=Z9K hchain p0 p e e (by omega) hp0 hp;exact hqL ((Z1y hbit).mem hcl hdeps)
   ·by_cases hpj:p < p0
    ·exact .inl ((hes' p e hp).2 hpj)
    ·have:p=p0:=by omega
     subst this;rw[hp0] at hp;exact .inr (Z0F hp).symm
  have plain:∀ {v:EV} {F':Fr} {C':Bx} {a':Act} {w':World},(q',v)∈vs->Z2x X.E o.op≠2->(∀ l T c,Hold.made q' c l T ∉ A∨True)->Rel X a' w' F' C' I M->PFv o.dst v D F F'->J (fun j=>L j∨j=q') a' w':=fun {v F' C' a' w'} hv hk _ hR' hp=>by
   obtain⟨f1,f2⟩:=DJ.fr hD hq hqL hvn hv (Nm.le_refl D) hp hA1 hB1;exact⟨D,F',C',I,M,j,Sm,hR',esKeep hk,hj,hSj,hms,f1,f2,fun i c l T hm hno=>hN i c l T hm fun hi=>hno (.inl hi),hx⟩
  have hvsq:∀ {v:EV} {rest:List (Nat×EV)},vs2=(q',v)::rest->(q',v)∈vs:=fun {v rest} he=>by rw[e1,he];exact List.mem_append.2 (.inr (by simp))
  have hn0m:n0≤m1.n:=by
   obtain⟨D',F',C',I',M',_,_,_,_,hn0⟩:=hs;exact Nat.le_trans hn0 e7
  have esAt:∀ {k:Nat},k=2->row=pre++(q',k)::post->Z2x X.E o.op=2->S1.length=j:=fun {k} hk2 hrow2 hk=>by
   obtain⟨hej,hjl,_⟩:=esNext hk
   have hse:es=(pre.filter fun r=>Nat.beq r.2 2).map (·.1)++q'::((post.filter fun r=>Nat.beq r.2 2).map (·.1)):=by
    rw[←hrow',hrow2,List.filter_append,List.map_append,List.filter_cons];subst hk2
    simp
   have hnd:es.Nodup:=by rw[←hes];exact List.nodup_range.sublist List.filter_sublist
   have h1:es[S1.length]?=some q':=by
    rw[hse,List.getElem?_append_right (by rw[List.length_map,e4];exact Nat.le_refl _),List.length_map,e4,Nat.sub_self];rfl
   have hl1:=(List.getElem?_eq_some_iff.1 h1).1;exact(List.getElem?_inj hl1 hnd).1 (by rw[h1,hej])
  cases e5 with
  | @q i o' rest fr0 m0 v fr' vs' frE0 mE0 S0 A0 ho hk hwt hv hp t=>
   have hoo:o'=o:=Z0F (ho.symm.trans hq);subst hoo
   have hw:=Z4V hwt hR.fr H;refine⟨fun _=>?_,fun hf=>by rw[hw] at hf;cases hf⟩
   obtain⟨u,hu,huv⟩:∃ u,E_q X.P X.E G Sm.t o'.op fr1=some u∧∀ x,SvE D x u->SvE D x v:=by
    cases hl:Z2A o'.op with
    | false=>exact⟨v,by rw[ZlM hl (m2:=m1.t)];exact hv,fun _ h=>h⟩
    | true=>
     have hmem:Hold.load q' o' fr1 v∈A:=e6 _ (by rw[hl];simp);have h1:=hholdA _ hmem
     have h2:=ZdO (show ZeS S (loL es (Z9W ops) q') (hiL es (Z9W ops) q') (ZgV (RX X G pr) o' fr1 v)=true from h1) hlo hhi hSj;unfold ZgV at h2
     split at h2
     ·rename_i u hu
      exact⟨u,hu,fun x hx=>hx.same h2⟩
     ·cases h2
   refine Oper.wpIn_mono (fun a' w'=>?_) (Z2g hE hdo ⟨β,hR⟩ (Zkw (K:=fun F' C' I' M'=>I'=I∧M'=M∧PFv o'.dst v D F F') rfl hk (Zks hE hu hO hms fun x hx=>⟨rfl,rfl,.put F (huv x hx)⟩)));rintro⟨F',C',I',M',hr',rfl,rfl,hpf⟩
   exact plain (hvsq rfl) (by rw[hk];decide) (fun _ _ _=>.inr trivial) hr' hpf
  | @a i o' d rest fr0 m0 m' l T c mk fr' vs' frE0 mE0 S0 A0 ho hk hwt hd hv hnr hp t=>
   have hoo:o'=o:=Z0F (ho.symm.trans hq);subst hoo
   have hw:=Z4V hwt hR.fr H;refine⟨fun _=>?_,fun hf=>by rw[hw] at hf;cases hf⟩;have hmem:Hold.made q' m1.n l T∈A:=e6 _ (by simp)
   have h1:=hholdA _ hmem;have h2:=ZdO (show ZeS S (loL es (Z9W ops) q') (hiL es (Z9W ops) q') (Zlo m1.n l T)=true from h1) hlo hhi hSj;unfold Zlo at h2;rw[Bool.and_eq_true] at h2;obtain⟨hcn,h2⟩:=h2;have hcn':m1.n < Sm.n:=Nat.le_of_ble_eq_true hcn
   split at h2
   ·rename_i cs T' lim hent
    simp only[Bool.and_eq_true] at h2;obtain⟨hT,hlim,h2⟩:=h2;have hT':=Nat.eq_of_beq_eq_true hT;subst hT';have hlim':=Nat.eq_of_beq_eq_true hlim;subst hlim'
    split at h2
    ·rename_i l' hl'
     obtain⟨l2,c1,c2,c3⟩:=Tri.many_ok cs l.length 0 _ _ hl';have hl2:l2=l':=Z0F c3;subst hl2;have hDc:D m1.n=none:=hN q' m1.n l T' hmem hqL
     refine Oper.wpIn_mono (fun a' w'=>?_) (Z2g hE hdo ⟨β,hR⟩ (Zkt (K:=fun F' C' I' M'=>∃ b us u,I'=I∧M'=⟨b,.cells us.toArray T' (0,0)⟩::M∧I b=none∧(∀ x∈M,x.num≠b)∧VRs D l us∧(∀ i,X.E T'=some i->us.length=c * i.size)∧c≤maxLen ∧
      (∀ (D':Nm) id,D' id=some ⟨b,0,c⟩->VR D' (mk id) u)∧PF o'.dst u F F') hE hesc hdo hv (by rw[hd];rfl) hO fun b us u F' C' g1 g2 g3 g4 g5 g6 g7=>⟨b,us,u,rfl,rfl,g1,g2,g3,g4,g5,g6,g7⟩))
     rintro⟨F',C',I',M',hr',b,us,u,rfl,rfl,g1,g2,g3,g4,g5,g6,g7⟩;have hle:D.le (D.set m1.n ⟨b,0,c⟩):=Nm.le_set _ hDc
     have hpv:PFv o'.dst (mk m1.n) (D.set m1.n ⟨b,0,c⟩) F F':=g7.v (g6 _ _ (Nm.set_self _ _ _));obtain⟨f1,f2⟩:=DJ.fr hD hq hqL hvn (hvsq rfl) hle hpv hA1 hB1
     have hg3:=Z2W h2 g3
     have hset:∀ id,id≠m1.n->(D.set m1.n ⟨b,0,c⟩) id=D id:=fun id hid=>by unfold Nm.set;rw[if_neg hid]
     have hother:∀ id e b',Sm.t.get id=some e->D id=some b'->b'.b≠b:=fun id e b' hi hb' hbb=>by
      obtain⟨x,hx1,hx2⟩:=hms.blk hi hb';exact g2 x hx1 (hx2.trans hbb)
     refine⟨D.set m1.n ⟨b,0,c⟩,F',C',I',_,j,Sm,hr',esKeep (by rw[hk];decide),hj,hSj,?_,f1,f2,?_,fun i hi=>?_⟩
     ·refine⟨fun id e b' hi hb'=>?_,fun id id' e e' b1 b2 hi hi' h1 h2 hbb=>?_,fun id b' hb'=>?_,hms.glo⟩
      ·by_cases hid:id=m1.n
       ·subst hid
        rw[Nm.set_self] at hb';cases hb';rw[hent] at hi;cases hi;refine .cells us.toArray rfl (by simp) (by simp[g3.len]) (fun i v hi hv=>?_) (fun i hi=>by simpa using g4 i hi) g5
        have hv':l2[i]?=some v:=by
         have:=c2 i hi;rw[Nat.zero_add,hv] at this;exact this.symm
        obtain⟨x,hx1,hx2⟩:=hg3.get hv';exact⟨x,by simpa using hx1,hx2.mono hle⟩
       ·rw[hset id hid] at hb'
        exact(hms.ent id e b' hi hb').mono hle fun x hx _=>List.mem_cons_of_mem _ hx
      ·by_cases hid:id=m1.n
       ·by_cases hid':id'=m1.n
        ·rw[hid,hid']
        ·rw[hset id' hid'] at h2
         rw[hid,Nm.set_self] at h1;cases h1;exact(hother id' e' b2 hi' h2 hbb.symm).elim
       ·rw[hset id hid] at h1
        by_cases hid':id'=m1.n
        ·rw[hid',Nm.set_self] at h2
         cases h2;exact(hother id e b1 hi h1 hbb).elim
        ·rw[hset id' hid'] at h2
         exact hms.inj id id' e e' b1 b2 hi hi' h1 h2 hbb
      ·by_cases hid:id=m1.n
       ·rw[hid];exact hcn'
       ·rw[hset id hid] at hb'
        exact hms.dom _ _ hb'
     ·intro i c' l' T2 hmd hno
      have hcc:c'≠m1.n:=fun e=>by
       rcases e9 i c' l' T2 hmd with h | h
       ·rcases List.mem_cons.1 h with h | h
        ·cases h
         exact hno (.inr rfl)
        ·have:=(t.made_ge.2 i c' l' T2 h).1
         have:=hnr.1;omega
       ·omega
      rw[hset c' hcc]
      exact hN i c' l' T2 hmd fun hi=>hno (.inl hi)
     ·rw[hset i (by omega)]
      exact hx i hi
    ·cases h2
   ·cases h2
  | @e i o' rest fr0 m0 m' v fr' vs' frE0 mE0 S0 A0 ho hk hwt hcore hp t=>
   have hoo:o'=o:=Z0F (ho.symm.trans hq);subst hoo
   have hw:=Z4V hwt hR.fr H;refine⟨fun _=>?_,fun hf=>by rw[hw] at hf;cases hf⟩;obtain⟨hej,hjl,hes2⟩:=esNext hk
   have hS1:=esAt rfl hsp hk
   have hSm:Sm=m1:=by
    rw[e3,List.getElem?_append_right (by omega),hS1,Nat.sub_self] at hSj
    simpa using hSj.symm
   subst hSm;obtain⟨m2,S3,hS3,hgrow⟩:=t.head;refine Oper.wpIn_mono (fun a' w'=>?_) (Z2g hE hdo ⟨β,hR⟩ (hcore.2 D F C I M (fun F' C' I' M'=>∃ D',D.ext D' Sm.n∧PFv o'.dst v D' F F'∧MS (RX X G pr) D' m' I' M') hO hms fun D' F' C' I' M' g1 g2 g3=>⟨D',g1,g2,g3⟩));rintro⟨F',C',I',M',hr',D',g1,g2,g3⟩
   have hle:=hms.le g1;obtain⟨f1,f2⟩:=DJ.fr hD hq hqL hvn (hvsq rfl) hle g2 hA1 hB1;refine⟨D',F',C',I',M',j+1,m2,hr',hes2,hjl,?_,g3.grow hgrow,f1,f2,fun i c l T hmd hno=>?_,Nm.ext_trans hx g1 hn0m⟩
   ·rw[e3,List.getElem?_append_right (by omega),hS1,show j+1 - j=0+1 by omega,List.getElem?_cons_succ,hS3]
    rfl
   ·rcases e9 i c l T hmd with h | h
    ·have:=(t.made_ge.2 i c l T h).1
     cases hDc:D' c with
     | none=>rfl
     | some b=>have:=g3.dom _ _ hDc;omega
    ·rw[g1 c h]
     exact hN i c l T hmd fun hi=>hno (.inl hi)
  | @skip i k' o' rest fr0 m0 fr' vs' frE0 mE0 S0 A0 ho hk hwt hp t=>
   have hoo:o'=o:=Z0F (ho.symm.trans hq);subst hoo
   have hw:=Z4V hwt hR.fr H;refine⟨fun hf=>(by rw[hw] at hf;cases hf),fun _=>?_⟩;have hR':Rel X (a.put o'.dst undef) w (put o'.dst (.val undef) F) C I M:=⟨β,hR.put (x:=.val undef) hdo rfl⟩
   have hpv:PFv o'.dst (.t []) D F (put o'.dst (.val undef) F):=.put F (.val .undef)
   by_cases hk2:k=2
   ·subst hk2
    obtain⟨hej,hjl,hes2⟩:=esNext hk;have hS1:=esAt rfl hsp hk
    have hSm:Sm=m1:=by
     rw[e3,List.getElem?_append_right (by omega),hS1,Nat.sub_self] at hSj
     simpa using hSj.symm
    subst hSm;obtain⟨m2,S3,hS3,hgrow⟩:=t.head;obtain⟨f1,f2⟩:=DJ.fr hD hq hqL hvn (hvsq rfl) (Nm.le_refl D) hpv hA1 hB1;refine⟨D,_,C,I,M,j+1,m2,hR',hes2,hjl,?_,hms.grow hgrow,f1,f2,fun i c l T hmd hno=>hN i c l T hmd fun hi=>hno (.inl hi),hx⟩;rw[e3,List.getElem?_append_right (by omega),hS1,show j+1 - j=0+1 by omega]
    show (Sm::S0)[0+1]?=some m2
    rw[List.getElem?_cons_succ,hS3];rfl
   ·exact plain (hvsq rfl) (by rw[hk];exact hk2) (fun _ _ _=>.inr trivial) hR' hpv
 simpa using key
end
theorem Z3b {n:Nat}:∀ {c:Code},okC n c=true->Z1f n c=true
 | .seq x y,h=>by simp only[okC,Z1f,Bool.and_eq_true] at h ⊢;exact⟨Z3b h.1,Z3b h.2⟩
 | .block _ c,h=>by simp only[okC,Z1f] at h ⊢;exact Z3b h
 | .cond _ x y,h=>by simp only[okC,Z1f,Bool.and_eq_true] at h ⊢;exact⟨Z3b h.1,Z3b h.2⟩
 | .loop c,h=>by simp only[okC,Z1f] at h ⊢;exact Z3b h
 | .region _ ops _,h=>h
 | .scope c,h=>rfl
 | .rangeFunc ..,h=>rfl
 | .skip,h | .exit _,h | .label _,h | .goto _,h | .ret,h | .refuse _,h=>rfl
theorem Z7G {n:Nat}:∀ {c:Code} {l:Nat} {r:Code},okC n c=true->findLabel c l=some r->okC n r=true
 | .seq x y,l,r,h,hl=>by
  simp only[okC,Bool.and_eq_true] at h;simp only[findLabel] at hl
  split at hl
  ·rename_i rest hr
   cases hl;simp only[okC,Bool.and_eq_true];exact⟨Z7G h.1 hr,h.2⟩
  ·exact Z7G h.2 hl
 | .label l',l,r,h,hl=>by
  simp only[findLabel] at hl
  split at hl
  ·cases hl;rfl
  ·cases hl
 | .skip,_,_,_,hl | .exit _,_,_,_,hl | .goto _,_,_,_,hl | .ret,_,_,_,hl | .refuse _,_,_,_,hl | .block _ _,_,_,_,hl | .cond _ _ _,_,_,_,hl | .loop _,_,_,_,hl | .scope _,_,_,_,hl | .region _ _ _,_,_,_,hl | .rangeFunc _ _ _ _,_,_,_,hl=>by simp[findLabel] at hl
def Z4c (P:Program):Prop:=∀ (g:Nat) (fn:Func) (c:Code),P.funcs[g]?=some fn->fn.body=some c->okC fn.ntmps c=true∧(fn.name == "runtime.NumGoroutine")=false
def ZlN (P:Program):Bool:=P.funcs.toList.all fun fn=>match fn.body with
 | some c=>okC fn.ntmps c && !(fn.name == "runtime.NumGoroutine")
 | none=>true
theorem Zhw {P:Program} (h:ZlN P=true):Z4c P:=fun g fn c hf hb=>by
 have h1:=List.all_eq_true.1 h fn (by rw[←Array.mem_def];exact Array.mem_of_getElem? hf);simp only[hb,Bool.and_eq_true,Bool.not_eq_true'] at h1
 exact h1
def Z4W (Y:RK):Prop:=∀ g vs m v m',Y.pr g vs m=some (v,m')->∀ (D:Nm) (I:GH) (M:List Blk) (us:List Value),VRs D vs us->MS Y D m I M->Spec Y.P g us I M fun r I' M'=>∃ D',D.ext D' m.n∧VR D' v r∧MS Y D' m' I' M'
def Z5V:Ex->Exit
 | .normal=>.normal
 | .exit id=>.exit id
 | .goto l=>.goto l
 | .ret=>.ret
def RkX (Y:RK) (n B:Nat) (h0:World) (I0:GH) (foot:List Nat) (ro:Option Nat):Ctx:=⟨Y.P,Y.E,List.range n,n,B,h0,I0,foot,ro⟩
theorem RkX.esc {Y:RK} {n B:Nat} {h0:World} {I0:GH} {foot:List Nat} {ro:Option Nat}:∀ d,d < (RkX Y n B h0 I0 foot ro).n->(RkX Y n B h0 I0 foot ro).esc.contains d=true:=fun d hd=>by
 have hd':d < n:=hd
 show (List.range n).contains d=true
 simpa using hd'
def Z7H (Y:RK) (f:Nat):Prop:=∀ top n c fr m ex fr' m',Z1j Y f top n c fr m=some (ex,fr',m')->okC n c=true->∀ B h0 I0 foot ro D0 n0 a w,(top=true->ro=none)->St (RkX Y n B h0 I0 foot ro) Y.G Y.pr D0 n0 fr m a w ->
 c.wpIn (fen (RkX Y n B h0 I0 foot ro)) 0 Y.P (fun e a w=>e=Z5V ex∧St (RkX Y n B h0 I0 foot ro) Y.G Y.pr D0 n0 fr' m' a w) a w
theorem Z9L {α:Type}:∀ (n k:Nat),(Tri.bare n:Tri α).get k=none
 | 0,k=>rfl
 | n+1,k=>by
  rw[Tri.bare,Tri.get_node]
  cases Nat.beq k 0 with
  | true=>rfl
  | false=>
   cases Nat.beq (k % 2) 1 with
   | true=>exact Z9L n _
   | false=>exact Z9L n _
section
variable {X:Ctx} {G:GT} {pr:PR} {D:Nm} {m:Me} {F:Fr} {fr:Tri EV} {C:Bx} {I:GH} {M:List Blk}
theorem Zcq (hF:FR D F fr) (hm:MS (RX X G pr) D m I M):∀ {rs:List ResultVar} {vs:List EV} {K:List Value->Prop},Zkl (RX X G pr) fr m.t rs=some vs->(∀ us,VRs D vs us->K us)->ZbG X F C I M rs K
 | [],vs,K,h,hk=>by
  simp only[Zkl] at h;cases h;exact hk [] .nil
 | .tmp t::l,vs,K,h,hk=>by
  simp only[Zkl] at h
  split at h
  ·rename_i v vs' h1 h2
   cases h;obtain⟨u,e1,g1⟩:=(show SvE D (evr F (.tmp t)) v from hF t v h1).evq;unfold ZbG;rw[e1]
   exact Zcq hF hm h2 fun us hus=>hk _ (.cons g1 hus)
  ·cases h
 | .cell t ty::l,vs,K,h,hk=>by
  simp only[Zkl] at h
  split at h
  ·rename_i x i vs' h1 h2 h3
   split at h
   ·rename_i v hv
    cases h
    have hnb:∀ q,x≠.b q:=fun q e=>by subst e;cases hv
    obtain⟨u,e1,g1⟩:=SvE.nb (hF t x h1:SvE D (evr F (.tmp t)) x) hnb;obtain⟨ad,l',us',rfl,hrd,hl,hp⟩:=Z1U hm g1 hv;have h2':X.E ty=some i:=h2;have e1':evr F (.tmp t)=.val (.pointer (some ad)):=e1;unfold ZbG;rw[e1',h2'];exact⟨us',hrd,Zcq hF hm h3 fun us hus=>hk _ (.cons (Z6q hp hl) hus)⟩
   ·cases h
  ·cases h
end
theorem Zhx {Y:RK} (hE:EOK Y.P Y.E) (hF:Z4c Y.P) (hpr:Z4W Y) {f:Nat} (hc:Z7H Y f) {g:Nat} {args:List EV} {m:Me} {v:EV} {fn:Func} {c:Code} {us:List Value} {D:Nm} {I:GH} {M:List Blk} (hf:Y.P.funcs[g]?=some fn) (hb:fn.body=some c)
  (hle:args.length≤fn.ntmps) {fr fr':Tri EV} (hfr:∀ t w,fr.get t=some w->args[t]?=some w) {ex:Ex} {m1:Me} (hex:ex=.normal∨ex=.ret) (h:Z1j Y f true fn.ntmps c fr m=some (ex,fr',m1)) {vs:List EV} (hr:Zkl Y fr' m1.t fn.results.toList=some vs)
  (hv:v=Zn3 vs) (hu:VRs D args us) (hm:MS Y D m I M):Z98 Y.P g us I M fun r I' M'=>∃ D',D.ext D' m.n∧VR D' v r∧MS Y D' m1 I' M':=by
 obtain⟨hok,hnm⟩:=hF g fn c hf hb
 refine Z59 (List.range fn.ntmps) hE hf hb hnm ?_ fun B h0 a w hR=>?_
 ·rw[Bool.and_eq_true]
  exact⟨Z3b hok,Nat.ble_eq_true_of_le (by rw[hu.len];exact hle)⟩
 ·have hfr0:FR D (Ziz us) fr:=fun t w hw=>by
   obtain⟨x,h1,h2⟩:=hu.get (hfr t w hw);refine .inl ⟨x,?_,h2⟩
   simp only[Ziz,h1]
  have hst:St (RkX Y fn.ntmps B h0 I (M.map (·.num)) none) Y.G Y.pr D m.n fr m a w:=⟨D,_,_,I,M,hR,hfr0,hm,Nm.ext_refl,Nat.le_refl _⟩;refine wpIn_mono (hc _ _ _ _ _ _ _ _ h hok B h0 I (M.map (·.num)) none D m.n a w (fun _=>rfl) hst) ?_
  rintro e a' w' ⟨rfl,D',F',C',I',M',hR',hF',hm',hx,hn⟩
  have hres:∀ ex',ex'=.normal∨ex'=.ret->ZfB (RkX Y fn.ntmps B h0 I (M.map (·.num)) none) fn.results.toList (fun r I' M'=>∃ D',D.ext D' m.n∧VR D' v r∧MS Y D' m1 I' M') ex' F' C' I' M':=fun ex' he=>by
   have hdone:=Zcq (X:=RkX Y fn.ntmps B h0 I (M.map (·.num)) none) (G:=Y.G) (pr:=Y.pr) (C:=C') hF' hm' hr (K:=fun vs=>match vs with
    | [v']=>RetOb (M.map (·.num)) I' M' ((fun r I' M'=>∃ D',D.ext D' m.n∧VR D' v r∧MS Y D' m1 I' M') v')
    | vs=>RetOb (M.map (·.num)) I' M' ((fun r I' M'=>∃ D',D.ext D' m.n∧VR D' v r∧MS Y D' m1 I' M') (.tuple vs.toArray))) fun us' hus=>by
     clear hr
     match vs,us',hus,hv with
     | [],us',hus,hv=>
      rw[hus.unnil];refine⟨I',M',.refl,D',hx,?_,hm'⟩
      rw[hv];exact .mkTup .nil
     | [v1],us',hus,hv=>
      obtain⟨x,xs,h1,h2,rfl⟩:=hus.uncons;rw[h2.unnil];refine⟨I',M',.refl,D',hx,?_,hm'⟩
      rw[hv];exact h1
     | v1::v2::vs,us',hus,hv=>
      obtain⟨x,xs,h1,h2,rfl⟩:=hus.uncons;obtain⟨y,ys,h3,h4,rfl⟩:=h2.uncons;refine⟨I',M',.refl,D',hx,?_,hm'⟩;rw[hv]
      exact .mkTup hus
   rcases he with rfl | rfl<;>exact hdone
  rcases hex with rfl | rfl
  ·exact⟨F',C',I',M',hR',hres _ (.inl rfl)⟩
  ·exact⟨F',C',I',M',hR',hres _ (.inr rfl)⟩
theorem Spec.weakK {P:Program} {f:Nat} {args:List Value} {I:GH} {M:List Blk} {p q:Value->GH->List Blk->Prop} (h:Spec P f args I M p) (hk:∀ v I' M',p v I' M'->q v I' M'):Spec P f args I M q:=by
 rcases h with ⟨h1,h2⟩ | h
 ·refine .inl ⟨h1,fun w hw=>?_⟩
  refine(h2 w hw).mono ?_;rintro e w' ⟨v,I',M',e1,e2,e3,e4⟩;exact⟨v,I',M',e1,hk _ _ _ e2,e3,e4⟩
 ·refine .inr fun w hw=>?_
  obtain⟨v,w',I',M',e1,e2,e3,e4⟩:=h w hw;exact⟨v,w',I',M',e1,hk _ _ _ e2,e3,e4⟩
section
variable {Y:RK} {D:Nm} {m m':Me} {I:GH} {M:List Blk}
theorem ZdQ (hE:EOK Y.P Y.E) (hF:Z4c Y.P) (hpr:Z4W Y) {f:Nat} (hc:Z7H Y f) {g:Nat} {args:List EV} {v:EV} {us:List Value} (h:Zj7 Y (Z1j Y f) g args m=some (v,m')) (hu:VRs D args us) (hm:MS Y D m I M) :
  Z98 Y.P g us I M fun r I' M'=>∃ D',D.ext D' m.n∧VR D' v r∧MS Y D' m' I' M':=by
 unfold Zj7 at h;obtain⟨fn,hf,h1⟩:=Z07 h;obtain⟨c,hb,h2⟩:=Z07 h1;obtain⟨hle,h3⟩:=Z0b h2;obtain⟨fr,g1,g2⟩:=Tri.puts_ok args (Tri.bare 12) 0;rw[g1] at h3
 have hfr:∀ t w,fr.get t=some w->args[t]?=some w:=fun t w hw=>by
  rcases g2 t w hw with ⟨_,h⟩ | ⟨_,h⟩
  ·simpa using h
  ·rw[Z9L] at h;cases h
 unfold Zkm at h3
 split at h3
 ·rename_i fr' m1 hx
  unfold ZnP at h3;obtain⟨vs,hr,h4⟩:=Z07 h3;cases h4;exact Zhx hE hF hpr hc hf hb (Nat.le_of_ble_eq_true hle) hfr (.inl rfl) hx hr rfl hu hm
 ·rename_i fr' m1 hx
  unfold ZnP at h3;obtain⟨vs,hr,h4⟩:=Z07 h3;cases h4;exact Zhx hE hF hpr hc hf hb (Nat.le_of_ble_eq_true hle) hfr (.inr rfl) hx hr rfl hu hm
 ·cases h3
theorem ZdR (hE:EOK Y.P Y.E) (hF:Z4c Y.P) (hpr:Z4W Y) {f:Nat} (hc:Z7H Y f) {g:Nat} {args:List EV} {v:EV} {us:List Value} (h:Z9A Y (Z1j Y f) g args m=some (v,m')) (hu:VRs D args us) (hm:MS Y D m I M) :
  Spec Y.P g us I M fun r I' M'=>∃ D',D.ext D' m.n∧VR D' v r∧MS Y D' m' I' M':=by
 unfold Z9A at h
 cases hp:Y.pr g args m with
 | none=>rw[hp] at h;exact .inl (ZdQ hE hF hpr hc h hu hm)
 | some p=>
  rw[hp] at h;have h':some p=some (v,m'):=h;cases h';exact hpr g args m v m' hp D I M us hu hm
theorem RelB.kept {X:Ctx} {β:Nat->Nat} {a:Act} {w W:World} {F:Fr} {C:Bx} {I0 I':GH} {M0 M':List Blk} (h:RelB X β a w F C I' M') (h1:X.h0=W) (h2:X.B=W.heap.size) (h3:X.I0=I0) (h4:X.foot=M0.map (·.num)):Kept I0 M0 W I' M' w where
 le:=by rw[←h3];exact h.le0
 newI b o hb:=by
  rcases h.new0 b o hb with h5 | h5
  ·exact .inl (by rw[←h3];exact h5)
  ·exact .inr (by rw[←h2];exact h5)
 newM x hx:=by
  rcases h.own x hx with h5 | h5
  ·rw[h4] at h5
   obtain⟨y,hy,e⟩:=List.mem_map.1 h5;exact .inl ⟨y,hy,e⟩
  ·exact .inr (by rw[←h2];exact h5)
 old b hb hn:=by
  rw[←h1]
  refine h.old b (by rw[h2];exact hb) fun hm=>?_
  rw[h4] at hm;obtain⟨y,hy,e⟩:=List.mem_map.1 hm;exact hn y hy e
 out:=by rw[←h1];exact h.out
 sz:=by rw[←h2];exact h.sz
theorem Z8O {R:Type}:∀ {ps:List Nat} {args:List EV} {fr0:Tri EV} {K:Tri EV->Option R} {r:R} {us:List Value} {tmps:Array Value},Z5q ps args fr0 K=some r->VRs D args us->(∀ t∈ps,t < tmps.size)->(∀ t v,fr0.get t=some v->VR D v (tmps.getD t undef)) ->
  ∃ fr1,K fr1=some r∧us.length=ps.length∧((ps.zip us).foldl (fun (tmps:Array Value) (p:Nat×Value)=>tmps.setIfInBounds p.1 p.2) tmps).size=tmps.size ∧
   ∀ t v,fr1.get t=some v->VR D v (((ps.zip us).foldl (fun (tmps:Array Value) (p:Nat×Value)=>tmps.setIfInBounds p.1 p.2) tmps).getD t undef)
 | [],[],fr0,K,r,us,tmps,h,hu,hp,h0=>by
  have:=hu.unnil;subst this;exact⟨fr0,h,rfl,rfl,h0⟩
 | [],_::_,fr0,K,r,us,tmps,h,hu,hp,h0=>by simp[Z5q] at h
 | _::_,[],fr0,K,r,us,tmps,h,hu,hp,h0=>by simp[Z5q] at h
 | t0::ps,v0::args,fr0,K,r,us,tmps,h,hu,hp,h0=>by
  obtain⟨x,xs,g1,g2,rfl⟩:=hu.uncons;simp only[Z5q] at h;obtain⟨fr1,h1,h2⟩:=Tri.set_ok (some v0) fr0 t0;rw[h1] at h;have hlt:=hp t0 (by simp)
  obtain⟨fr2,h3,h4,h5,h6⟩:=Z8O (tmps:=tmps.setIfInBounds t0 x) h g2 (fun t ht=>by simpa using hp t (by simp[ht])) fun t v ht=>by
   rw[Array.getD_eq_getD_getElem?,Array.getElem?_setIfInBounds]
   rcases h2 t v ht with ⟨rfl,e⟩ | ⟨hne,hg⟩
   ·have:=(Z0F e)
    subst this;simp only[if_true,hlt];exact g1
   ·rw[if_neg (Ne.symm hne),←Array.getD_eq_getD_getElem?]
    exact h0 t v hg
  exact⟨fr2,h3,by simp[h4],by simpa using h5,h6⟩
theorem EntR.loopE {E:Env} {a:Loc} {b:Bool} {n:Nat} {fr:Tri EV} {ps:List Nat} {asg body:Code} (h:EntR D E M a (.loop b n fr ps asg body)):∃ L,(⟨a.b,.loop L⟩:Blk)∈M∧LpR D b n fr ps asg body L:=by
 cases h with
 | loop L h1 h2=>exact⟨L,h1,h2⟩
theorem EntR.doneE {E:Env} {a:Loc} {c:Code} {n:Nat} {fr:Tri EV} {ps:List Nat} {asg body:Code} (h:EntR D E M a (.done c n fr ps asg body)):∃ L,(⟨a.b,.loop L⟩:Blk)∈M∧L.state=.done∧L.pending=some c:=by
 cases h with
 | done L h1 h2 h3=>exact⟨L,h1,h2,h3⟩
theorem MS.swap (h:MS Y D m I M) {t':Tri Ent} {l:Nat} {e0 e1:Ent} {al:Loc} {o o':Obj} {Mr:List Blk} (hg:m.t.get l=some e0) (ha:D l=some al) (hM:M.Perm (⟨al.b,o⟩::Mr)) (ht:∀ id e,t'.get id=some e->(id=l∧some e1=some e)∨(id≠l∧m.t.get id=some e))
  (he:EntR D Y.E (⟨al.b,o'⟩::Mr) al e1):MS Y D ⟨t',m.n⟩ I (⟨al.b,o'⟩::Mr):=by
 refine h.step (fun id e hi=>(ht id e hi).imp (fun q=>⟨q.1,Z0F q.2⟩) fun q=>q) ha (Nm.le_refl D) (fun _ _=>rfl) h.dom (fun _ _ h=>h) (fun id e a' hne hi hai x hx hn=>?_) he fun id e a' hne hi hai hb=>hne (h.inj _ _ _ _ _ _ hi hg hai ha hb)
 rcases List.mem_cons.1 (hM.mem_iff.1 hx) with rfl | hx
 ·exact(hne (h.inj _ _ _ _ _ _ hi hg hai ha hn.symm)).elim
 ·exact List.mem_cons_of_mem _ hx
end
section
variable {Y:RK} {D:Nm} {m m':Me} {I:GH} {M:List Blk}
theorem Zjp {f:Nat} (hc:Z7H Y f) {l:Nat} {args:List EV} {v:EV} {us:List Value} {al:Loc} (h:Zlq (Z1j Y f) l args m=some (v,m')) (hl:D l=some al) (hu:VRs D args us) (hm:MS Y D m I M) :
  ZfH Y.P al.b us I M fun r I' M'=>∃ D',D.ext D' m.n∧VR D' v r∧MS Y D' m' I' M':=by
 unfold Zlq at h
 split at h
 ·rename_i n fr0 ps asg body hg
  obtain⟨L,hM,hL⟩:=(hm.ent _ _ _ hg hl).loopE;intro W hW;have hrec:W.heap[al.b]?=some (.loop L):=hW.m _ hM;have hst:L.state=.ready:=hL.st
  have hops:∀ t∈ps,t < L.tmps.size:=fun t ht=>by rw[hL.sz];exact hL.op t (by rw[hL.ps];exact ht)
  obtain⟨fr1,h1,hlen,hsz,hfr1⟩:=Z8O (tmps:=L.tmps) h hu hops hL.fr
  have hps:L.params.size=ps.length:=by rw[←hL.ps];simp
  refine⟨_,_,_,_,run_yield hrec (by rw[hps];simpa using hlen),?_⟩
  have htm:(L.params.zip us.toArray).foldl (fun tmps (x:Nat×Value)=>match x with | (t,a)=>tmps.setIfInBounds t a) L.tmps=(ps.zip us).foldl (fun (tmps:Array Value) (p:Nat×Value)=>tmps.setIfInBounds p.1 p.2) L.tmps:=by
   rw[←Array.foldl_toList,←hL.ps];simp
  rw[htm];generalize hT:(ps.zip us).foldl (fun (tmps:Array Value) (p:Nat×Value)=>tmps.setIfInBounds p.1 p.2) L.tmps=T at hfr1 hsz
  rw[hL.asg,hL.body]
  have hoa:okC n asg=true:=by rw[←hL.asg];exact hL.oa
  have hob:okC n body=true:=by rw[←hL.body];exact hL.ob
  refine roundIn_of_wpIn (F:=Fence.wide) (n:=0) trivial ?_
  let X1:Ctx:=RkX Y n W.heap.size W I (M.map (·.num)) (some al.b)
  have hrel:RelB X1 (fun _=>0) { tmps:=T,defers:=[] } W (fun t=>.val (T.getD t undef)) (fun _=>none) I M:={
   size:=hsz.trans hL.sz
   defers:=⟨[],rfl,List.nodup_nil,fun r hr=>by cases hr⟩
   holds:=hW
   fr:=fun t=>rfl
   bx:=fun s cs hs=>by cases hs
   inj:=fun s s' h1=>by simp at h1
   le0:=fun b o hb=>hb
   new0:=fun b o hb=>.inl hb
   own:=fun x hx=>.inl (List.mem_map.2 ⟨x,hx,rfl⟩)
   old:=fun b hb hf=>rfl
   out:=.refl _
   sz:=Nat.le_refl _ }
  unfold ZoS at h1
  split at h1
  ·rename_i fr2 m2 hasg
   have hs1:St X1 Y.G Y.pr D m.n fr1 m { tmps:=T,defers:=[] } W:=⟨D,_,_,I,M,⟨_,hrel⟩,fun t v hv=>.val (hfr1 t v hv),hm,Nm.ext_refl,Nat.le_refl _⟩;refine wpIn_mono (hc _ _ _ _ _ _ _ _ hasg hoa _ _ _ _ _ D m.n _ _ (fun e=>by cases e) hs1) ?_
   rintro e a1 w1 ⟨rfl,D2,F2,C2,I2,M2,⟨β2,hR2⟩,hF2,hm2,hx2,hn2⟩
   have hl2:D2 l=some al:=by rw[hx2 l (hm.dom _ _ hl)];exact hl
   have h2:Zok (Z1j Y f) l n body (m2.t.get l) fr2 m2=some (v,m'):=h1;unfold Zok at h2
   split at h2
   ·rename_i n' fr0' ps' asg' body' hg2
    obtain⟨L2,hM2,hL2⟩:=(hm2.ent _ _ _ hg2 hl2).loopE;obtain⟨pre,post,hsp⟩:=List.append_of_mem hM2
    have hperm:M2.Perm (⟨al.b,.loop L2⟩::(pre++post)):=by rw[hsp];exact List.perm_middle
    have hh1:w1.heap[al.b]?=some (.loop L2):=hR2.holds.m _ hM2;have hlt1:=(Array.getElem?_eq_some_iff.1 hh1).1;refine⟨_,run_beginRound hh1 hL2.st,?_⟩;obtain⟨t3,h3,h4⟩:=Tri.set_ok (some (Ent.loop true n' fr0' ps' asg' body')) m2.t l
    rw[h3] at h2
    have hR3:RelB X1 β2 a1 (w1.putObj al.b (.loop { L2 with state:=.busy })) F2 C2 I2 (⟨al.b,.loop { L2 with state:=.busy }⟩::(pre++post)):=
     (hR2.wk (.perm hperm .refl)).swap (by simp) (World.putObj_heap_same hlt1) (fun b hb=>World.putObj_heap_other hb) (Z2Y _ _ _)
    have hm3:MS Y D2 ⟨t3,m2.n⟩ I2 (⟨al.b,.loop { L2 with state:=.busy }⟩::(pre++post)):=hm2.swap hg2 hl2 hperm h4 (.loop { L2 with state:=.busy } (by simp) ⟨rfl,hL2.pd,hL2.sz,hL2.fr,hL2.ps,hL2.asg,hL2.body,hL2.oa,hL2.ob,hL2.op⟩);unfold Zn4 at h2
    obtain⟨⟨ex,fr4,m4⟩,hbody,h5⟩:=Z07 h2;have hs3:St X1 Y.G Y.pr D m.n fr2 ⟨t3,m2.n⟩ a1 (w1.putObj al.b (.loop { L2 with state:=.busy })):=⟨D2,F2,C2,I2,_,⟨β2,hR3⟩,hF2,hm3,hx2,hn2⟩;refine wpIn_mono (hc _ _ _ _ _ _ _ _ hbody hob _ _ _ _ _ D m.n _ _ (fun e=>by cases e) hs3) ?_
    rintro e a4 w4 ⟨rfl,D4,F4,C4,I4,M4,⟨β4,hR4⟩,hF4,hm4,hx4,hn4⟩
    have hl4:D4 l=some al:=by rw[hx4 l (hm.dom _ _ hl)];exact hl
    have h6:Zoj l (m4.t.get l) (Z8r ex) m4=some (v,m'):=h5;unfold Zoj at h6
    split at h6
    ·rename_i n4 fr04 ps4 asg4 body4 hg4
     obtain⟨L4,hM4,hL4⟩:=(hm4.ent _ _ _ hg4 hl4).loopE;obtain⟨pre4,post4,hsp4⟩:=List.append_of_mem hM4
     have hperm4:M4.Perm (⟨al.b,.loop L4⟩::(pre4++post4)):=by rw[hsp4];exact List.perm_middle
     have hh4:w4.heap[al.b]?=some (.loop L4):=hR4.holds.m _ hM4;have hlt4:=(Array.getElem?_eq_some_iff.1 hh4).1;obtain⟨t5,h7,h8⟩:=Tri.set_ok (some (opn (Z8r ex) (Ent.loop false n4 fr04 ps4 asg4 body4) fun c=>Ent.done c n4 fr04 ps4 asg4 body4)) m4.t l;rw[h7] at h6;cases h6
     have fin:∀ jump,Z8r ex=jump->∃ v' w',(Instr.endRound al.b jump).run Y.P w4=.ok v' w'∧∃ r I' M',Ending.returned v'=.returned r∧(∃ D',D.ext D' m.n∧VR D' (.b (Z8r ex).isNone) r∧MS Y D' ⟨t5,m4.n⟩ I' M')∧Holds I' M' w'∧Kept I M W I' M' w':=by
      rintro jump hj
      let L5:Loop:={ L4 with state:=if jump.isNone then .ready else .done,pending:=jump }
      have hR5:RelB X1 β4 a4 (w4.putObj al.b (.loop L5)) F4 C4 I4 (⟨al.b,.loop L5⟩::(pre4++post4)):=
       (hR4.wk (.perm hperm4 .refl)).swap (by simp) (World.putObj_heap_same hlt4) (fun b hb=>World.putObj_heap_other hb) (Z2Y _ _ _)
      refine⟨_,_,run_endRound jump hh4,_,I4,_,rfl,⟨D4,hx4,?_,hm4.swap hg4 hl4 hperm4 h8 ?_⟩,hR5.holds,hR5.kept rfl rfl rfl rfl⟩
      ·rw[hj]
       simp[VR]
      ·rw[hj]
       cases jump with
       | none=>exact .loop L5 (by simp) ⟨rfl,rfl,hL4.sz,hL4.fr,hL4.ps,hL4.asg,hL4.body,hL4.oa,hL4.ob,hL4.op⟩
       | some c=>exact .done L5 (by simp) rfl rfl
     cases ex with
     | normal=>exact fin none rfl
     | exit id=>exact fin _ rfl
     | goto t=>exact fin _ rfl
     | ret=>exact fin _ rfl
    ·cases h6
   ·cases h2
  ·cases h1
 ·cases h
end
section
variable {Y:RK}
theorem ZlO (hE:EOK Y.P Y.E) (hF:Z4c Y.P) (hpr:Z4W Y) {f:Nat} (hc:Z7H Y f):ZaX Y (ZdC Y (Z1j Y f)):=fun fv l m v m' h D I M u us hfv hus hm=>by
 unfold ZdC at h
 split at h
 ·rename_i g fs cs
  simp only[VR] at hfv;obtain⟨vs,ws,h1,h2,rfl⟩:=hfv;refine .inl ⟨g,_,_,rfl,?_⟩;have:=ZdR hE hF hpr hc h (h1.append (hus.append h2)) hm
  simpa using this
 ·rename_i q
  simp only[VR] at hfv;obtain⟨al,h1,rfl⟩:=hfv;exact .inr ⟨al.b,rfl,Zjp hc h h1 hus hm⟩
 ·cases h
theorem St.world {X:Ctx} {G:GT} {pr:PR} {D0:Nm} {n0:Nat} {fr:Tri EV} {m:Me} {a:Act} {w:World} (h:St X G pr D0 n0 fr m a w):∃ D F β,(∀ t,Z1R β (F t) (a.tmps.getD t undef))∧FR D F fr:=by
 obtain⟨D,F,C,I,M,⟨β,hR⟩,hF,_⟩:=h;exact⟨D,F,β,hR.fr,hF⟩
theorem St.eval {X:Ctx} {G:GT} {pr:PR} {D0:Nm} {n0:Nat} {fr:Tri EV} {m:Me} {a:Act} {w:World} (h:St X G pr D0 n0 fr m a w) {x:Operand} {b:Bool} (hx:rdO fr x=some (.b b)):a.eval x=.bool b:=by
 obtain⟨D,F,β,h1,h2⟩:=h.world;obtain⟨u,e1,g1⟩:=(h2.op [x]).ev (x:=x) (by simp) hx;rw[Z04 h1 e1,g1.bool]
theorem SvE.ok {D:Nm} {β:Nat->Nat} {x:SV} {v:EV} {u:Value} (h:SvE D x v) (hx:Z1R β x u):VR D v u:=by
 rcases h with ⟨y,rfl,h⟩ | ⟨q,rfl,rfl⟩
 ·have:u=y:=hx
  subst this;exact h
 ·have:u=.bool q:=hx
  subst this;simp[VR]
theorem Zjq (hE:EOK Y.P Y.E) (hF:Z4c Y.P) (hpr:Z4W Y) {f:Nat} (hc:Z7H Y f) {top:Bool} {n:Nat} {x:Operand} {ps:Array Tmp} {asg body:Code} {fr fr':Tri EV} {m m':Me} {ex:Ex} (h:Zch Y (Z1j Y f) top n (rdO fr x) ps.toList asg body fr m=some (ex,fr',m'))
  (hok:okC n (.rangeFunc x ps asg body)=true) {B:Nat} {h0:World} {I0:GH} {foot:List Nat} {ro:Option Nat} {D0:Nm} {n0:Nat} {a:Act} {w:World} (hro:top=true->ro=none) (hs:St (RkX Y n B h0 I0 foot ro) Y.G Y.pr D0 n0 fr m a w) :
  (Code.rangeFunc x ps asg body).wpIn (fen (RkX Y n B h0 I0 foot ro)) 0 Y.P (fun e a w=>e=Z5V ex∧St (RkX Y n B h0 I0 foot ro) Y.G Y.pr D0 n0 fr' m' a w) a w:=by
 unfold Zch at h
 split at h
 ·rename_i g cap hx
  have hro':=hro rfl;subst hro';obtain⟨D,F,C,I,M,⟨β,hR⟩,hFR,hm,hx0,hn0⟩:=hs;obtain⟨u,e1,g1⟩:=(hFR.op [x]).ev (x:=x) (by simp) hx;simp only[VR] at g1;obtain⟨vs,ws,h1,h2,rfl⟩:=g1;have hvs:=h1.unnil;subst hvs;simp only[okC,Bool.and_eq_true] at hok;obtain⟨t1,h3,h4⟩:=Z7B h
  refine wpIn_rangeFunc fun fn _=>?_
  let rc:Loop:={ state:=.ready,pending:=none,fn:=fn,tmps:=a.tmps,params:=ps,assign:=asg,body:=body,defers:=w.heap.size }
  let l:=w.heap.size+1
  let w2:World:=(w.alloc (.deferred (some []))).alloc (.loop rc)
  have hRm:=hR.alloc_mark.alloc_blk (.loop rc)
  have hl:(w.alloc (.deferred (some []))).heap.size=l:=by simp[l]
  rw[hl] at hRm
  have hfrl:∀ q∈M,q.num≠l:=fun q hq e=>by
   have:=hR.holds.lt hq;omega
  have hms1:MS Y (D.set m.n ⟨l,0,0⟩) ⟨t1,m.n+1⟩ I (⟨l,.loop rc⟩::M):=hm.new (a:=⟨l,0,0⟩) h3 hfrl (.loop rc (by simp) ⟨rfl,rfl,hR.size,fun t v ht=>((hFR t v ht).ok (hR.fr t)).mono (Nm.le_set _ hm.fresh),rfl,rfl,rfl,hok.1,hok.2.1,
   fun t ht=>Nat.le_of_ble_eq_true (List.all_eq_true.1 hok.2.2 t ht)⟩)
  unfold Zko at h4;obtain⟨⟨v,m2⟩,hcall,h5⟩:=Z07 h4;have hle1:=Nm.le_set (D:=D) ⟨l,0,0⟩ hm.fresh;have hargs:VRs (D.set m.n ⟨l,0,0⟩) (.y m.n::cap) (.func (.yield l) #[] #[]::ws):=.cons (by simp only[VR];exact⟨_,Nm.set_self _ _ _,rfl⟩) (h2.mono hle1);obtain⟨hent,hcalls⟩:=ZdQ hE hF hpr hc hcall hargs hms1
  have hcw:=hcalls w2 hRm.holds;have e2:=Z04 hR.fr e1;refine⟨l,[Z4x w.heap.size],w2,{ target:=.fn (.func g) ws.toArray,args:=#[.func (.yield l) #[] #[]] },w2,g,(.func (.yield l) #[] #[]::ws).toArray,w2,?_,?_,fun _ _=>trivial,?_,(fun h=>by cases h),?_⟩
  ·show (Instr.enterLoop fn a.tmps ps asg body none).run Y.P w=_
   exact run_enterLoop_outer fn a.tmps ps asg body
  ·show (Deferred.ofValue (a.eval x) (#[Operand.const (.func (.yield l) #[] #[])].map a.eval)).run Y.P w2=_
   rw[e2];simp[Deferred.ofValue,Act.eval]
  ·simp only[invoke]
   rw[show #[Value.func (.yield l) #[] #[]]++ws.toArray=(.func (.yield l) #[] #[]::ws).toArray from by apply Array.ext';simp];exact hent _ _
  ·refine(Z6I (X:=RkX Y n B h0 I0 foot none) hcw _).mono ?_
   rintro e w3 ⟨r,I3,M3,rfl,⟨D3,hx3,hv3,hm3⟩,hH3,hK3⟩;have hr3:=hRm.after (Mr:=[]) (by simp) hH3 hK3
   rw[List.append_nil] at hr3
   have hl3:D3 m.n=some ⟨l,0,0⟩:=by rw[hx3 m.n (Nat.lt_succ_self _)];exact Nm.set_self _ _ _
   have hle3:=hms1.le hx3
   have hFR3:FR D3 F fr:=fun t v ht=>(hFR t v ht).mono (Nm.le_trans hle1 hle3)
   have hext:D0.ext D3 n0:=fun i hi=>by
    have hi1:i < m.n+1:=by
     have:i < m.n:=by omega
     omega
    rw[hx3 i hi1]
    show (if i=m.n then _ else D i)=D0 i
    rw[if_neg (by omega)];exact hx0 i hi
   have fin:∀ (L:Loop) (t4:Tri Ent) (j:Option Code),(⟨l,.loop L⟩:Blk)∈M3->L.state≠.busy->L.pending=j->(∃ e0,m2.t.get m.n=some e0)->(∀ id e,t4.get id=some e->(id=m.n∧(none:Option Ent)=some e)∨(id≠m.n∧m2.t.get id=some e))->n0≤m2.n ->
     ∃ w4,(Instr.endLoop l).run Y.P w3=.ok j w4∧St (RkX Y n B h0 I0 foot none) Y.G Y.pr D0 n0 fr ⟨t4,m2.n⟩ { a with defers:=[Z4x w.heap.size]++a.defers } w4:=by
    rintro L t4 j hL hb hp ⟨e0,he0⟩ ht4 hn4;have hh3:w3.heap[l]?=some (.loop L):=hH3.m _ hL;obtain⟨pre,post,hsp⟩:=List.append_of_mem hL
    have hperm:M3.Perm (⟨l,.loop L⟩::(pre++post)):=by rw[hsp];exact List.perm_middle
    have hsub:∀ i en,t4.get i=some en->i≠m.n∧m2.t.get i=some en:=fun i en hi=>by
     rcases ht4 i en hi with ⟨_,h8⟩ | h8
     ·cases h8
     ·exact h8
    have hR4:=(hr3.wk (.perm hperm .refl)).dropM (o':=.loop { L with state:=.exhausted });refine⟨_,(by rw[←hp];exact run_endLoop hh3 hb),D3,F,C,I3,pre++post,⟨β,hR4⟩,hFR3,⟨fun i en b hi hb'=>?_,fun i i' en en' b b' hi hi'=>hm3.inj i i' en en' b b' (hsub i en hi).2 (hsub i' en' hi').2,hm3.dom,hm3.glo⟩,hext,hn4⟩
    refine(hm3.ent i en b (hsub i en hi).2 hb').mono (Nm.le_refl D3) fun q hq hn=>?_
    rcases List.mem_cons.1 (hperm.mem_iff.1 hq) with rfl | hq
    ·exact((hsub i en hi).1 (hm3.inj _ _ _ _ _ _ (hsub i en hi).2 he0 hb' hl3 hn.symm)).elim
    ·exact hq
   have hn2:∀ {e0:Ent},m2.t.get m.n=some e0->n0≤m2.n:=fun _=>by
    have:=hm3.dom _ _ hl3;omega
   have h6:(match m2.t.get m.n with
    | some (.loop false ..)=>m2.t.setK none m.n fun t=>some (Ex.normal,fr,(⟨t,m2.n⟩:Me))
    | some (.done c ..)=>opn (Zol c) none fun ex=>m2.t.setK none m.n fun t=>some (ex,fr,⟨t,m2.n⟩)
    | _=>none)=some (ex,fr',m'):=h5
   split at h6
   ·rename_i n3 fr3 ps3 asg3 body3 hg3
    obtain⟨L,hL,hLp⟩:=(hm3.ent _ _ _ hg3 hl3).loopE;obtain⟨t4,h7,h8⟩:=Tri.set_ok (none:Option Ent) m2.t m.n;rw[h7] at h6;cases h6;obtain⟨w4,h9,h10⟩:=fin L t4 none hL (by rw[hLp.st];simp) hLp.pd ⟨_,hg3⟩ h8 (hn2 hg3);exact⟨none,w4,h9,rfl,h10⟩
   ·rename_i c n3 fr3 ps3 asg3 body3 hg3
    obtain⟨L,hL,hst,hpd⟩:=(hm3.ent _ _ _ hg3 hl3).doneE;obtain⟨ex',hex,h6⟩:=Z07 h6;obtain⟨t4,h7,h8⟩:=Tri.set_ok (none:Option Ent) m2.t m.n;rw[h7] at h6;cases h6;obtain⟨w4,h9,h10⟩:=fin L t4 (some c) hL (by rw[hst];simp) hpd ⟨_,hg3⟩ h8 (hn2 hg3);refine⟨some c,w4,h9,?_⟩
    unfold Zol at hex
    split at hex
    ·cases hex;exact wpIn_exit ⟨rfl,h10⟩
    ·cases hex;exact wpIn_goto ⟨rfl,h10⟩
    ·cases hex;exact wpIn_ret ⟨rfl,h10⟩
    ·cases hex
   ·cases h6
 ·cases h
end
section
variable {Y:RK}
theorem Z7I {next:Act->World->Prop} {Q:Exit->Act->World->Prop} {ex:Ex} {a:Act} {w:World} (h:Q (Z5V ex) a w) (hne:ex≠.normal):Exit.then next Q (Z5V ex) a w:=by
 cases ex<;>first | exact(hne rfl).elim | exact h
theorem ZlP (hE:EOK Y.P Y.E) (hF:Z4c Y.P) (hpr:Z4W Y) (hmx:Y.P.follows .mixedOrders=true):∀ f k,k≤f->Z7H Y k:=by
 intro f
 induction f with
 | zero=>
  intro k hk top n c fr m ex fr' m' h
  have:k=0:=by omega
  subst this;cases h
 | succ f ih=>
  intro k hk
  by_cases hkf:k≤f
  ·exact ih k hkf
  have hk1:k=f+1:=by omega
  subst hk1;have hc:=ih f (Nat.le_refl _);have hcall:=ZlO hE hF hpr hc
  intro top n c fr m ex fr' m' h hok B h0 I0 foot ro D0 n0 a w hro hs;have h1:Zci Y f (Z1j Y f) top n c fr m=some (ex,fr',m'):=h;have hesc:=@RkX.esc Y n B h0 I0 foot ro;unfold Zci at h1
  cases c with
  | skip=>cases h1;exact wpIn_skip ⟨rfl,hs⟩
  | label l=>cases h1;exact wpIn_label ⟨rfl,hs⟩
  | ret=>cases h1;exact wpIn_ret ⟨rfl,hs⟩
  | exit id=>cases h1;exact wpIn_exit ⟨rfl,hs⟩
  | goto l=>cases h1;exact wpIn_goto ⟨rfl,hs⟩
  | refuse s=>cases h1
  | seq x y=>
   simp only[okC,Bool.and_eq_true] at hok;simp only[ZaQ] at h1
   split at h1
   ·rename_i fr1 m1 hx
    refine wpIn_seq (wpIn_mono (hc _ _ _ _ _ _ _ _ hx hok.1 B h0 I0 foot ro D0 n0 a w hro hs) ?_);rintro e a1 w1 ⟨rfl,hs1⟩
    exact hc _ _ _ _ _ _ _ _ h1 hok.2 B h0 I0 foot ro D0 n0 a1 w1 hro hs1
   ·rename_i hno
    refine wpIn_seq (wpIn_mono (hc _ _ _ _ _ _ _ _ h1 hok.1 B h0 I0 foot ro D0 n0 a w hro hs) ?_);rintro e a1 w1 ⟨rfl,hs1⟩
    exact Z7I ⟨rfl,hs1⟩ fun e=>hno fr' m' (by rw[h1,e])
  | block id c=>
   simp only[okC] at hok;simp only[ZgW] at h1
   split at h1
   ·rename_i j fr1 m1 hx
    refine wpIn_block (wpIn_mono (hc _ _ _ _ _ _ _ _ hx hok B h0 I0 foot ro D0 n0 a w hro hs) ?_);rintro e a1 w1 ⟨rfl,hs1⟩
    simp only[Z5V,Exit.inBlock]
    by_cases hj:j=id
    ·subst hj
     rw[Z0R] at h1;have h2:some (Ex.normal,fr1,m1)=some (ex,fr',m'):=h1;cases h2;rw[if_pos rfl];exact⟨rfl,hs1⟩
    ·rw[Z0I hj] at h1
     have h2:some (Ex.exit j,fr1,m1)=some (ex,fr',m'):=h1;cases h2;rw[if_neg hj];exact⟨rfl,hs1⟩
   ·rename_i hno
    refine wpIn_block (wpIn_mono (hc _ _ _ _ _ _ _ _ h1 hok B h0 I0 foot ro D0 n0 a w hro hs) ?_);rintro e a1 w1 ⟨rfl,hs1⟩
    cases ex with
    | exit j=>exact(hno j fr' m' h1).elim
    | normal=>exact⟨rfl,hs1⟩
    | goto l=>exact⟨rfl,hs1⟩
    | ret=>exact⟨rfl,hs1⟩
  | cond x c1 c2=>
   simp only[okC,Bool.and_eq_true] at hok;simp only[Zkn] at h1
   split at h1
   ·rename_i b hx
    refine wpIn_cond (hs.eval hx) ?_
    cases b with
    | true=>exact hc _ _ _ _ _ _ _ _ h1 hok.1 B h0 I0 foot ro D0 n0 a w hro hs
    | false=>exact hc _ _ _ _ _ _ _ _ h1 hok.2 B h0 I0 foot ro D0 n0 a w hro hs
   ·cases h1
  | loop c=>
   simp only[okC] at hok
   let J (k:Nat) (a:Act) (w:World):Prop:=k≤f+1∧∃ fr1 m1,Z1j Y k top n (.loop c) fr1 m1=some (ex,fr',m')∧St (RkX Y n B h0 I0 foot ro) Y.G Y.pr D0 n0 fr1 m1 a w
   refine Z2a J (m:=f+1) ⟨Nat.le_refl _,fr,m,h,hs⟩ ?_;rintro k a1 w1 ⟨hk,fr1,m1,h2,hs1⟩
   cases k with
   | zero=>cases h2
   | succ k=>
    have hck:=ih k (by omega);have h3:ZaQ (Z1j Y k top n c fr1 m1) (Z1j Y k top n (.loop c))=some (ex,fr',m'):=h2
    simp only[ZaQ] at h3
    split at h3
    ·rename_i fr2 m2 hx
     refine wpIn_mono (hck _ _ _ _ _ _ _ _ hx hok B h0 I0 foot ro D0 n0 a1 w1 hro hs1) ?_;rintro e a2 w2 ⟨rfl,hs2⟩;exact⟨k,Nat.lt_succ_self k,by omega,fr2,m2,h3,hs2⟩
    ·rename_i hno
     refine wpIn_mono (hck _ _ _ _ _ _ _ _ h3 hok B h0 I0 foot ro D0 n0 a1 w1 hro hs1) ?_;rintro e a2 w2 ⟨rfl,hs2⟩
     exact Z7I ⟨rfl,hs2⟩ fun e=>hno fr' m' (by rw[h3,e])
  | region id ops dr=>
   cases dr with
   | false=>
    simp only[Zj8] at h1;obtain⟨⟨fr1,m1⟩,hx,h2⟩:=Z07 h1;cases h2;refine wpIn_region ?_;have:=Z9I (X:=RkX Y n B h0 I0 foot ro) (G:=Y.G) (pr:=Y.pr) (D0:=D0) (n0:=n0) hE hesc hcall ops (fun e a w=>e=Z5V .normal∧St (RkX Y n B h0 I0 foot ro) Y.G Y.pr D0 n0 fr1 m1 a w) (fun a w h=>⟨rfl,h⟩) ops.toList 0 (by simp) (Z3L hok) hx hs;have h9:wpOpsIn (fen (RkX Y n B h0 I0 foot ro)) 0 Y.P ops (fun e a w=>e=Z5V .normal∧St (RkX Y n B h0 I0 foot ro) Y.G Y.pr D0 n0 fr1 m1 a w) (List.range' 0 ops.toList.length) a w:=this;rw[List.range_eq_range']
    simpa using h9
   | true=>
    simp only[Zj8] at h1;obtain⟨⟨fr1,m1⟩,hx,h2⟩:=Z07 h1;cases h2;exact Zf4 (X:=RkX Y n B h0 I0 foot ro) (G:=Y.G) (pr:=Y.pr) (D0:=D0) (n0:=n0) hE hesc hcall hmx hok hx (fun a w h=>⟨rfl,h⟩) hs
  | scope c=>
   simp only[okC] at hok
   have step:∀ (k:Nat) (x:Code) (fr1:Tri EV) (m1:Me) (a1:Act) (w1:World),okC n x=true->Z7v (Z1j Y f) top n c (k+1) x fr1 m1=some (ex,fr',m')->St (RkX Y n B h0 I0 foot ro) Y.G Y.pr D0 n0 fr1 m1 a1 w1 ->
     x.wpIn (fen (RkX Y n B h0 I0 foot ro)) 0 Y.P (fun e a' w'=>match e with
      | .goto l=>∃ rest fr2 m2,findLabel c l=some rest∧Z7v (Z1j Y f) top n c k rest fr2 m2=some (ex,fr',m')∧St (RkX Y n B h0 I0 foot ro) Y.G Y.pr D0 n0 fr2 m2 a' w'
      | e=>e=Z5V ex∧St (RkX Y n B h0 I0 foot ro) Y.G Y.pr D0 n0 fr' m' a' w') a1 w1:=fun k x fr1 m1 a1 w1 hx h2 hs1=>by
    have h3:(match Z1j Y f top n x fr1 m1 with
     | some (.goto l,fr,m)=>opn (findLabel c l) none fun rest=>Z7v (Z1j Y f) top n c k rest fr m
     | r=>r)=some (ex,fr',m'):=h2
    split at h3
    ·rename_i l fr2 m2 he
     obtain⟨rest,hrest,h4⟩:=Z07 h3;refine wpIn_mono (hc _ _ _ _ _ _ _ _ he hx B h0 I0 foot ro D0 n0 a1 w1 hro hs1) ?_;rintro e a2 w2 ⟨rfl,hs2⟩;exact⟨rest,fr2,m2,hrest,h4,hs2⟩
    ·rename_i hno
     refine wpIn_mono (hc _ _ _ _ _ _ _ _ h3 hx B h0 I0 foot ro D0 n0 a1 w1 hro hs1) ?_;rintro e a2 w2 ⟨rfl,hs2⟩
     cases ex with
     | goto l=>exact(hno l fr' m' h3).elim
     | exit j=>exact⟨rfl,hs2⟩
     | normal=>exact⟨rfl,hs2⟩
     | ret=>exact⟨rfl,hs2⟩
   let J (l k:Nat) (a:Act) (w:World):Prop:=∃ rest fr1 m1,findLabel c l=some rest∧Z7v (Z1j Y f) top n c k rest fr1 m1=some (ex,fr',m')∧St (RkX Y n B h0 I0 foot ro) Y.G Y.pr D0 n0 fr1 m1 a w
   cases f with
   | zero=>cases h1
   | succ f'=>
    refine Z42 J (wpIn_mono (step f' c fr m a w hok h1 hs) ?_) ?_
    ·intro e a1 w1 he
     cases e with
     | goto l=>exact⟨f',he⟩
     | _=>exact he
    ·rintro l k a1 w1 ⟨rest,fr1,m1,hrest,h2,hs1⟩
     cases k with
     | zero=>cases h2
     | succ k=>
      refine⟨rest,hrest,wpIn_mono (step k rest fr1 m1 a1 w1 (Z7G hok hrest) h2 hs1) ?_⟩;intro e a2 w2 he
      cases e with
      | goto l'=>exact⟨k,Nat.lt_succ_self k,he⟩
      | _=>exact he
  | rangeFunc x ps asg body=>exact Zjq hE hF hpr hc h1 hok hro hs
theorem Zkx (hE:EOK Y.P Y.E) (hF:Z4c Y.P) (hpr:Z4W Y) (hmx:Y.P.follows .mixedOrders=true) {f g:Nat} {args:List EV} {m m':Me} {v:EV} (h:Z9A Y (Z1j Y f) g args m=some (v,m')) {D:Nm} {I:GH} {M:List Blk} {us:List Value} (hu:VRs D args us) (hm:MS Y D m I M) :
  Spec Y.P g us I M fun r I' M'=>∃ D',D.ext D' m.n∧VR D' v r∧MS Y D' m' I' M':=
 ZdR hE hF hpr (ZlP hE hF hpr hmx f f (Nat.le_refl _)) h hu hm
end
theorem ZaZ {I I':GH} {M M':List Blk} {w w':World} (h:Holds I M w) (h1:Holds I' M' w') (h2:Kept I [] w I' M' w') :
  Holds I' (M'++M) w'∧Kept I M w I' (M'++M) w'∧∀ x∈M',∀ y∈M,x.num≠y.num:=by
 have hlt:∀ x∈M,x.num < w.heap.size:=fun x hx=>(Array.getElem?_eq_some_iff.1 (h.m x hx)).1
 have hge:∀ x∈M',w.heap.size≤x.num:=fun x hx=>by
  rcases h2.newM x hx with ⟨y,hy,_⟩ | h
  ·cases hy
  ·exact h
 have hne:∀ x∈M',∀ y∈M,x.num≠y.num:=fun x hx y hy e=>by
  have:=hlt y hy;have:=hge x hx;omega
 refine⟨⟨h1.i,fun x hx=>?_,fun x hx=>?_,?_⟩,⟨h2.le,h2.newI,fun x hx=>?_,fun b hb _=>h2.old b hb (by simp),h2.out,h2.sz⟩,hne⟩
 ·rcases List.mem_append.1 hx with hx | hx
  ·exact h1.m x hx
  ·rw[h2.old x.num (hlt x hx) (by simp)]
   exact h.m x hx
 ·rcases List.mem_append.1 hx with hx | hx
  ·exact h1.d x hx
  ·cases he:I' x.num with
   | none=>rfl
   | some o=>
    rcases h2.newI _ _ he with h3 | h3
    ·rw[h.d x hx] at h3
     cases h3
    ·have:=hlt x hx
     omega
 ·rw[List.map_append,List.nodup_append]
  refine⟨h1.nd,h.nd,fun a ha b hb e=>?_⟩;obtain⟨x,hx,rfl⟩:=List.mem_map.1 ha
  obtain⟨y,hy,rfl⟩:=List.mem_map.1 hb;exact hne x hx y hy e
 ·rcases List.mem_append.1 hx with hx | hx
  ·exact .inr (hge x hx)
  ·exact .inl ⟨x,hx,rfl⟩
theorem Spec.frame {P:Program} {f:Nat} {args:List Value} {I:GH} {M:List Blk} {Q:Value->GH->List Blk->Prop} (h:Spec P f args I [] Q):Spec P f args I M fun r I' M''=>∃ M',M''=M'++M∧(∀ x∈M',∀ y∈M,x.num≠y.num)∧(∀ b o,I b=some o->I' b=some o)∧Q r I' M':=by
 have h0:∀ {w:World},Holds I M w->Holds I [] w:=fun hw=>⟨hw.i,by simp,by simp,by simp⟩
 rcases h with ⟨h1,h2⟩ | h
 ·refine .inl ⟨h1,fun w hw=>?_⟩
  refine(h2 w (h0 hw)).mono ?_;rintro e w' ⟨v,I',M',e1,e2,e3,e4⟩;obtain⟨g1,g2,g3⟩:=ZaZ hw e3 e4
  exact⟨v,I',M'++M,e1,⟨M',rfl,g3,e4.le,e2⟩,g1,g2⟩
 ·refine .inr fun w hw=>?_
  obtain⟨v,w',I',M',e1,e2,e3,e4⟩:=h w (h0 hw);obtain⟨g1,g2,g3⟩:=ZaZ hw e3 e4
  exact⟨v,w',I',M'++M,e1,⟨M',rfl,g3,e4.le,e2⟩,g1,g2⟩
mutual
def shV (k:Nat):EV->EV
 | .p id off=>.p (Nat.add id k) off
 | .sl id off n c=>.sl (Nat.add id k) off n c
 | .sx id off e n=>.sx (Nat.add id k) off e n
 | .m id=>.m (Nat.add id k)
 | .y id=>.y (Nat.add id k)
 | .f g l r=>.f g (Zcr k l) (Zcr k r)
 | .iv t v=>.iv t (shV k v)
 | .t l=>.t (Zcr k l)
 | .a l=>.a (Zcr k l)
 | .b x=>.b x
 | .i a n=>.i a n
 | .s l=>.s l
 | .pn=>.pn
 | .g n off=>.g n off
 | .sn=>.sn
 | .gs n off a c=>.gs n off a c
 | .so=>.so
 | .mn=>.mn
 | .fn=>.fn
 | .ni=>.ni
def Zcr (k:Nat):List EV->List EV
 | []=>[]
 | v::l=>shV k v::Zcr k l
end
section
mutual
theorem Z8P {D0 D:Nm} {k:Nat} (hD:∀ id a,D0 id=some a->D (Nat.add id k)=some a):∀ (v:EV) {u:Value},VR D0 v u->VR D (shV k v) u
 | .p id off,u,h=>by
  simp only[VR,shV] at h ⊢;obtain⟨a,ha,h⟩:=h
  exact⟨a,hD _ _ ha,h⟩
 | .sl id off n c,u,h=>by
  simp only[VR,shV] at h ⊢;obtain⟨a,ha,h⟩:=h
  exact⟨a,hD _ _ ha,h⟩
 | .sx id off e n,u,h=>by
  simp only[VR,shV] at h ⊢;obtain⟨a,ha,h⟩:=h
  exact⟨a,hD _ _ ha,h⟩
 | .m id,u,h=>by
  simp only[VR,shV] at h ⊢;obtain⟨a,ha,h⟩:=h
  exact⟨a,hD _ _ ha,h⟩
 | .y id,u,h=>by
  simp only[VR,shV] at h ⊢;obtain⟨a,ha,h⟩:=h
  exact⟨a,hD _ _ ha,h⟩
 | .f g l r,u,h=>by
  simp only[VR,shV] at h ⊢;obtain⟨vs,ws,h1,h2,h⟩:=h
  exact⟨vs,ws,Z7J hD l h1,Z7J hD r h2,h⟩
 | .iv t v,u,h=>by
  simp only[VR,shV] at h ⊢;obtain⟨x,h1,h⟩:=h
  exact⟨x,Z8P hD v h1,h⟩
 | .t l,u,h=>by
  simp only[VR,shV] at h ⊢;obtain⟨x,h1,h⟩:=h
  exact⟨x,Z7J hD l h1,h⟩
 | .a l,u,h=>by
  simp only[VR,shV] at h ⊢;obtain⟨x,h1,h⟩:=h
  exact⟨x,Z7J hD l h1,h⟩
 | .b x,u,h=>by simpa only[VR,shV] using h
 | .i a n,u,h=>by simpa only[VR,shV] using h
 | .s l,u,h=>by simpa only[VR,shV] using h
 | .pn,u,h=>by simpa only[VR,shV] using h
 | .g n off,u,h=>by simpa only[VR,shV] using h
 | .sn,u,h=>by simpa only[VR,shV] using h
 | .gs n off a c,u,h=>by simpa only[VR,shV] using h
 | .so,u,h=>by simpa only[VR,shV] using h
 | .mn,u,h=>by simpa only[VR,shV] using h
 | .fn,u,h=>by simpa only[VR,shV] using h
 | .ni,u,h=>by simpa only[VR,shV] using h
theorem Z7J {D0 D:Nm} {k:Nat} (hD:∀ id a,D0 id=some a->D (Nat.add id k)=some a):∀ (l:List EV) {us:List Value},VRs D0 l us->VRs D (Zcr k l) us
 | [],us,h=>by simpa only[VRs,Zcr] using h
 | v::l,us,h=>by
  simp only[VRs,Zcr] at h ⊢;obtain⟨x,xs,h1,h2,h⟩:=h
  exact⟨x,xs,Z8P hD v h1,Z7J hD l h2,h⟩
end
end
inductive SE where
 | cells (l:List EV) (T:Nat)
 | map (es:List (EV×EV))
noncomputable def Z7K:Ent->Option SE
 | .cells cs T lim=>cs.manyK 0 lim fun l=>some (.cells l T)
 | .map es=>some (.map es)
 | _=>none
noncomputable def Z7L (t:Tri Ent):Nat->Nat->Option (List SE)
 | _,0=>some []
 | id,n+1=>opn (t.get id) none fun e=>opn (Z7K e) none fun s=>opn (Z7L t (Nat.add id 1) n) none fun l=>some (s::l)
def shP (k:Nat):List (EV×EV)->List (EV×EV)
 | []=>[]
 | p::l=>(shV k p.1,shV k p.2)::shP k l
noncomputable def SE.ent (k:Nat):SE->Ent
 | .cells l T=>Tri.putsK (Zcr k l) .nil 0 fun cs=>.cells cs T l.length
 | .map es=>.map (shP k es)
noncomputable def Zjr {R:Type} (k:Nat):List SE->Nat->Tri Ent->(Tri Ent->R)->R
 | [],_,t,K=>K t
 | s::l,id,t,K=>t.setK (some (s.ent k)) id fun t=>Zjr k l (Nat.add id 1) t K
noncomputable def Zon (v:EV) (L:List SE) (m:Me):Option (EV×Me):=Z2D m.n fun n=>Z2D (Nat.add n L.length) fun n'=>Zjr n L n m.t fun t=>some (shV n v,⟨t,n'⟩)
theorem Z8Q {t:Tri Ent}:∀ {n id:Nat} {L:List SE},Z7L t id n=some L->L.length=n∧∀ j s,L[j]?=some s->∃ e,t.get (id+j)=some e∧Z7K e=some s
 | 0,id,L,h=>by
  cases h;exact⟨rfl,by simp⟩
 | n+1,id,L,h=>by
  unfold Z7L at h;obtain⟨e,h1,h⟩:=Z07 h;obtain⟨s,h2,h⟩:=Z07 h;obtain⟨l,h3,h⟩:=Z07 h;cases h;obtain⟨g1,g2⟩:=Z8Q h3;refine⟨by simp[g1],fun j s' hj=>?_⟩
  cases j with
  | zero=>
   cases hj;exact⟨e,h1,h2⟩
  | succ j=>
   obtain⟨e',k1,k2⟩:=g2 j s' (by simpa using hj);refine⟨e',?_,k2⟩
   rw[←k1]
   congr 1
   show id+(j+1)=id+1+j
   omega
theorem ZdS (k:Nat):∀ (L:List SE) (id:Nat) (t:Tri Ent),∃ t':Tri Ent,(∀ {R:Type} (K:Tri Ent->R),Zjr k L id t K=K t') ∧
  ∀ j e,t'.get j=some e->(id≤j∧∃ s,L[j - id]?=some s∧e=s.ent k)∨((j < id∨id+L.length≤j)∧t.get j=some e)
 | [],id,t=>⟨t,fun K=>rfl,fun j e h=>.inr ⟨by simp;omega,h⟩⟩
 | s::L,id,t=>by
  obtain⟨t1,h1,h2⟩:=Tri.set_ok (some (s.ent k)) t id;obtain⟨t',h3,h4⟩:=ZdS k L (id+1) t1;refine⟨t',fun K=>?_,fun j e h=>?_⟩
  ·unfold Zjr
   rw[h1];exact h3 K
  ·rcases h4 j e h with ⟨g1,s',g2,g3⟩ | ⟨g1,g2⟩
   ·refine .inl ⟨by omega,s',?_,g3⟩
    rw[show j - id=(j - (id+1))+1 by omega]
    simpa using g2
   ·rcases h2 j e g2 with ⟨rfl,g3⟩ | ⟨g3,g4⟩
    ·refine .inl ⟨Nat.le_refl _,s,by simp,?_⟩
     cases g3;rfl
    ·refine .inr ⟨?_,g4⟩
     simp only[List.length_cons];omega
theorem Zng {D0 D:Nm} {k:Nat} (hD:∀ id a,D0 id=some a->D (Nat.add id k)=some a) {es:List (EV×EV)} {l:List MapEntry} (h:MpR D0 es l):MpR D (shP k es) l:=by
 induction h with
 | nil=>exact .nil
 | cons hk hv t ih=>exact .cons (Z8P hD _ hk) (Z8P hD _ hv) ih
theorem ZdT {k:Nat}:∀ {l:List EV} {i:Nat} {v:EV},(Zcr k l)[i]?=some v->∃ v0,l[i]?=some v0∧v=shV k v0
 | [],i,v,h=>by simp[Zcr] at h
 | x::l,0,v,h=>by
  simp only[Zcr,List.getElem?_cons_zero,Option.some.injEq] at h;exact⟨x,rfl,h.symm⟩
 | x::l,i+1,v,h=>by
  simp only[Zcr,List.getElem?_cons_succ] at h
  simpa using ZdT h
theorem Znh {D0 D:Nm} {k:Nat} (hD:∀ id a,D0 id=some a->D (Nat.add id k)=some a) {E:Env} {M M':List Blk} (hM:∀ x∈M,x∈M') {a:Loc} {e:Ent} {s:SE} (h:EntR D0 E M a e) (hr:Z7K e=some s):EntR D E M' a (s.ent k):=by
 cases h with
 | @cells cs T lim arr h0 h1 h2 h3 h4 h5=>
  unfold Z7K at hr;obtain⟨l,g1,g2,g3⟩:=Tri.many_ok cs lim 0 _ _ hr;cases g3;obtain⟨t',k1,k2⟩:=Tri.puts_ok (Zcr k l) (.nil:Tri EV) 0
  show EntR D E M' a (Tri.putsK (Zcr k l) .nil 0 fun cs=>Ent.cells cs T l.length)
  rw[k1,g1];refine .cells arr h0 (hM _ h1) h2 (fun i v hi hg=>?_) h4 h5
  rcases k2 i v hg with ⟨_,h⟩ | ⟨_,h⟩
  ·obtain⟨v0,e1,rfl⟩:=ZdT (by simpa using h)
   have:=g2 i hi;rw[Nat.zero_add,e1] at this;obtain⟨x,f1,f2⟩:=h3 i v0 hi this;exact⟨x,f1,Z8P hD _ f2⟩
  ·cases h
 | map l clock h1 h2=>
  cases hr;exact .map l clock (hM _ h1) (Zng hD h2)
 | loop L h1 h2=>cases hr
 | done L h1 h2 h3=>cases hr
theorem ZlQ {Y:RK} (hE:EOK Y.P Y.E) (hF:Z4c Y.P) (hmx:Y.P.follows .mixedOrders=true) {f g:Nat} {args:List EV} {m0:Me} {v0:EV} {L:List SE}
  (h0:Z9A ⟨Y.P,Y.E,fun _=>none,fun _ _ _=>none⟩ (Z1j ⟨Y.P,Y.E,fun _=>none,fun _ _ _=>none⟩ f) g args ⟨.nil,0⟩=some (v0,m0)) (hL:Z7L m0.t 0 m0.n=some L)
  (hcl:∀ D us,VRs D args us->VRs (fun _=>none) args us) {m m':Me} {v:EV} (h:Zon v0 L m=some (v,m')) {D:Nm} {I:GH} {M:List Blk} {us:List Value} (hu:VRs D args us) (hm:MS Y D m I M) :
  Spec Y.P g us I M fun r I' M'=>∃ D',D.ext D' m.n∧VR D' v r∧MS Y D' m' I' M':=by
 have hpr:Z4W ⟨Y.P,Y.E,fun _=>none,fun _ _ _=>none⟩:=fun g vs m v m' h=>by cases h
 have hm0:MS ⟨Y.P,Y.E,fun _=>none,fun _ _ _=>none⟩ (fun _=>none) ⟨.nil,0⟩ I []:=⟨fun id e a h h'=>(by cases h'),fun id id' e e' a a' h h1 h'=>(by cases h'),fun id a h=>(by cases h),fun g cs h=>(by cases h)⟩;have hs:=(Zkx (Y:=⟨Y.P,Y.E,fun _=>none,fun _ _ _=>none⟩) hE hF hpr hmx h0 (hcl D us hu) hm0).frame (M:=M)
 refine Spec.weakK hs ?_;rintro r I' M'' ⟨M0,rfl,hne,hle,D0,-,hv,hs0⟩;unfold Zon at h
 rw[Z7w,Z7w] at h;obtain⟨t',h1,h2⟩:=ZdS m.n L m.n m.t;rw[h1] at h;cases h;obtain⟨g1,g2⟩:=Z8Q hL
 let D':Nm:=fun id=>if id < m.n then D id else D0 (id - m.n)
 have hD:∀ id a,D0 id=some a->D' (Nat.add id m.n)=some a:=fun id a ha=>by
  show (if id+m.n < m.n then D (id+m.n) else D0 (id+m.n - m.n))=some a
  rw[if_neg (by omega),Nat.add_sub_cancel,ha]
 have hle':D.le D':=fun id a ha=>by
  show (if id < m.n then D id else D0 (id - m.n))=some a
  rw[if_pos (hm.dom _ _ ha),ha]
 have lo:∀ id,id < m.n->D' id=D id:=fun id hi=>if_pos hi
 have hi':∀ id,m.n≤id->D' id=D0 (id - m.n):=fun id hi=>if_neg (by omega)
 have src:∀ id e a,t'.get id=some e->D' id=some a->(m.n≤id∧∃ s e0,e=s.ent m.n∧m0.t.get (id - m.n)=some e0∧Z7K e0=some s∧D0 (id - m.n)=some a)∨(id < m.n∧m.t.get id=some e∧D id=some a):=fun id e a he ha=>by
  rcases h2 id e he with ⟨k1,s,k2,k3⟩ | ⟨k1,k2⟩
  ·obtain⟨e0,k4,k5⟩:=g2 _ _ k2
   rw[Nat.zero_add] at k4;rw[hi' _ k1] at ha;exact .inl ⟨k1,s,e0,k3,k4,k5,ha⟩
  ·rcases Nat.lt_or_ge id m.n with hlt | hge
   ·rw[lo _ hlt] at ha
    exact .inr ⟨hlt,k2,ha⟩
   ·rw[hi' _ hge] at ha
    have:=hs0.dom _ _ ha;omega
 refine⟨D',fun id hi=>lo id hi,Z8P hD _ hv,⟨fun id e a he ha=>?_,fun id id' e e' a a' he he' ha ha' hb=>?_,fun id a ha=>?_,hm.glo.mono hle⟩⟩
 ·rcases src id e a he ha with ⟨k1,s,e0,rfl,k2,k3,k4⟩ | ⟨k1,k2,k3⟩
  ·exact Znh hD (fun x hx=>List.mem_append_left _ hx) (hs0.ent _ _ _ k2 k4) k3
  ·exact(hm.ent _ _ _ k2 k3).mono hle' fun x hx _=>List.mem_append_right _ hx
 ·rcases src id e a he ha with ⟨k1,s,e0,rfl,k2,k3,k4⟩ | ⟨k1,k2,k3⟩
  ·rcases src id' e' a' he' ha' with ⟨j1,s',e0',rfl,j2,j3,j4⟩ | ⟨j1,j2,j3⟩
   ·have:=hs0.inj _ _ _ _ _ _ k2 j2 k4 j4 hb
    omega
   ·obtain⟨x,hx,hxn⟩:=hs0.blk k2 k4
    obtain⟨y,hy,hyn⟩:=hm.blk j2 j3;exact(hne x hx y hy (hxn.trans (hb.trans hyn.symm))).elim
  ·rcases src id' e' a' he' ha' with ⟨j1,s',e0',rfl,j2,j3,j4⟩ | ⟨j1,j2,j3⟩
   ·obtain⟨x,hx,hxn⟩:=hs0.blk j2 j4
    obtain⟨y,hy,hyn⟩:=hm.blk k2 k3;exact(hne x hx y hy (hxn.trans (hb.symm.trans hyn.symm))).elim
   ·exact hm.inj _ _ _ _ _ _ k2 j2 k3 j3 hb
 ·show id < m.n+L.length
  rcases Nat.lt_or_ge id m.n with hlt | hge
  ·omega
  ·rw[hi' _ hge] at ha
   have:=hs0.dom _ _ ha;omega
open Go Go.Proofs
theorem Zhy (k:Nat):liesAt Tryz.prog Tryz.prog.depth 225 ((k+1) * 2 / Tryz.prog.cellsOf 225) 0 225 1=true:=by
 have h2:Tryz.prog.cellsOf 225=2:=by kernel_rfl
 have hd:Tryz.prog.depth=(Tryz.prog.depth - 1)+1:=by kernel_rfl
 have hsl:sameLayout Tryz.prog Tryz.prog.depth 225 225=true:=by kernel_rfl
 have hr:rowAt Tryz.prog (sameLayout Tryz.prog Tryz.prog.depth · 225) Tryz.prog.depth 225 (k+1) 0 1=true:=by
  generalize hf:(sameLayout Tryz.prog Tryz.prog.depth · 225)=f
  have hf':f 225=true:=by rw[←hf];exact hsl
  rw[hd];unfold rowAt
  simp only[h2,hf'];simp
 rw[h2,Nat.mul_div_cancel _ (by decide:0 < 2)];rw[hd]
 unfold liesAt;rw[hr];rfl
theorem Zf5 {I:GH} (pre post:List Blk) (b:Nat) (v:Value) (k:Nat) (rest:List Value) (hr:rest.length=2 * k) :
  Spec Tryz.prog 210 [ptr b] I (pre++⟨b,.cells (.pointer none::v::rest).toArray 225 (0,0)⟩::post) fun r I' M'=>r=.tuple #[]∧I'=I∧M'=pre++⟨b,.cells (Z05 (.pointer none::v::rest) 0 [ptr b]).toArray 225 (0,0)⟩::post:=by
 obtain⟨inf,z,hi,hi1,_⟩:=(Z00 225 _ rfl).inf;refine Z01 [] Z00 Tryz.func210 rfl rfl rfl ?_;intro B h0
 have hm:∀ {o:Obj},(⟨b,o⟩:Blk)∈pre++⟨b,o⟩::post:=fun {o}=>List.mem_append.2 (.inr (.head _))
 have hsz:(Value.pointer none::v::rest).toArray.size=(k+1) * 2:=by
  simp[hr];omega
 have hl:liesAt Tryz.prog Tryz.prog.depth 225 ((Value.pointer none::v::rest).toArray.size / Tryz.prog.cellsOf 225) 0 225 1=true:=by
  rw[hsz];exact Zhy k
 refine LoadOb.mk [.pointer none] (Z0d (cs:=.pointer none::v::rest) (k:=0) (n:=1) (T:=225) hm (by simp)) ?_;refine .other (OtherOb.eqNil Z00 rfl (by simp) rfl rfl rfl rfl ?_);refine CondOb.mk (fun _=>?_) (fun h=>by cases h)
 refine OtherOb.conv rfl (by simp) rfl (fun w hw=>Lib.run_to_unsafe (t:=225) (e:=225) w ⟨b,0,none⟩ (by kernel_rfl) (by kernel_rfl) (j:=inf) (cells:=(Value.pointer none::v::rest).toArray.size) hi (by rw[hi1];decide) (Z6g hw hm) (by rw[hsz];show 0 < _;omega)) ?_;refine CallOb.mk (pre++⟨b,.cells (.pointer none::v::rest).toArray 225 (0,0)⟩::post) [] _ (by simp) (Z32 _) ?_;rintro v I' M' - ⟨rfl,rfl,rfl⟩;refine OtherOb.conv rfl (by simp) rfl (fun w hw=>Lib.run_from_unsafe (u:=225) (e:=225) w ⟨b,0,none⟩ (by kernel_rfl) (by kernel_rfl) (j:=inf) (cells:=(Value.pointer none::v::rest).toArray.size) hi (Z6g hw (List.mem_append.2 (.inl hm))) hl) ?_
 refine StoreOb.mk pre post _ _ (List.append_nil _) rfl (by rw[hsz];show 0+0+1≤(k+1) * 2;omega) rfl ?_;exact⟨_,_,.refl,rfl,rfl,rfl⟩
theorem Zf6 {I:GH} {M:List Blk} {b:Nat} {arr:Array Value} {T:Nat} (hM:(⟨b,.cells arr T (0,0)⟩:Blk)∈M) (h0:arr[0]?=some (ptr b)) :
  Spec Tryz.prog 210 [ptr b] I M fun r I' M'=>r=.tuple #[]∧I'=I∧M'=M:=by
 refine Z01 [] Z00 Tryz.func210 rfl rfl rfl ?_;intro B h0'
 have hr:Rd I M ((⟨b,0,none⟩:Addr).add 0) 1 [ptr b]:=by
  obtain⟨l⟩:=arr
  cases l with
  | nil=>simp at h0
  | cons x l=>
   simp only[List.getElem?_toArray,List.getElem?_cons_zero,Option.some.injEq] at h0;subst h0;exact Z0d (cs:=ptr b::l) (k:=0) (n:=1) hM (by simp)
 refine LoadOb.mk [ptr b] hr ?_;refine .other (OtherOb.eqNil Z00 rfl (by simp) rfl rfl rfl rfl ?_);refine CondOb.mk (fun h=>by cases h) (fun _=>?_)
 refine LoadOb.mk [ptr b] hr ?_;refine .other (OtherOb.neSame Z00 rfl (by simp) rfl rfl rfl rfl rfl ?_);refine CondOb.mk (fun h=>by cases h) (fun _=>?_)
 exact⟨_,_,.refl,rfl,rfl,rfl⟩
theorem Zjs {Y:RK} {D:Nm} {m:Me} {I:GH} {M:List Blk} {R:Type} {id off:Nat} {cs:Tri EV} {T lim:Nat} {a:Loc} {arr:Array Value} {pre post:List Blk} (hm:MS Y D m I M) (hg:m.t.get id=some (.cells cs T lim)) (ha:D id=some a)
  (ho:a.o=0) (hsp:M=pre++⟨a.b,.cells arr T (0,0)⟩::post) (hsz:a.o+lim≤arr.size) (hc:∀ i v,i < lim->cs.get i=some v->∃ x,arr[a.o+i]?=some x∧VR D v x) (hk:∀ i,Y.E T=some i->arr.size=a.o+a.c * i.size) (hmx:a.c≤maxLen)
  {l:List EV} {vs:List Value} (hl:VRs D l vs) {K:Me->Option R} {r:R} (h:Z4R m (.p id off) l K=some r) :
  ∃ m',K m'=some r∧m'.n=m.n∧off+vs.length≤arr.size∧MS Y D m' I (pre++⟨a.b,.cells (Z05 arr.toList off vs).toArray T (0,0)⟩::post):=by
 unfold Z4R at h;simp only[hg] at h
 cases hb:(Nat.ble (Nat.add off l.length) lim && l.all EV.one) with
 | false=>rw[hb] at h;cases h
 | true=>
  rw[hb] at h;simp only[cond_true] at h;rw[Bool.and_eq_true] at hb;have hlim:off+l.length≤lim:=Nat.le_of_ble_eq_true hb.1;obtain⟨cs',h1,h2⟩:=Tri.puts_ok l cs off;rw[h1] at h;obtain⟨t',h3,h4⟩:=Tri.set_ok (some (Ent.cells cs' T lim)) m.t id;rw[h3] at h;have hlen:=hl.len
  have hfit:off+vs.length≤arr.size:=by omega
  refine⟨_,h,rfl,hfit,?_⟩
  have hnew:∀ x∈M,x.num≠a.b->x∈pre++⟨a.b,.cells (Z05 arr.toList off vs).toArray T (0,0)⟩::post:=fun x hx hn=>by
   rw[hsp] at hx
   rcases List.mem_append.1 hx with hx | hx
   ·exact List.mem_append.2 (.inl hx)
   ·rcases List.mem_cons.1 hx with rfl | hx
    ·exact(hn rfl).elim
    ·exact List.mem_append.2 (.inr (List.mem_cons_of_mem _ hx))
  refine hm.step (fun i e hi=>(h4 i e hi).imp (fun q=>⟨q.1,Z0F q.2⟩) fun q=>q) ha (Nm.le_refl D) (fun _ _=>rfl) hm.dom (fun _ _ h=>h) (fun i e a' hne hi hai x hx hn=>hnew x hx ?_) ?_ ?_
  ·rw[hn]
   exact fun hb=>hne (hm.inj _ _ _ _ _ _ hi hg hai ha hb)
  ·have hls:(Z05 arr.toList off vs).length=arr.size:=by rw[Z5s (by simpa using hfit)];simp
   refine .cells (Z05 arr.toList off vs).toArray ho (by simp) (by simp[hls];exact hsz) (fun i v hi hgi=>?_) (fun i hi=>by simp[hls];exact hk i hi) hmx;rw[ho,Nat.zero_add];simp only[List.getElem?_toArray]
   rw[Z8M (by simpa using hfit)]
   rcases h2 i v hgi with ⟨g1,g2⟩ | ⟨g1,g2⟩
   ·have hlt:=(List.getElem?_eq_some_iff.1 g2).1
    rw[if_pos ⟨g1,by omega⟩];exact hl.get g2
   ·rw[if_neg (by omega)]
    have:=hc i v hi g2;rw[ho,Nat.zero_add] at this
    simpa using this
  ·intro i e a' hne hi hai hb
   exact hne (hm.inj _ _ _ _ _ _ hi hg hai ha hb)
noncomputable def ccE (m:Me) (vs:List EV):Option (EV×Me):=match vs with
 | [.p id 0]=>(match m.t.get id with
  | some (.cells cs T lim)=>cnd (Nat.beq T 225 && Nat.ble 2 lim) (match cs.get 0 with
   | some .pn=>Z4R m (.p id 0) [.p id 0] fun m=>some (.t [],m)
   | some (.p id' 0)=>cnd (Nat.beq id id') (some (.t [],m)) none
   | _=>none) none
  | _=>none)
 | _=>none
theorem Zoo {Y:RK} (hY:Y.P=Tryz.prog) (hYE:Y.E=Z2L) {m m':Me} {vs:List EV} {v:EV} (h:ccE m vs=some (v,m')) {D:Nm} {I:GH} {M:List Blk} {us:List Value} (hu:VRs D vs us) (hm:MS Y D m I M) :
  Spec Y.P 210 us I M fun r I' M'=>∃ D',D.ext D' m.n∧VR D' v r∧MS Y D' m' I' M':=by
 unfold ccE at h
 split at h
 ·rename_i id
  obtain⟨x,xs,hx,hn,rfl⟩:=hu.uncons;obtain rfl:=hn.unnil;obtain⟨a,ha,rfl⟩:=hx.ptr
  split at h
  ·rename_i cs T lim hg
   obtain⟨h1,hq⟩:=Z0b h;clear h;rw[Bool.and_eq_true] at h1;obtain⟨hT,hlim⟩:=h1;obtain rfl:=Nat.eq_of_beq_eq_true hT;have hlim:=Nat.le_of_ble_eq_true hlim;obtain⟨arr,ho,hM,hl,hc,hk,hmx⟩:=hm.ent _ _ _ hg ha;have hsz:=hk _ (by rw[hYE];rfl)
   have hsz:arr.size=a.c * 2:=by
    rw[hsz,ho,Nat.zero_add]
   have hp:Value.pointer (some ⟨a.b,a.o+0,none⟩)=ptr a.b:=by rw[ho];rfl
   split at hq
   ·rename_i hc0
    obtain⟨x0,hx0,hv0⟩:=hc 0 _ (by omega) hc0;obtain⟨pre,post,hsp⟩:=List.append_of_mem hM;obtain⟨m1,h2,h3,h4,h5⟩:=Zjs hm hg ha ho hsp hl hc hk hmx (l:=[.p id 0]) (vs:=[ptr a.b]) (by simp only[VRs,VR];exact⟨_,_,⟨a,ha,hp.symm⟩,rfl,rfl⟩) hq;cases h2;rw[hp,hY,hsp];obtain⟨l⟩:=arr
    have hx0':x0=.pointer none:=by simpa only[VR] using hv0
    rw[ho] at hx0
    match l,hx0,hsz with
    | [],hx0,_=>simp at hx0
    | [_],_,hsz=>simp at hsz;omega
    | y::w::rest,hx0,hsz=>
     have hy:y=.pointer none:=by simpa[hx0'] using hx0
     subst hy
     have hrl:rest.length=2 * (a.c - 1):=by simp at hsz;omega
     refine Spec.weakK (Zf5 pre post a.b w (a.c - 1) rest hrl) ?_;rintro r I' M' ⟨rfl,rfl,rfl⟩;exact⟨D,Nm.ext_refl,by simp only[VR,VRs];exact⟨[],rfl,rfl⟩,h5⟩
   ·rename_i id' hc0
    obtain⟨h2,hq2⟩:=Z0b hq;obtain rfl:=Nat.eq_of_beq_eq_true h2;cases hq2;obtain⟨x0,hx0,hv0⟩:=hc 0 _ (by omega) hc0;obtain⟨a',ha',rfl⟩:=hv0.ptr;rw[ha] at ha';cases ha';rw[hp] at hx0 ⊢;rw[hY]
    refine Spec.weakK (Zf6 hM (by rw[←hx0,ho])) ?_;rintro r I' M' ⟨rfl,rfl,rfl⟩;exact⟨D,Nm.ext_refl,by simp only[VR,VRs];exact⟨[],rfl,rfl⟩,hm⟩
   ·cases hq
  ·cases h
 ·cases h
def frz (I:GH):List Blk->GH
 | []=>I
 | x::l=>ins (frz I l) x.num x.obj
theorem Z4r {I:GH}:∀ {M:List Blk} {b:Nat} {o:Obj},frz I M b=some o->I b=some o∨∃ x∈M,x.num=b∧x.obj=o
 | [],b,o,h=>.inl h
 | x::l,b,o,h=>by
  unfold frz ins at h
  by_cases e:b=x.num
  ·subst e
   simp only[Z0R,cond_true,Option.some.injEq] at h;exact .inr ⟨x,by simp,rfl,h⟩
  ·simp only[Z0I e,cond_false] at h
   rcases Z4r h with h | ⟨y,h1,h2,h3⟩
   ·exact .inl h
   ·exact .inr ⟨y,by simp[h1],h2,h3⟩
theorem Zcs {I:GH}:∀ {M:List Blk} (hn:(M.map (·.num)).Nodup) {x:Blk},x∈M->frz I M x.num=some x.obj
 | y::l,hn,x,h=>by
  simp only[List.map_cons,List.nodup_cons] at hn
  rcases List.mem_cons.1 h with rfl | h
  ·unfold frz ins
   simp only[Z0R,cond_true]
  ·have e:x.num≠y.num:=fun e=>hn.1 (List.mem_map.2 ⟨x,h,e⟩)
   unfold frz ins;simp only[Z0I e,cond_false];exact Zcs hn.2 h
theorem ZdU {I:GH}:∀ {M:List Blk} (hd:∀ x∈M,I x.num=none) {b:Nat} {o:Obj},I b=some o->frz I M b=some o
 | [],hd,b,o,h=>h
 | y::l,hd,b,o,h=>by
  have e:b≠y.num:=fun e=>by
   have:=hd y (by simp);rw[←e,h] at this
   cases this
  unfold frz ins;simp only[Z0I e,cond_false];exact ZdU (fun x hx=>hd x (by simp[hx])) h
theorem Zky {I:GH} {M:List Blk} (hn:(M.map (·.num)).Nodup) (hd:∀ x∈M,I x.num=none) {b:Nat} {o:Obj} (h:Kn I M b o):frz I M b=some o:=by
 rcases h with h | ⟨x,h1,rfl,rfl⟩
 ·exact ZdU hd h
 ·exact Zcs hn h1
structure Frz (I:GH) (M:List Blk) (J:GH):Prop where
 kn:∀ b o,Kn I M b o->J b=some o
 inv:∀ b o,J b=some o->Kn I M b o
theorem Frz.rd {I J:GH} {M:List Blk} (h:Frz I M J) {a:Addr} {n:Nat} {vs:List Value} (hr:Rd I M a n vs) (M':List Blk):Rd J M' a n vs:=by
 obtain⟨h1,cs,T,f,h2,h3,h4⟩:=hr;exact⟨h1,cs,T,f,.inl (h.kn _ _ h2),h3,h4⟩
theorem Frz.le {I J:GH} {M:List Blk} (h:Frz I M J):∀ b o,I b=some o->J b=some o:=fun b o hb=>h.kn b o (.inl hb)
theorem Zhz {I I':GH} {M':List Blk} {w w':World} (h1:Holds I' M' w') (h2:Kept I [] w I' M' w'):Frz I' M' (frz I' M')∧Holds (frz I' M') [] w'∧Kept I [] w (frz I' M') [] w':=by
 refine⟨⟨fun b o h=>Zky h1.nd h1.d h,fun b o h=>?_⟩,⟨fun b o h=>?_,by simp,by simp,by simp⟩,⟨fun b o h=>ZdU h1.d (h2.le _ _ h),fun b o h=>?_,by simp,h2.old,h2.out,h2.sz⟩⟩
 ·rcases Z4r h with h | ⟨x,g1,g2,g3⟩
  ·exact .inl h
  ·exact .inr ⟨x,g1,g2,g3⟩
 ·rcases Z4r h with h | ⟨x,g1,rfl,rfl⟩
  ·exact h1.i _ _ h
  ·exact h1.m _ g1
 ·rcases Z4r h with h | ⟨x,g1,rfl,rfl⟩
  ·exact h2.newI _ _ h
  ·rcases h2.newM _ g1 with ⟨y,hy,_⟩ | h
   ·cases hy
   ·exact .inr h
theorem Spec.frz {P:Program} {f:Nat} {args:List Value} {I:GH} {Q:Value->GH->List Blk->Prop} (h:Spec P f args I [] Q):Spec P f args I [] fun r J M''=>M''=[]∧(∀ b o,I b=some o->J b=some o)∧∃ I' M',Q r I' M'∧Frz I' M' J:=by
 rcases h with ⟨h1,h2⟩ | h
 ·refine .inl ⟨h1,fun w hw=>?_⟩
  refine(h2 w hw).mono ?_;rintro e w' ⟨v,I',M',e1,e2,e3,e4⟩;obtain⟨g1,g2,g3⟩:=Zhz e3 e4
  exact⟨v,_,[],e1,⟨rfl,g3.le,I',M',e2,g1⟩,g2,g3⟩
 ·refine .inr fun w hw=>?_
  obtain⟨v,w',I',M',e1,e2,e3,e4⟩:=h w hw;obtain⟨g1,g2,g3⟩:=Zhz e3 e4;exact⟨v,w',_,[],e1,⟨rfl,g3.le,I',M',e2,g1⟩,g2,g3⟩
noncomputable def ZlR {α:Type} (l:List α):Tri α:=Tri.putsK l .nil 0 id
theorem ZdV {α:Type} {l:List α} {i:Nat} {v:α} (h:(ZlR l).get i=some v):l[i]?=some v:=by
 obtain⟨t,h1,h2⟩:=Tri.puts_ok l (.nil:Tri α) 0;unfold ZlR at h;rw[h1] at h
 rcases h2 _ _ h with ⟨_,h⟩ | ⟨_,h⟩
 ·simpa using h
 ·cases h
noncomputable def GTs:GT:=fun g=>cnd (Nat.beq g 0) (some (ZlR (countsL.map (EV.i .i64))))
 (cnd (Nat.beq g 1) (some (ZlR (signsL.map EV.s)))
 (cnd (Nat.beq g 2) (some (ZlR [.i .i64 0,.i .i64 1,.s [63],.i .i64 0,.i .i64 (-1),.s [42],.i .i64 1,.i .i64 (-1),.s [43]]))
 (cnd (Nat.beq g 4) (some (ZlR (debL.map (EV.i .u8)))) none)))
theorem ZhA {α:Type} {f:α->EV} {h:α->Value} (hf:∀ x D,VR D (f x) (h x)) {l:List α} {i:Nat} {v:EV} (hv:(ZlR (l.map f)).get i=some v):∃ x,(l.map h).toArray[i]?=some x∧∀ D,VR D v x:=by
 have:=ZdV hv;rw[List.getElem?_map] at this
 cases hx:l[i]? with
 | none=>rw[hx] at this;cases this
 | some x=>
  rw[hx] at this;simp only[Option.map_some,Option.some.injEq] at this;subst this;exact⟨h x,by simp[hx],hf x⟩
theorem ZlS {I:GH} (hT:Tabs I debL):GI GTs I:=by
 intro g cs h;unfold GTs at h;rw[Z11,Z11,Z11,Z11] at h
 cases h1:Nat.beq g 0 with
 | true=>
  rw[h1,cond_true] at h;obtain rfl:=Nat.eq_of_beq_eq_true h1;have h:=Option.some.inj h;subst h;obtain⟨T,f,h⟩:=hT.c;exact⟨_,T,f,h,fun i v hv=>ZhA (f:=EV.i .i64) (h:=Value.int .i64) (fun x D=>by simp only[VR]) hv⟩
 | false=>
 rw[h1,cond_false] at h
 cases h2:Nat.beq g 1 with
 | true=>
  rw[h2,cond_true] at h;obtain rfl:=Nat.eq_of_beq_eq_true h2;have h:=Option.some.inj h;subst h;obtain⟨T,f,h⟩:=hT.s;exact⟨_,T,f,h,fun i v hv=>ZhA (f:=EV.s) (h:=fun l=>Value.string (Z0f l)) (fun x D=>by simp only[VR,Z0f]) hv⟩
 | false=>
 rw[h2,cond_false] at h
 cases h3:Nat.beq g 2 with
 | true=>
  rw[h3,cond_true] at h;obtain rfl:=Nat.eq_of_beq_eq_true h3;have h:=Option.some.inj h;subst h;obtain⟨T,f,h⟩:=hT.p;refine⟨_,T,f,h,fun i v hv=>?_⟩;have hv:=ZdV hv
  rcases i with _ | _ | _ | _ | _ | _ | _ | _ | _ | i
  all_goals first | (cases hv;exact⟨_,rfl,fun D=>by simp only[VR]<;>rfl⟩) | (simp at hv)
 | false=>
 rw[h3,cond_false] at h
 cases h4:Nat.beq g 4 with
 | true=>
  rw[h4,cond_true] at h;obtain rfl:=Nat.eq_of_beq_eq_true h4;have h:=Option.some.inj h;subst h;obtain⟨_,_,T,f,h⟩:=hT.d;exact⟨_,T,f,h,fun i v hv=>ZhA (f:=EV.i .u8) (h:=Value.int .u8) (fun x D=>by simp only[VR]) hv⟩
 | false=>
 rw[h4,cond_false] at h;cases h
noncomputable def ZnQ:List UInt8->Nat->Nat->Int
 | [],_,_=>-1
 | b::l,c,k=>cnd (Nat.beq b.toNat c) (Int.ofNat k) (ZnQ l c (Nat.succ k))
theorem ZhB (c:UInt8):∀ (l:List UInt8) (k:Nat),ZnQ l c.toNat k=if Lib.indexByte l c=-1 then -1 else Lib.indexByte l c+k
 | [],k=>rfl
 | b::l,k=>by
  have hge:=Lib.indexByte_ge l c;unfold ZnQ Lib.indexByte;rw[Z11]
  by_cases h:b=c
  ·subst h
   simp
  ·have h1:Nat.beq b.toNat c.toNat=false:=by
    cases hb:Nat.beq b.toNat c.toNat with
    | false=>rfl
    | true=>exact absurd (UInt8.toNat_inj.1 (Nat.eq_of_beq_eq_true hb)) h
   have h2:(b == c)=false:=by simpa using h
   rw[h1,cond_false,h2,ZhB c l];simp only[Bool.false_eq_true,if_false]
   by_cases h3:Lib.indexByte l c=-1
   ·simp[h3]
   ·have h4:(Lib.indexByte l c == -1)=false:=by simpa using h3
    rw[h4,if_neg h3];simp only[Bool.false_eq_true,if_false]
    rw[if_neg (by omega)];omega
theorem ZhC:Z4c Tryz.prog:=Zhw (by kernel_rfl)
theorem Zb0:Tryz.prog.follows .mixedOrders=true:=by kernel_rfl
noncomputable def YZ:RK:=⟨Tryz.prog,Z2L,fun _=>none,fun _ _ _=>none⟩
noncomputable def rdM:List SE:=[.map [(.i .u8 123,.f 241 [] []),(.i .u8 34,.f 242 [] []),(.i .u8 91,.f 243 [] []),(.i .u8 46,.f 244 [] []),(.i .u8 47,.f 263 [] [.p 1 0]),(.i .u8 38,.f 263 [] [.p 2 0]),(.i .u8 33,.f 263 [] [.p 3 0]),(.i .u8 63,.f 263 [] [.p 4 0]),(.i .u8 42,.f 263 [] [.p 5 0]),(.i .u8 43,.f 263 [] [.p 6 0]),(.i .u8 40,.f 263 [] [.p 7 0]),(.i .u8 41,.f 263 [] [.p 8 0]),(.i .u8 60,.f 246 [] []),(.i .u8 62,.f 263 [] [.p 10 0]),(.i .u8 58,.f 263 [] [.p 11 0]),(.i .u8 65,.f 247 [] []),(.i .u8 66,.f 247 [] []),(.i .u8 67,.f 247 [] []),(.i .u8 68,.f 247 [] []),(.i .u8 69,.f 247 [] []),(.i .u8 70,.f 247 [] []),(.i .u8 71,.f 247 [] []),(.i .u8 72,.f 247 [] []),(.i .u8 73,.f 247 [] []),(.i .u8 74,.f 247 [] []),(.i .u8 75,.f 247 [] []),(.i .u8 76,.f 247 [] []),(.i .u8 77,.f 247 [] []),(.i .u8 78,.f 247 [] []),(.i .u8 79,.f 247 [] []),(.i .u8 80,.f 247 [] []),(.i .u8 81,.f 247 [] []),(.i .u8 82,.f 247 [] []),(.i .u8 83,.f 247 [] []),(.i .u8 84,.f 247 [] []),(.i .u8 85,.f 247 [] []),(.i .u8 86,.f 247 [] []),(.i .u8 87,.f 247 [] []),(.i .u8 88,.f 247 [] []),(.i .u8 89,.f 247 [] []),(.i .u8 90,.f 247 [] []),(.i .u8 95,.f 247 [] []),(.i .u8 97,.f 247 [] []),(.i .u8 98,.f 247 [] []),(.i .u8 99,.f 247 [] []),(.i .u8 100,.f 247 [] []),(.i .u8 101,.f 247 [] []),(.i .u8 102,.f 247 [] []),(.i .u8 103,.f 247 [] []),(.i .u8 104,.f 247 [] []),(.i .u8 105,.f 247 [] []),(.i .u8 106,.f 247 [] []),(.i .u8 107,.f 247 [] []),(.i .u8 108,.f 247 [] []),(.i .u8 109,.f 247 [] []),(.i .u8 110,.f 247 [] []),(.i .u8 111,.f 247 [] []),(.i .u8 112,.f 247 [] []),(.i .u8 113,.f 247 [] []),(.i .u8 114,.f 247 [] []),(.i .u8 115,.f 247 [] []),(.i .u8 116,.f 247 [] []),(.i .u8 117,.f 247 [] []),(.i .u8 118,.f 247 [] []),(.i .u8 119,.f 247 [] []),(.i .u8 120,.f 247 [] []),(.i .u8 121,.f 247 [] []),(.i .u8 122,.f 247 [] [])],
 .cells [.i .u8 3] 5,
 .cells [.i .u8 4] 5,
 .cells [.i .u8 5] 5,
 .cells [.i .u8 6] 5,
 .cells [.i .u8 7] 5,
 .cells [.i .u8 8] 5,
 .cells [.i .u8 9] 5,
 .cells [.i .u8 10] 5,
 .cells [.i .u8 11] 5,
 .cells [.i .u8 12] 5,
 .cells [.i .u8 13] 5]
theorem Zni:(opn (Z9A YZ (Z1j YZ 100000) 217 [] ⟨.nil,0⟩) none fun p=>opn (Z7L p.2.t 0 p.2.n) none fun L=>some (p.1,L))=some (EV.m 0,rdM):=by kernel_rfl
noncomputable def prL:PR:=fun g vs m=>cnd (Nat.beq g 283) (match vs with
 | [.s l,.i .u8 (.ofNat k)]=>cnd (Nat.blt k 256) (some (.i .i64 (ZnQ l k 0),m)) none
 | _=>none) (cnd (Nat.beq g 234) (match vs with
 | [v]=>some (v,m)
 | _=>none) (cnd (Nat.beq g 217) (match vs with
 | []=>Zon (.m 0) rdM m
 | _=>none) (cnd (Nat.beq g 210) (ccE m vs) none)))
noncomputable def YK:RK:=⟨Tryz.prog,Z2L,GTs,prL⟩
theorem ZlT:Z4W YK:=by
 intro g vs m v m' h D I M us hu hm
 change prL g vs m=some (v,m') at h
 unfold prL at h;rw[Z11] at h
 cases h1:Nat.beq g 283 with
 | true=>
  rw[h1,cond_true] at h;obtain rfl:=Nat.eq_of_beq_eq_true h1
  split at h
  ·rename_i l k
   rw[Z11] at h
   cases hk:Nat.blt k 256 with
   | false=>rw[hk] at h;cases h
   | true=>
    rw[hk,cond_true] at h;have hk':k < 256:=Nat.blt_eq ▸ hk;cases h;simp only[VRs,VR] at hu;obtain⟨x,xs,rfl,⟨y,ys,rfl,rfl,rfl⟩,rfl⟩:=hu
    have hkc:(UInt8.ofNat k).toNat=k:=by simp;omega
    have:=Z25 (I:=I) (M:=M) ⟨l.toArray⟩ (UInt8.ofNat k);rw[hkc] at this
    refine Spec.weakK this ?_;rintro r I' M' ⟨rfl,rfl,rfl⟩;refine⟨D,Nm.ext_refl,?_,hm⟩
    simp only[VR];have:=ZhB (UInt8.ofNat k) l 0
    rw[hkc] at this;rw[this]
    split
    ·rename_i e
     simp[e]
    ·simp
  ·cases h
 | false=>
 rw[h1,cond_false,Z11] at h
 cases h2:Nat.beq g 234 with
 | true=>
  rw[h2,cond_true] at h;obtain rfl:=Nat.eq_of_beq_eq_true h2
  split at h
  ·cases h
   simp only[VRs] at hu;obtain⟨x,xs,hu,rfl,rfl⟩:=hu;refine Spec.weakK (Z32 _) ?_;rintro r I' M' ⟨rfl,rfl,rfl⟩;exact⟨D,Nm.ext_refl,hu,hm⟩
  ·cases h
 | false=>
 rw[h2,cond_false,Z11] at h
 cases h3:Nat.beq g 217 with
 | true=>
  rw[h3,cond_true] at h;obtain rfl:=Nat.eq_of_beq_eq_true h3
  split at h
  ·obtain⟨⟨v0,m0⟩,h4,h5⟩:=Z07 Zni
   obtain⟨L,h6,h7⟩:=Z07 h5;cases h7;exact ZlQ (Y:=YK) Z00 ZhC Zb0 h4 h6 (fun D us h=>by simpa only[VRs] using h) h hu hm
  ·cases h
 | false=>
 rw[h3,cond_false,Z11] at h
 cases h4:Nat.beq g 210 with
 | true=>
  rw[h4,cond_true] at h;obtain rfl:=Nat.eq_of_beq_eq_true h4;exact Zoo rfl rfl h hu hm
 | false=>
 rw[h4,cond_false] at h;cases h
theorem ZlU {I:GH} (hT:Tabs I debL) {f g:Nat} {args:List EV} {m':Me} {v:EV} (h:Z9A YK (Z1j YK f) g args ⟨.nil,0⟩=some (v,m')) {us:List Value} (hu:VRs (fun _=>none) args us) :
  Spec Tryz.prog g us I [] fun r J M''=>M''=[]∧(∀ b o,I b=some o->J b=some o)∧∃ I' M' D',VR D' v r∧MS YK D' m' I' M'∧Frz I' M' J:=by
 have hm:MS YK (fun _=>none) ⟨.nil,0⟩ I []:=⟨fun id e a h h'=>(by cases h'),fun id id' e e' a a' h h1 h'=>(by cases h'),fun id a h=>(by cases h),ZlS hT⟩;refine Spec.weakK (Zkx (Y:=YK) Z00 ZhC ZlT Zb0 h hu hm).frz ?_
 rintro r J M'' ⟨rfl,h1,I',M',⟨D',-,h2,h3⟩,h4⟩;exact⟨rfl,h1,I',M',D',h2,h3,h4⟩
theorem ZhD:∀ {l:List Int} (h:0 < l.length),l.headD 0=l[0]
 | a::l,_=>rfl
def Z0N (ns:List Nd) (xs:List Fl):Bool:=ns.any fun d=>decide (d.k=6) && (decide (d.hi=-1) && (xs.getD (d.kids.headD 0).toNat fl0).z)
theorem Zjt {α:Type} (p:α->Bool) (l:List α) (x:α):(l++[x]).any p=(l.any p || p x):=by simp
theorem ZlV {α:Type} {p:α->Bool} {l:List α} {i:Nat} (h:(l.take i).any p=true):l.any p=true:=by
 rw[List.any_eq_true] at h ⊢;obtain⟨x,hx,hp⟩:=h
 exact⟨x,List.mem_of_mem_take hx,hp⟩
set_option maxHeartbeats 4000000 in
theorem Zb1 {I:GH} {M0:List Blk} {t:Tr} (ht:t.ok I) (hr:right t=true) {xa:Option Addr} {xc:Nat} {xs:List Fl} (hx:FsAt I M0 xa t.n xs):Spec Tryz.prog 144 [t.val,.slice xa t.n xc] I M0 fun v I' M'=>v=.bool (Z0N t.ns xs)∧I'=I∧M'=M0:=by
 refine Z01 [] Z00 Tryz.func144 rfl rfl rfl ?_;intro B h0;have htn:=ht.n;have hcap:=ht.rs.cap;have hxn:=hx.n;refine LoopOb.inv (ι:=Nat) (fun i=>{ fl:=[(1,.val (.slice xa t.n xc)),(8,.val (.slice t.a t.n t.c)),(9,.val (.int .i64 t.n)),(10,.val (.int .i64 i))],gi:=I,mi:=M0 }) (fun i=>i≤t.n∧(t.ns.take i).any (fun d=>decide (d.k=6) && (decide (d.hi=-1) && (xs.getD (d.kids.headD 0).toNat fl0).z))=false) (fun i=>t.n - i) ?_ ?_
 ·exact⟨0,⟨Nat.zero_le _,rfl⟩,.refl,aF4,.nil⟩
 rintro i ⟨hi,hno⟩;refine CondOb.mk (fun h=>?_) (fun h=>?_)
 rotate_left
 ·have hge:i=t.n:=by have:¬ (i:Int) < (t.n:Int):=of_decide_eq_false h;omega
  rw[List.take_of_length_le (by omega)] at hno;refine⟨_,_,.refl,?_,rfl,rfl⟩;rw[Z0N,hno]
 have hlt:i < t.n:=by have:(i:Int) < (t.n:Int):=of_decide_eq_true h;omega
 have hlt':i < t.ns.length:=by omega
 obtain⟨ad,had,hrd⟩:=ht.rs.row Nd.cells_len hlt hlt';have hd:=ht.ns _ (List.getElem_mem hlt');have hft:=Z1A hr hlt'
 have hkv:=Z0j hr i hlt';have hkn:=hd.kn
 have hsn:(t.ns.take (i+1)).any (fun d=>decide (d.k=6) && (decide (d.hi=-1) && (xs.getD (d.kids.headD 0).toNat fl0).z))=(decide (t.ns[i].k=6) && (decide (t.ns[i].hi=-1) && (xs.getD (t.ns[i].kids.headD 0).toNat fl0).z)):=by
  rw[List.take_succ_eq_append_getElem hlt',Zjt,hno,Bool.false_or]
 generalize t.ns[i]=d at hrd hd hft hkv hkn hsn;refine IdxOb.mk ad i had rfl hlt ?_;refine LoadOb.mk _ (hrd _) ?_;refine GuardOb.mk (fun h6=>?_) (fun h6=>?_)
 rotate_left
 ·have h6':decide (d.k=6)=false:=h6
  rw[h6'] at hsn;refine ArithOb.mk _ (Z03 (i:=i) (by omega)) ?_;exact⟨i+1,⟨⟨hlt,hsn⟩,by omega⟩,.refl,aF4,.nil⟩
 have h6':decide (d.k=6)=true:=h6;have h6e:d.k=6:=of_decide_eq_true h6';rw[h6',Bool.true_and] at hsn;refine GuardOb.mk (fun h1=>?_) (fun h1=>?_)
 rotate_left
 ·have h1':decide (d.hi=-1)=false:=h1
  rw[h1'] at hsn;refine ArithOb.mk _ (Z03 (i:=i) (by omega)) ?_;exact⟨i+1,⟨⟨hlt,hsn⟩,by omega⟩,.refl,aF4,.nil⟩
 have h1':decide (d.hi=-1)=true:=h1;rw[h1',Bool.true_and] at hsn
 have hk0:0 < d.kids.length:=by have:=Zds hd.k.1 hft (by omega);omega
 obtain⟨ak,hak,hrk⟩:=hd.rs.one (j:=0) (by omega) hk0;have hv:=hkv _ (List.getElem_mem hk0);have hh:d.kids.headD 0=d.kids[0]:=ZhD hk0
 rw[hh] at hsn
 have hql:d.kids[0].toNat < xs.length:=by omega
 obtain⟨ax,hax,hrx⟩:=hx.rd _ hql
 have hg:xs.getD d.kids[0].toNat fl0=xs[d.kids[0].toNat]:=by simp[List.getD_eq_getElem?_getD,hql]
 rw[hg] at hsn;refine IdxOb.mk ak 0 hak rfl (by omega) ?_;refine LoadOb.mk _ (hrk _) ?_;refine IdxOb.mk ax d.kids[0].toNat hax (by omega) (by omega) ?_;refine LoadOb.mk _ (hrx.part (k:=0) (m:=1) (by decide)) ?_;refine CondOb.mk (fun hz=>?_) (fun hz=>?_)
 ·have hz':xs[d.kids[0].toNat].z=true:=hz
  refine⟨_,_,.refl,?_,rfl,rfl⟩;rw[Z0N,ZlV (i:=i+1) (by rw[hsn,hz'])]
 ·have hz':xs[d.kids[0].toNat].z=false:=hz
  rw[hz'] at hsn;refine ArithOb.mk _ (Z03 (i:=i) (by omega)) ?_;exact⟨i+1,⟨⟨hlt,hsn⟩,by omega⟩,.refl,aF4,.nil⟩
def Sy.mark (s:Sy) (i k:Nat):Sy:=⟨s.n,s.m.set i (s.m.getD i 0 ||| Z7p k),s.w⟩
def Z6d (b:Nat) (s:Sy):Blk:=⟨b,.cells s.cells.toArray 154 (0,0)⟩
theorem Sy.cells_len (s:Sy):s.cells.length=66:=by simp[Sy.cells,Z1u]
theorem Znj {I:GH} {M:List Blk} {b:Nat} {s:Sy} (hM:Z6d b s∈M) {j:Nat} (hj:j < 64):Rd I M (((⟨b,0,none⟩:Addr).add 1).add (j * 1)) 1 [Z3B (s.m.getD j 0)]:=by
 rw[Z06 (⟨b,0,none⟩:Addr) rfl,Z06 _ rfl];refine⟨rfl,_,_,_,.inr ⟨_,hM,rfl,rfl⟩,?_,rfl⟩
 simp only[Nat.zero_add,Nat.mul_one]
 show (s.cells.drop (1+j)).take 1=_
 rw[Sy.cells,Nat.add_comm 1 j,List.drop_succ_cons,List.drop_append_of_le_length (by rw[Z1u];omega),List.drop_eq_getElem_cons (by rw[Z1u];exact hj),List.cons_append,List.take_succ_cons,List.take_zero];simp[Z6u]
theorem Zju {s:Sy} (hs:s.m.length=64) {i k:Nat} (hi:i < 64):Z05 s.cells (0+1+i * 1) [Z3B (s.m.getD i 0 ||| Z7p k)]=(s.mark i k).cells:=by
 unfold Sy.cells Sy.mark;simp only
 have e1:Z05 (Value.int .i64 s.n::(Z6u s.m++[Z3B s.w])) (0+1+i * 1) [Z3B (s.m.getD i 0 ||| Z7p k)]=Value.int .i64 s.n::(Z05 (Z6u s.m) (0+i * 1) [Z3B (s.m.getD i 0 ||| Z7p k)]++[Z3B s.w]):=by
  have h:=Z7A [Value.int .i64 s.n] (Z6u s.m) [Z3B s.w] i [Z3B (s.m.getD i 0 ||| Z7p k)] (by rw[Z1u];show i+1≤64;omega);simp only[List.length_singleton,List.singleton_append,List.length_cons,List.length_nil,Nat.zero_add,Nat.mul_one] at h ⊢
  exact h
 rw[e1,ZdH s.m hs i hi]
theorem StoreOb.addTwo {M:List Blk} {b x y:Nat} {vs:List Value} {K:List Blk->Prop} (pre post:List Blk) (cs:List Value) (T:Nat) (hM:M=pre++⟨b,.cells cs.toArray T (0,0)⟩::post) (hb:0+x+y+vs.length≤cs.length) (h1:Z0z vs=true)
  (cs':List Value) (he:Z05 cs (0+x+y) vs=cs') (h:K (pre++⟨b,.cells cs'.toArray T (0,0)⟩::post)):StoreOb M (((⟨b,0,none⟩:Addr).add x).add y) vs K:=by
 rw[Z06 (⟨b,0,none⟩:Addr) rfl,Z06 _ rfl];exact StoreOb.to pre post cs.toArray T hM rfl (by rw[Nat.ble_eq];simpa using hb) h1 cs' he h
theorem Zct {I:GH} {M1:List Blk} {g:Gr} (hg:g.ok I) {nm:ByteArray} {k:Nat} (hk:Z09 nm g.ds 0=k) (hk64:k < 64) {b1 b6 b7 i:Nat} (hi:i < 64) {s:Sy} (hs:s.m.length=64)
  (h1:(⟨b1,.cells #[.slice g.a g.n g.c] 30 (0,0)⟩:Blk)∈M1) (h7:(⟨b7,.cells #[.int .i64 i] 3 (0,0)⟩:Blk)∈M1) :
  Spec Tryz.prog 143 [.string nm,ptr b1,ptr b6,ptr b7] I (Z6d b6 s::M1) fun v I' M'=>I'=I∧M'=Z6d b6 (s.mark i k)::M1:=by
 refine Z01 [] Z00 Tryz.func143 rfl rfl rfl ?_;intro B h0;refine LoadOb.mk [.slice g.a g.n g.c] ⟨rfl,_,_,_,.inr ⟨_,.tail _ h1,rfl,rfl⟩,rfl,rfl⟩ ?_
 have hf:Spec Tryz.prog 49 [g.val,.string nm] I (Z6d b6 s::M1) fun v I' M'=>v=.int .i64 k∧I'=I∧M'=Z6d b6 s::M1:=by
  refine Spec.weakK (Spec.frame (Zam hg nm)) ?_;rintro v J M ⟨M',rfl,-,-,rfl,rfl,rfl⟩;rw[hk]
  exact⟨rfl,rfl,rfl⟩
 refine CallOb.whole _ hf ?_;rintro v J N - ⟨rfl,hJ,hN⟩;subst J
 subst N;refine CondOb.mk (fun _=>?_) (fun h=>?_)
 rotate_left
 ·have:¬ (0:Int)≤(k:Int):=of_decide_eq_false h
  omega
 refine CodeOb.draw Z00 rfl rfl rfl ?_;refine LoadOb.mk [.int .i64 i] ⟨rfl,_,_,_,.inr ⟨_,.tail _ h7,rfl,rfl⟩,rfl,rfl⟩ ?_;refine ArrOb.mk i rfl hi ?_;refine LoadOb.mk _ (Znj (.head _) hi) ?_;refine ShOb.mk k rfl ?_;refine ArithOb.mk _ (Zh4 hk64) ?_;refine ArrOb.mk i rfl hi ?_;refine StoreOb.addTwo [] M1 s.cells _ rfl ?_ rfl (s.mark i k).cells ?_ ?_
 ·rw[Sy.cells_len]
  show 0+1+i * 1+1≤66
  omega
 ·show Z05 s.cells (0+1+i * 1) [Value.int .u64 (Zmr (s.m.getD i 0).toNat (Z7p k).toNat)]=_
  rw[Z9D];exact Zju hs hi
 exact⟨_,_,.refl,rfl,rfl⟩
theorem Ws.ints (w:Ws):∀ x∈[(w.a.toNat:Int),(w.b.toNat:Int),(w.c.toNat:Int),(w.d.toNat:Int)],Z0G x:=by
 have h1:=w.a.isLt;have h2:=w.b.isLt;have h3:=w.c.isLt;have h4:=w.d.isLt;intro x hx;simp only[List.mem_cons,List.not_mem_nil,or_false] at hx;unfold Z0G
 rcases hx with rfl | rfl | rfl | rfl<;>omega
section
variable {I:GH} {M:List Blk} {d:Nd} {a:Option Addr} {n c:Nat} {ks:List Fl}
end
theorem ZlW:∀ n:Fin 16,(hexL.extract n.val (n.val+1)).data.toList=[Za9 n.val]:=by decide +kernel
theorem Z4X {I:GH} (n:Nat) (hn:n < 16):Spec Tryz.prog 272 [.int .i64 n] I [] fun v I' M'=>v=.string (Z0f [Za9 n])∧I'=I∧M'=[]:=by
 refine Z01 [] Z00 Tryz.func272 rfl rfl rfl ?_;intro B h0;refine ArithOb.mk ((n+1:Nat):Int) (by rw[Z08 ⟨by omega,by omega⟩];omega) ?_;refine SliceOb.mk n (n+1) rfl rfl (by omega) (by show _≤16;omega) ?_;refine⟨_,_,.refl,?_,rfl,rfl⟩;have:hexL.extract n (n+1)=Z0f [Za9 n]:=Z2B (ZlW ⟨n,hn⟩)
 rw[←this];rfl
def inB (c:UInt8) (s:ByteArray):Bool:=s.data.toList.any fun x=>decide (x.toNat=c.toNat)
theorem Zb2 {I:GH} (c:UInt8) (s:ByteArray) (hs:s.size≤140737488355328):Spec Tryz.prog 273 [.int .u8 c.toNat,.string s] I [] fun v I' M'=>v=.bool (inB c s)∧I'=I∧M'=[]:=by
 refine Z01 [] Z00 Tryz.func273 rfl rfl rfl ?_;intro B h0;have hsl:s.data.toList.length=s.size:=rfl;refine LoopOb.inv (ι:=Nat) (fun i=>{ fl:=[(0,.val (.int .u8 c.toNat)),(1,.val (.string s)),(5,.val (.int .i64 i))],gi:=I }) (fun i=>i≤s.size∧inB c s=(s.data.toList.drop i).any fun x=>decide (x.toNat=c.toNat)) (fun i=>s.size - i) ?_ ?_
 ·exact⟨0,⟨Nat.zero_le _,rfl⟩,.refl,aF3,.nil⟩
 intro i ⟨hi,hin⟩;refine CondOb.mk (fun h=>?_) (fun h=>?_)
 ·have hlt:i < s.size:=by simpa using h
  rw[List.drop_eq_getElem_cons (show i < s.data.toList.length from hlt),List.any_cons] at hin;have hel:s.data.toList[i]'hlt=s[i]:=rfl;rw[hel] at hin;refine StrOb.mk i rfl hlt ?_;refine CondOb.mk (fun h2=>?_) (fun h2=>?_)
  ·have e:decide (s[i].toNat=c.toNat)=true:=by simp at h2 ⊢;omega
   rw[e,Bool.true_or] at hin;exact⟨_,_,.refl,congrArg Value.bool hin.symm,rfl,rfl⟩
  ·have e:decide (s[i].toNat=c.toNat)=false:=by simp at h2 ⊢;omega
   rw[e,Bool.false_or] at hin;refine ArithOb.mk _ (Z03 (i:=i) (by omega)) ?_;exact⟨i+1,⟨⟨by omega,hin⟩,by omega⟩,.refl,aF3,.nil⟩
 ·have:i=s.size:=by simp at h;omega
  subst this;rw[List.drop_of_length_le (by omega)] at hin;exact⟨_,_,.refl,congrArg Value.bool hin.symm,rfl,rfl⟩
def Z6e (c:UInt8) (sp:ByteArray):List UInt8:=
 bif decide ((c.toNat:Int)=10) then [92,110] else
 bif decide ((c.toNat:Int)=13) then [92,114] else
 bif decide ((c.toNat:Int)=9) then [92,116] else
 bif decide ((c.toNat:Int) < 32) || decide (126 < (c.toNat:Int)) then [92,120,Za9 (c.toNat / 16),Za9 (c.toNat % 16)] else
 bif inB c sp then [92,c] else [c]
theorem Z2X {I:GH} (c:UInt8) (sp:ByteArray) (hs:sp.size≤140737488355328):Spec Tryz.prog 256 [.int .u8 c.toNat,.string sp] I [] fun v I' M'=>v=.string (Z0f (Z6e c sp))∧I'=I∧M'=[]:=by
 refine Z01 [] Z00 Tryz.func256 rfl rfl rfl ?_;intro B h0;have hc:=c.toNat_lt;refine CondOb.mk (fun h1=>?_) (fun h1=>?_)
 ·exact⟨_,_,.refl,by rw[Z6e,h1];rfl,rfl,rfl⟩
 refine CondOb.mk (fun h2=>?_) (fun h2=>?_)
 ·exact⟨_,_,.refl,by rw[Z6e,h1,h2];rfl,rfl,rfl⟩
 refine CondOb.mk (fun h3=>?_) (fun h3=>?_)
 ·exact⟨_,_,.refl,by rw[Z6e,h1,h2,h3];rfl,rfl,rfl⟩
 have hexp:(decide ((c.toNat:Int) < 32) || decide (126 < (c.toNat:Int)))=true->Z6e c sp=[92,120,Za9 (c.toNat / 16),Za9 (c.toNat % 16)]:=fun h=>by
  rw[Z6e,h1,h2,h3,h];rfl
 have hexn:(decide ((c.toNat:Int) < 32) || decide (126 < (c.toNat:Int)))=false->Z6e c sp=bif inB c sp then [92,c] else [c]:=fun h=>by
  rw[Z6e,h1,h2,h3,h];rfl
 refine GuardOb.mk (fun h4=>?_) (fun h4=>?_)
 ·refine CondOb.mk (fun h5=>?_) (fun h5=>?_)
  ·have hq:(decide ((c.toNat:Int) < 32) || decide (126 < (c.toNat:Int)))=true:=by rw[h4,h5];rfl
   refine ArithOb.mk (c.toNat:Int) (Z08 ⟨by omega,by omega⟩) ?_;refine DivOb.mk (by decide) ?_;refine ArithOb.mk ((c.toNat / 16:Nat):Int) (Z08 (x:=((c.toNat / 16:Nat):Int)) ⟨by omega,by omega⟩) ?_;refine CallOb.mk [] [] _ (.refl _) (Z4X (c.toNat / 16) (by omega)) ?_;rintro v J N - ⟨rfl,hJ,rfl⟩;subst J
   refine BinOb.concatL (a:=[92,120]) (by simp) ?_;refine ArithOb.mk (c.toNat:Int) (Z08 ⟨by omega,by omega⟩) ?_;refine DivOb.mk (by decide) ?_;refine CallOb.mk [] [] _ (.refl _) (Z4X (c.toNat % 16) (by omega)) ?_;rintro v J N - ⟨rfl,hJ,rfl⟩;subst J
   refine BinOb.concatL (a:=[92,120,Za9 (c.toNat / 16)]) (by simp) ?_;exact⟨_,_,.refl,by rw[hexp hq];rfl,rfl,rfl⟩
  have hq:(decide ((c.toNat:Int) < 32) || decide (126 < (c.toNat:Int)))=false:=by rw[h4,h5];rfl
  refine CallOb.mk [] [] _ (.refl _) (Zb2 c sp hs) ?_;rintro v J N - ⟨rfl,hJ,rfl⟩;subst J
  refine CondOb.mk (fun h6=>?_) (fun h6=>?_)
  ·refine AllocOb.mk fun b hb hbM=>?_
   refine OtherOb.bytesS Z00 rfl (by simp) rfl rfl rfl rfl rfl rfl (ad:=⟨b,0,none⟩) (n:=1) (l:=[c]) rfl rfl (Z0d (b:=b) (cs:=[.int .u8 c.toNat]) (k:=0) (n:=1) (T:=5) (.head _) (by simp)) ?_;refine BinOb.concatL (a:=[92]) (b:=[c]) (by simp) ?_;exact⟨_,_,.sub (List.nil_sublist _) .refl,by rw[hexn hq,h6];rfl,rfl,rfl⟩
  ·refine AllocOb.mk fun b hb hbM=>?_
   refine OtherOb.bytesS Z00 rfl (by simp) rfl rfl rfl rfl rfl rfl (ad:=⟨b,0,none⟩) (n:=1) (l:=[c]) rfl rfl (Z0d (b:=b) (cs:=[.int .u8 c.toNat]) (k:=0) (n:=1) (T:=5) (.head _) (by simp)) ?_;exact⟨_,_,.sub (List.nil_sublist _) .refl,by rw[hexn hq,h6];rfl,rfl,rfl⟩
 ·have hq:(decide ((c.toNat:Int) < 32) || decide (126 < (c.toNat:Int)))=true:=by simp at h4;simp[h4]
  refine ArithOb.mk (c.toNat:Int) (Z08 ⟨by omega,by omega⟩) ?_;refine DivOb.mk (by decide) ?_;refine ArithOb.mk ((c.toNat / 16:Nat):Int) (Z08 (x:=((c.toNat / 16:Nat):Int)) ⟨by omega,by omega⟩) ?_;refine CallOb.mk [] [] _ (.refl _) (Z4X (c.toNat / 16) (by omega)) ?_;rintro v J N - ⟨rfl,hJ,rfl⟩;subst J
  refine BinOb.concatL (a:=[92,120]) (by simp) ?_;refine ArithOb.mk (c.toNat:Int) (Z08 ⟨by omega,by omega⟩) ?_;refine DivOb.mk (by decide) ?_;refine CallOb.mk [] [] _ (.refl _) (Z4X (c.toNat % 16) (by omega)) ?_;rintro v J N - ⟨rfl,hJ,rfl⟩;subst J
  refine BinOb.concatL (a:=[92,120,Za9 (c.toNat / 16)]) (by simp) ?_;exact⟨_,_,.refl,by rw[hexp hq];rfl,rfl,rfl⟩
def Zop:ByteArray:=⟨#[34,92]⟩
def Zmt:ByteArray:=⟨#[93,45,94,92]⟩
theorem Z4Y (c:UInt8):Z6e c Zop=Z4D c Zad∧Z6e c Zmt=Z4D c Z9X:=by
 have h:∀ n:Fin 256,Z6e (UInt8.ofNat n.val) Zop=Z4D (UInt8.ofNat n.val) Zad∧Z6e (UInt8.ofNat n.val) Zmt=Z4D (UInt8.ofNat n.val) Z9X:=by decide +kernel
 have:=h ⟨c.toNat,c.toNat_lt⟩
 simpa using this
theorem Z9M {I:GH} (s:ByteArray) (hs:s.size≤1099511627776):Spec Tryz.prog 239 [.string s] I [] fun r I' M'=>r=.string (Z0f (Zis s))∧I'=I∧M'=[]:=by
 refine Z01 [] Z00 Tryz.func239 rfl rfl rfl ?_;intro B h0
 have hfl:∀ i,((s.data.toList.take i).flatMap (Z4D · Zad)).length≤4 * i:=fun i=>by
  have:=Z4g (Z4D · Zad) 4 (fun c=>Z1m c Zad) (s.data.toList.take i);have h2:=List.length_take_le i s.data.toList
  omega
 refine LoopOb.inv (ι:=Nat) (fun i=>{ fl:=[(0,.val (.string s)),(3,.val (.string (Z0f ((s.data.toList.take i).flatMap (Z4D · Zad))))),(4,.val (.int .i64 i))],gi:=I }) (fun i=>i≤s.size) (fun i=>s.size - i) ?_ ?_
 ·exact⟨0,Nat.zero_le _,.refl,aF3,.nil⟩
 intro i hi;have hli:=hfl i;refine CondOb.mk (fun h=>?_) (fun h=>?_)
 ·have hlt:i < s.size:=by simpa using h
  have hlt':i < s.data.toList.length:=hlt;refine StrOb.mk i rfl hlt ?_;have hsg:=Z2X (I:=I) s[i] Zop (by decide);rw[(Z4Y s[i]).1] at hsg
  refine CallOb.mk [] [] _ (.refl _) hsg ?_;rintro v J N - ⟨rfl,hJ,rfl⟩;subst J
  have hpl:=Z1m s[i] Zad;refine BinOb.concatL (by omega) ?_;refine ArithOb.mk _ (Z03 (i:=i) (by omega)) ?_
  have e:(s.data.toList.take (i+1)).flatMap (Z4D · Zad)=(s.data.toList.take i).flatMap (Z4D · Zad)++Z4D s[i] Zad:=by
   rw[List.take_succ_eq_append_getElem hlt',List.flatMap_append];simp
   rfl
  refine⟨i+1,⟨hlt,by omega⟩,.refl,.cons .refl (.cons ?_ (.cons .refl .nil)),.nil⟩;rw[e]
  exact .refl
 ·have:i=s.size:=by simp at h;omega
  subst this;have e:s.data.toList.take s.size=s.data.toList:=List.take_of_length_le (Nat.le_refl _);refine BinOb.concatL (a:=[34]) (by simp only[List.length_cons,List.length_nil];omega) ?_
  refine BinOb.concatL (b:=[34]) (by simp only[List.length_append,List.length_cons,List.length_nil];omega) ?_;exact⟨_,_,.refl,by rw[Zis,e],rfl,rfl⟩
theorem Z3W {I:GH} (n:Nat) (hn:n < 100):Spec Tryz.prog 257 [.int .i64 n] I [] fun r I' M'=>r=.string (ZfN n)∧I'=I∧M'=[]:=by
 refine Z01 [] Z00 Tryz.func257 rfl rfl rfl ?_;intro B h0;refine ArithOb.mk (n:Int) (Z0W ⟨by omega,by omega⟩) ?_;refine CondOb.mk (fun h=>by simp at h;omega) (fun _=>?_);refine LoopOb.inv (ι:=Bool) (fun x=>{ fl:=[(3,.val (.int .u64 ((bif x then n / 10 else n:Nat):Int))),(4,.val (.string (Z0f []))),(5,.val (.string (Z0f (bif x then [UInt8.ofNat (48+n % 10)] else []))))],gi:=I }) (fun x=>x=true->10≤n) (fun x=>bif x then 0 else 1) ?_ ?_
 ·exact⟨false,(fun h=>by cases h),.refl,aF3,.nil⟩
 intro x hx
 cases x with
 | false=>
  refine CondOb.mk (fun h=>?_) (fun h=>?_)
  ·have h9:10≤n:=by simp at h;omega
   refine DivOb.mk (by decide) ?_;refine ArithOb.mk ((48+n % 10:Nat):Int) (Z0W (x:=((48+n % 10:Nat):Int)) ⟨by omega,by omega⟩) ?_;refine ArithOb.mk _ (Zcl (n:=48+n % 10) (by omega)) ?_
   refine AllocOb.mk fun b hb hbM=>?_
   refine OtherOb.bytesS Z00 rfl (by simp) rfl rfl rfl rfl rfl rfl (ad:=⟨b,0,none⟩) (n:=1) (l:=[UInt8.ofNat (48+n % 10)]) rfl rfl (Z0d (b:=b) (cs:=[.int .u8 (UInt8.ofNat (48+n % 10)).toNat]) (k:=0) (n:=1) (T:=5) (.head _) (by simp)) ?_;refine BinOb.concatL (a:=[UInt8.ofNat (48+n % 10)]) (b:=[]) (by simp) ?_;refine DivOb.mk (by decide) ?_;refine ArithOb.mk ((n / 10:Nat):Int) (Z0W (x:=((n / 10:Nat):Int)) ⟨by omega,by omega⟩) ?_;exact⟨true,⟨fun _=>h9,by decide⟩,.sub (List.nil_sublist _) .refl,aF3,.nil⟩
  ·have h9:n < 10:=by simp at h;omega
   refine ArithOb.mk ((48+n:Nat):Int) (Z0W (x:=((48+n:Nat):Int)) ⟨by omega,by omega⟩) ?_;refine ArithOb.mk _ (Zcl (n:=48+n) (by omega)) ?_
   refine AllocOb.mk fun b hb hbM=>?_
   refine OtherOb.bytesS Z00 rfl (by simp) rfl rfl rfl rfl rfl rfl (ad:=⟨b,0,none⟩) (n:=1) (l:=[UInt8.ofNat (48+n)]) rfl rfl (Z0d (b:=b) (cs:=[.int .u8 (UInt8.ofNat (48+n)).toNat]) (k:=0) (n:=1) (T:=5) (.head _) (by simp)) ?_;refine BinOb.concatL (a:=[]) (b:=[UInt8.ofNat (48+n)]) (by simp) ?_;refine BinOb.concatL (a:=[]++[UInt8.ofNat (48+n)]) (b:=[]) (by simp) ?_
   have e:dig n=[UInt8.ofNat (48+n)]:=by
    have:Nat.blt n 10=true:=by simp[Nat.blt_eq];omega
    rw[dig,this];rfl
   exact⟨_,_,.sub (List.nil_sublist _) .refl,by rw[ZfN,e];rfl,rfl,rfl⟩
 | true=>
  have h9:=hx rfl;refine CondOb.mk (fun h=>?_) (fun h=>?_)
  ·simp at h
   omega
  refine ArithOb.mk ((48+n / 10:Nat):Int) (Z0W (x:=((48+n / 10:Nat):Int)) ⟨by omega,by omega⟩) ?_;refine ArithOb.mk _ (Zcl (n:=48+n / 10) (by omega)) ?_
  refine AllocOb.mk fun b hb hbM=>?_
  refine OtherOb.bytesS Z00 rfl (by simp) rfl rfl rfl rfl rfl rfl (ad:=⟨b,0,none⟩) (n:=1) (l:=[UInt8.ofNat (48+n / 10)]) rfl rfl (Z0d (b:=b) (cs:=[.int .u8 (UInt8.ofNat (48+n / 10)).toNat]) (k:=0) (n:=1) (T:=5) (.head _) (by simp)) ?_;refine BinOb.concatL (a:=[]) (b:=[UInt8.ofNat (48+n / 10)]) (by simp) ?_;refine BinOb.concatL (a:=[]++[UInt8.ofNat (48+n / 10)]) (b:=[UInt8.ofNat (48+n % 10)]) (by simp) ?_
  have e:dig n=[UInt8.ofNat (48+n / 10),UInt8.ofNat (48+n % 10)]:=by
   have:Nat.blt n 10=false:=by
    rw[Bool.eq_false_iff];simp[Nat.blt_eq]
    omega
   rw[dig,this];rfl
  exact⟨_,_,.sub (List.nil_sublist _) .refl,by rw[ZfN,e];rfl,rfl,rfl⟩
def Z87 (p:UInt8×UInt8):List UInt8:=Z4D p.1 Z9X++((bif decide ((p.1.toNat:Int)+1 < p.2.toNat) then [45] else [])++(bif decide ((p.1.toNat:Int) < p.2.toNat) then Z4D p.2 Z9X else []))
def Zb3 (rs:List (UInt8×UInt8)):Bool:=match rs with
 | [p]=>((p.1.toNat:Int) == 0) && ((p.2.toNat:Int) == 255)
 | _=>false
def Z8R (rs:List (UInt8×UInt8)):List UInt8:=bif Zb3 rs then [46] else [91]++rs.flatMap Z87++[93]
theorem Zjv (p:UInt8×UInt8):(Z87 p).length≤9:=by
 have h1:=Z1m p.1 Z9X;have h2:=Z1m p.2 Z9X;unfold Z87
 cases decide ((p.1.toNat:Int)+1 < p.2.toNat)<;>cases decide ((p.1.toNat:Int) < p.2.toNat)<;>simp<;>omega
set_option maxHeartbeats 2000000 in
theorem Zcu {I:GH} {a b c d:Int} (hws:∀ x∈[a,b,c,d],Z0G x):Spec Tryz.prog 238 [.agg #[.int .u64 a,.int .u64 b,.int .u64 c,.int .u64 d]] I []
  fun r I' M'=>r=.string (Z0f (Z8R (Z3A (Z8f [a,b,c,d]) 256)))∧I'=I∧M'=[]:=by
 refine Z01 [] Z00 Tryz.func238 rfl rfl rfl ?_;intro B h0;refine CallOb.mk [] [] _ (.refl _) (ZeV hws) ?_;rintro v J N - ⟨hJ,os,rfl,hos,rfl⟩;subst J
 have hrl:=ZaS (Z8f [a,b,c,d]) 256;generalize Z3A (Z8f [a,b,c,d]) 256=rs at *
 have hn:rs.length=os.n:=by
  have:=hos.len;rw[Z2S] at this;omega
 have main:Zb3 rs=false->Z8R rs=[91]++rs.flatMap Z87++[93]:=fun h=>by rw[Z8R,h];rfl
 have hfl:∀ i,((rs.take i).flatMap Z87).length≤9 * i:=fun i=>by
  have:=Z4g Z87 9 Zjv (rs.take i);have h2:=List.length_take_le i rs
  omega
 have row:∀ {i:Nat} (hi:i < rs.length) (M:List Blk),(∀ y∈os.blk 293,y∈M)->∃ ad,(os.a.map fun g=>(⟨g,0,none⟩:Addr))=some ad∧Rd I M (ad.add (i * 2)) 2 (Z0X rs[i]):=fun {i} hi M hM=>OS.ok.row (I:=I) (M:=M) (f:=Z0X) (fun _=>rfl) (by decide) hos (e:=293) hM hi
 refine GuardOb.mk (fun h1=>?_) (fun h1=>?_)
 ·have hn1:os.n=1:=by simp at h1;omega
  obtain⟨p,rfl⟩:∃ p,rs=[p]:=by
   match rs,(show rs.length=1 by omega) with
   | [p],_=>exact⟨p,rfl⟩
  obtain⟨ad,had,hrd⟩:=row (i:=0) (by simp) (os.blk 293++[]) (fun y hy=>by simp[hy]);refine IdxOb.mk ad 0 had rfl (by omega) ?_
  refine LoadOb.mk _ hrd ?_;refine BinOb.eq2 Z00 (e:=5) rfl rfl rfl rfl (by kernel_rfl) ?_;refine CondOb.mk (fun h2=>?_) (fun h2=>?_)
  ·exact⟨_,_,.sub (List.nil_sublist _) .refl,by rw[Z8R,show Zb3 [p]=true from h2];rfl,rfl,rfl⟩
  ·have hall:Zb3 [p]=false:=h2
   have hm:=main hall;refine LoopOb.inv (ι:=Nat×List UInt8) (fun x=>{ fl:=[(3,.val os.val),(4,.val (.string (Z0f x.2))),(5,.val (.int .i64 x.1))],gi:=I,mi:=os.blk 293 }) (fun x=>x.1≤os.n∧x.2=([p].take x.1).flatMap Z87) (fun x=>os.n - x.1) ?_ ?_
   ·exact⟨(0,[]),⟨Nat.zero_le _,rfl⟩,.perm (by simp) .refl,aF3,.nil⟩
   rintro⟨i,w⟩ ⟨hi,hw⟩;simp only at hi hw
   have hli:=hfl i;rw[←hw] at hli;refine CondOb.mk (fun h=>?_) (fun h=>?_)
   ·have hlt:i < os.n:=by simpa using h
    have hlt':i < ([p]:List (UInt8×UInt8)).length:=by omega
    obtain⟨ad,had,hrd⟩:=row (i:=i) hlt' (os.blk 293) (fun y hy=>hy)
    have etk:([p].take (i+1)).flatMap Z87=([p].take i).flatMap Z87++Z87 ([p]:List (UInt8×UInt8))[i]:=by
     rw[List.take_succ_eq_append_getElem hlt',List.flatMap_append];simp
    generalize hq:([p]:List (UInt8×UInt8))[i]=q at hrd etk;have hq1:=q.1.toNat_lt;have hq2:=q.2.toNat_lt;have hl1:=Z1m q.1 Z9X;have hl2:=Z1m q.2 Z9X;refine CodeOb.draw Z00 rfl rfl rfl ?_;refine IdxOb.mk ad i had rfl hlt ?_;refine ArrOb.mk 0 rfl (by decide) ?_;refine LoadOb.mk _ (Rd.part (k:=0 * 1) (m:=1) hrd (by decide)) ?_;refine ArithOb.mk (q.1.toNat:Int) (Z08 ⟨by omega,by omega⟩) ?_;refine IdxOb.mk ad i had rfl hlt ?_;refine ArrOb.mk 1 rfl (by decide) ?_;refine LoadOb.mk _ (Rd.part (k:=1 * 1) (m:=1) hrd (by decide)) ?_;refine ArithOb.mk (q.2.toNat:Int) (Z08 ⟨by omega,by omega⟩) ?_
    have hw1:IntKind.u8.wrap (q.1.toNat:Int)=(q.1.toNat:Int):=by simp[IntKind.wrap,IntKind.signed,IntKind.bits];omega
    have hw2:IntKind.u8.wrap (q.2.toNat:Int)=(q.2.toNat:Int):=by simp[IntKind.wrap,IntKind.signed,IntKind.bits];omega
    refine ArithOb.mk _ hw1 ?_;have hs1:=Z2X (I:=I) q.1 Zmt (by decide);rw[(Z4Y q.1).2] at hs1
    refine CallOb.mk [] (os.blk 293) _ (.refl _) hs1 ?_;rintro v J N - ⟨rfl,hJ,rfl⟩;subst J
    refine BinOb.concatL (a:=w) (by omega) ?_;refine ArithOb.mk ((q.1.toNat:Int)+1) (Z08 ⟨by omega,by omega⟩) ?_;have hs2:=Z2X (I:=I) q.2 Zmt (by decide);rw[(Z4Y q.2).2] at hs2
    refine CondOb.mk (fun k1=>?_) (fun k1=>?_)
    ·refine BinOb.concatL (b:=[45]) (by simp only[List.length_append,List.length_cons,List.length_nil];omega) ?_
     refine CondOb.mk (fun k2=>?_) (fun k2=>?_)
     ·refine ArithOb.mk _ hw2 ?_
      refine CallOb.mk [] (os.blk 293) _ (.refl _) hs2 ?_;rintro v J N - ⟨rfl,hJ,rfl⟩;subst J
      refine BinOb.concatL (by simp only[List.length_append,List.length_cons,List.length_nil];omega) ?_;refine ArithOb.mk _ (Z03 (i:=i) (by omega)) ?_;refine⟨(i+1,_),⟨⟨hlt,?_⟩,by simp only;omega⟩,.refl,aF3,.nil⟩;simp only
      rw[hw,etk,Z87,k1,k2,cond_true,cond_true,←List.append_assoc,←List.append_assoc]
     ·simp at k1 k2
      omega
    ·refine CondOb.mk (fun k2=>?_) (fun k2=>?_)
     ·refine ArithOb.mk _ hw2 ?_
      refine CallOb.mk [] (os.blk 293) _ (.refl _) hs2 ?_;rintro v J N - ⟨rfl,hJ,rfl⟩;subst J
      refine BinOb.concatL (by simp only[List.length_append,List.length_cons,List.length_nil];omega) ?_;refine ArithOb.mk _ (Z03 (i:=i) (by omega)) ?_;refine⟨(i+1,_),⟨⟨hlt,?_⟩,by simp only;omega⟩,.refl,aF3,.nil⟩;simp only
      rw[hw,etk,Z87,k1,k2,cond_false,cond_true,List.nil_append,←List.append_assoc]
     ·refine ArithOb.mk _ (Z03 (i:=i) (by omega)) ?_
      refine⟨(i+1,_),⟨⟨hlt,?_⟩,by simp only;omega⟩,.refl,aF3,.nil⟩;simp only
      rw[hw,etk,Z87,k1,k2,cond_false,cond_false,List.nil_append,List.append_nil]
   ·have:i=os.n:=by simp at h;omega
    subst this;have e:[p].take os.n=[p]:=List.take_of_length_le (by omega);refine BinOb.concatL (a:=[91]) (by simp only[List.length_cons,List.length_nil];omega) ?_
    refine BinOb.concatL (b:=[93]) (by simp only[List.length_append,List.length_cons,List.length_nil];omega) ?_;exact⟨_,_,.sub (List.nil_sublist _) .refl,by rw[hm,hw,e],rfl,rfl⟩
 ·have hall:Zb3 rs=false:=by
   match rs,hn with
   | [],_=>rfl
   | [p],hn=>simp at h1 hn;omega
   | _::_::_,_=>rfl
  have hm:=main hall;refine LoopOb.inv (ι:=Nat×List UInt8) (fun x=>{ fl:=[(3,.val os.val),(4,.val (.string (Z0f x.2))),(5,.val (.int .i64 x.1))],gi:=I,mi:=os.blk 293 }) (fun x=>x.1≤os.n∧x.2=(rs.take x.1).flatMap Z87) (fun x=>os.n - x.1) ?_ ?_
  ·exact⟨(0,[]),⟨Nat.zero_le _,rfl⟩,.perm (by simp) .refl,aF3,.nil⟩
  rintro⟨i,w⟩ ⟨hi,hw⟩;simp only at hi hw
  have hli:=hfl i;rw[←hw] at hli;refine CondOb.mk (fun h=>?_) (fun h=>?_)
  ·have hlt:i < os.n:=by simpa using h
   have hlt':i < (rs:List (UInt8×UInt8)).length:=by omega
   obtain⟨ad,had,hrd⟩:=row (i:=i) hlt' (os.blk 293) (fun y hy=>hy)
   have etk:(rs.take (i+1)).flatMap Z87=(rs.take i).flatMap Z87++Z87 (rs:List (UInt8×UInt8))[i]:=by
    rw[List.take_succ_eq_append_getElem hlt',List.flatMap_append];simp
   generalize hq:(rs:List (UInt8×UInt8))[i]=q at hrd etk;have hq1:=q.1.toNat_lt;have hq2:=q.2.toNat_lt;have hl1:=Z1m q.1 Z9X;have hl2:=Z1m q.2 Z9X;refine CodeOb.draw Z00 rfl rfl rfl ?_;refine IdxOb.mk ad i had rfl hlt ?_;refine ArrOb.mk 0 rfl (by decide) ?_;refine LoadOb.mk _ (Rd.part (k:=0 * 1) (m:=1) hrd (by decide)) ?_;refine ArithOb.mk (q.1.toNat:Int) (Z08 ⟨by omega,by omega⟩) ?_;refine IdxOb.mk ad i had rfl hlt ?_;refine ArrOb.mk 1 rfl (by decide) ?_;refine LoadOb.mk _ (Rd.part (k:=1 * 1) (m:=1) hrd (by decide)) ?_;refine ArithOb.mk (q.2.toNat:Int) (Z08 ⟨by omega,by omega⟩) ?_
   have hw1:IntKind.u8.wrap (q.1.toNat:Int)=(q.1.toNat:Int):=by simp[IntKind.wrap,IntKind.signed,IntKind.bits];omega
   have hw2:IntKind.u8.wrap (q.2.toNat:Int)=(q.2.toNat:Int):=by simp[IntKind.wrap,IntKind.signed,IntKind.bits];omega
   refine ArithOb.mk _ hw1 ?_;have hs1:=Z2X (I:=I) q.1 Zmt (by decide);rw[(Z4Y q.1).2] at hs1
   refine CallOb.mk [] (os.blk 293) _ (.refl _) hs1 ?_;rintro v J N - ⟨rfl,hJ,rfl⟩;subst J
   refine BinOb.concatL (a:=w) (by omega) ?_;refine ArithOb.mk ((q.1.toNat:Int)+1) (Z08 ⟨by omega,by omega⟩) ?_;have hs2:=Z2X (I:=I) q.2 Zmt (by decide);rw[(Z4Y q.2).2] at hs2
   refine CondOb.mk (fun k1=>?_) (fun k1=>?_)
   ·refine BinOb.concatL (b:=[45]) (by simp only[List.length_append,List.length_cons,List.length_nil];omega) ?_
    refine CondOb.mk (fun k2=>?_) (fun k2=>?_)
    ·refine ArithOb.mk _ hw2 ?_
     refine CallOb.mk [] (os.blk 293) _ (.refl _) hs2 ?_;rintro v J N - ⟨rfl,hJ,rfl⟩;subst J
     refine BinOb.concatL (by simp only[List.length_append,List.length_cons,List.length_nil];omega) ?_;refine ArithOb.mk _ (Z03 (i:=i) (by omega)) ?_;refine⟨(i+1,_),⟨⟨hlt,?_⟩,by simp only;omega⟩,.refl,aF3,.nil⟩;simp only
     rw[hw,etk,Z87,k1,k2,cond_true,cond_true,←List.append_assoc,←List.append_assoc]
    ·simp at k1 k2
     omega
   ·refine CondOb.mk (fun k2=>?_) (fun k2=>?_)
    ·refine ArithOb.mk _ hw2 ?_
     refine CallOb.mk [] (os.blk 293) _ (.refl _) hs2 ?_;rintro v J N - ⟨rfl,hJ,rfl⟩;subst J
     refine BinOb.concatL (by simp only[List.length_append,List.length_cons,List.length_nil];omega) ?_;refine ArithOb.mk _ (Z03 (i:=i) (by omega)) ?_;refine⟨(i+1,_),⟨⟨hlt,?_⟩,by simp only;omega⟩,.refl,aF3,.nil⟩;simp only
     rw[hw,etk,Z87,k1,k2,cond_false,cond_true,List.nil_append,←List.append_assoc]
    ·refine ArithOb.mk _ (Z03 (i:=i) (by omega)) ?_
     refine⟨(i+1,_),⟨⟨hlt,?_⟩,by simp only;omega⟩,.refl,aF3,.nil⟩;simp only
     rw[hw,etk,Z87,k1,k2,cond_false,cond_false,List.nil_append,List.append_nil]
  ·have:i=os.n:=by simp at h;omega
   subst this;have e:rs.take os.n=rs:=List.take_of_length_le (by omega);refine BinOb.concatL (a:=[91]) (by simp only[List.length_cons,List.length_nil];omega) ?_
   refine BinOb.concatL (b:=[93]) (by simp only[List.length_append,List.length_cons,List.length_nil];omega) ?_;exact⟨_,_,.sub (List.nil_sublist _) .refl,by rw[hm,hw,e],rfl,rfl⟩
end Go.V
