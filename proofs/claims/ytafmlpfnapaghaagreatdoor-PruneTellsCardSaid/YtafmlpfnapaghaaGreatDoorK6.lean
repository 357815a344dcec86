/- Part 6 of what the proofs of this seat share: the executor, data in memory, walks.
-/
import Derived.Test.YtafmlpfnapaghaaGreatDoorK5
import Derived.Test.YtafmlpfnapaghaaGreatDoorK3
import Derived.Test.YtafmlpfnapaghaaGreatDoorK2
import Derived.Test.YtafmlpfnapaghaaGreatDoorK4
set_option linter.all false
set_option maxHeartbeats 4000000
namespace Go.V
open Go
def qb:=@Nat.not_lt_zero
def Bx:=@List.any_eq_true
def Px:=@Nat.testBit_two_pow_sub_one
def Py:=@List.filter_eq_self
variable{t e g clock j ca b1 n f W n0:Nat}{u lB:Value}{x y os eF:Operand}{D bp D0:bF}{E:Env}{M M0 M':List aD}{a gX:Loc}{es:List (ap×ap)}{DW news xs us:List Value}{b:Bool}{args:List ap}{eJ:Array Nat}{n5:TypeDesc}{arr:Array Value}{base:Option Addr}{w w':World}{ut:Option dW}{aO ns:dW}{R α:Type}{cs:be ap}{op:Op}{dst:Option Nat}{F dN:Fr}{call:ap->List ap->bi->Option (ap×bi)}{ops:List Oper}{β:Nat->Nat}{X:cO}{Q:Exit->Act->World->Prop}{Y:gm}{I dM I' J:aT}{row:List (Nat×Nat)}{P:Program}{ex:tB}{ps:List Nat}{ff body:Code}{G:GT}{pr:lk}
section
variable{P:Program}{w:World}
def aiK{k:Nat}(aq:P.underlying t=some (.map k e)){d:TypeDesc}(af:P.underlying k=some d)(wo:MapKept.IsKey d u){l:List MapEntry}(ao:w.heap[g]?=some (.map l.toArray clock))
  {q:Option (Nat×Value)} (au:Instr.findNow d u l 0=some q) {inf:TypeInfo} {z:Value} (hi:P.info? e=some inf) (a2:inf.zero=some z) (ok:Bool) :
  (Instr.lookup t (.map (some g)) u ok).run P w=.ok (bif ok then .tuple #[(q.map (·.2)).getD z,.bool q.isSome]else(q.map (·.2)).getD z) w:=by
 have aC:(Instr.checkKey l.toArray.isEmpty 10000 k u).run P w=.ok () w:=CT af wo _ 9999;have t':(Instr.findKey k u l).run P w=.ok q w:=CU af au;have KD:(zeroValue e).run P w=.ok z w:=by simp[zeroValue,typeInfo,hi,a2]
 unfold Instr.lookup;simp only[b8,run_underlying aq,bU,CR ao,c3,aC,t'];cases q with
 |none=>cases ok<;>simp[KD]
 |some p=>cases ok<;>simp
def aiL{k:Nat}(aq:P.underlying t=some (.map k e)){d:TypeDesc}(af:P.underlying k=some d){v:Value}(wo:MapKept.IsKey d u){l:List MapEntry}(ao:w.heap[g]?=some (.map l.toArray clock))
  (au:Instr.findNow d u l 0=some none):(Instr.mapUpdate t (.map (some g)) u v).run P w=.ok () { w with heap:=w.heap.setIfInBounds g (.map (l++[({ key:=u,val:=v,born:=clock }:MapEntry)]).toArray (clock+1)) }:=by
 have aC:(Instr.checkKey false 10000 k u).run P w=.ok () w:=CT af wo _ 9999;have t':(Instr.findKey k u l).run P w=.ok none w:=CU af au;unfold Instr.mapUpdate;simp only[b8,run_underlying aq,bU,CR ao,aC,t',MY _ ao];congr 3;simp
def aiM{k:Nat}(aq:P.underlying t=some (.map k e)){d:TypeDesc}(af:P.underlying k=some d){v:Value}(wo:MapKept.IsKey d u){l:List MapEntry}(ao:w.heap[g]?=some (.map l.toArray clock))
 {c0:MapEntry} (au:Instr.findNow d u l 0=some (some (j,c0.val))) (aj:l[j]?=some c0) (ar:c0.key=u) :
  (Instr.mapUpdate t (.map (some g)) u v).run P w=.ok () { w with heap:=w.heap.setIfInBounds g (.map (l.modify j λe=>{ e with key:=u,val:=v }).toArray clock) }:=by
 have aC:(Instr.checkKey false 10000 k u).run P w=.ok () w:=CT af wo _ 9999;have t':(Instr.findKey k u l).run P w=.ok (some (j,c0.val)) w:=CU af au;have dc:(Instr.keyThatStays u u).run P w=.ok u w:=MapKept.run_keyThatStays wo;unfold Instr.mapUpdate;simp only[b8,run_underlying aq,bU,CR ao,aC,t'];simp only[z3,aj,mK,je,ar,dc,bU,MY _ ao];congr 3;show Obj.map _ _=Obj.map _ _;congr 1;apply gF;simp
end
section
variable{X:cO}{G:GT}{pr:lk}{D:bF}{m m':bi}{F:Fr}{an:be ap}{C:c8}{I:aT}{M:List aD}{K:fZ}{o:Oper}{v:ap}
def q3(X:cO)(G:GT)(pr:lk)(D:bF)(m:bi)(I:aT)(M:List aD)(v:ap)(m':bi)(dst:Option Nat)(F:Fr)(C:c8)(K:fZ):Prop:=
 ∀ bp u M',D.ext bp m.n->aS bp v u->c2 (dR X G pr) bp m' I M'->K (put dst (.val u) F) C I M'
def aiN(aP:o.op=.store t x y)(h:bN o.dst (Ka (X.E t) m (dV an x) (dV an y)) (λ_=>none)=some (v,m'))(H:ka D F an o.op.operands.toList)(hm:c2 (dR X G pr) D m I M)
  (k:q3 X G pr D m I M v m' o.dst F C K):hM X o F C I M K:=by
 obtain⟨dst,op,ty,pos,after,guard⟩:=o;simp only at aP;subst aP;cases dst with
 |some d=>cases h
 |none=>
  have U:Ka (X.E t) m (dV an x) (dV an y)=some (v,m'):=h;unfold Ka at U;obtain⟨i,hi,U⟩:=ct U;obtain⟨a,ae,U⟩:=ct U;obtain⟨b,aA,U⟩:=ct U;obtain⟨ah,U⟩:=fV U;obtain⟨m2,ab,-,-,ak⟩:=Pv (Y:=dR X G pr) U;cases ab;simp only at H;have aiO:=H x (by simp[Op.operands]) _ ae;have xX:∀ q,a≠.b q:=λq e=>by subst e;cases U
  obtain⟨u,aF,a6⟩:=aiO.wg xX;obtain⟨w,a7,bb⟩:=H.bY (x:=y) (by simp[Op.operands]) aA;obtain⟨g,off,pre,post,arr,T,rfl,aV,ga,ma,⟨id,e,gX,lp,tW,ao⟩,lZ⟩:=ak hm a6 bb.cells;simp only[hM,hi,a7,aF];have cQ:Nat.beq w.cells.size i.size=true:=by have:=bb.cells.len;rw[vq]at this;rw[this];exact ah
  rw[cQ];simp only[bt];refine⟨pre,post,arr,T,aV,rfl,ga,ma,?_⟩;exact k D (.tuple #[]) _ bF.ox (by simp only[aS];exact⟨[],.nil,rfl⟩) lZ
def Ya(al:∀ d,o.dst=some d->d<X.n)(bW:∀ c,o.op≠.defer c)
  (h:∀ (β:Nat->Nat) (a:Act) (w:World),cP X β a w F C I M->∃ u w' I' M',(execOp a.eval o).run X.P w=.ok (.value u) w'/\cP X β a w' F C I' M'/\K (put o.dst (.val u) F) C I' M'):bk X o F C I M K:=by
 refine⟨λa w Q ⟨β,a5⟩=>?_⟩;obtain⟨u,w',I',M',U,ab,ak⟩:=h β a w a5;exact j3 bW U ⟨_,_,_,_,⟨β,ab.put (x:=.val u) al rfl⟩,ak⟩
def aiP(al:o.dst=none)(bW:∀ c,o.op≠.defer c)
  (h:∀ (β:Nat->Nat) (a:Act) (w:World),cP X β a w F C I M->∃ w' I' M',(execOp a.eval o).run X.P w=.ok .skip w'/\cP X β a w' F C I' M'/\K F C I' M'):bk X o F C I M K:=by
 refine⟨λa w Q ⟨β,a5⟩=>?_⟩;obtain⟨w',I',M',U,ab,ak⟩:=h β a w a5;refine Cp bW U ⟨_,_,_,_,⟨β,?_⟩,ak⟩;rw[al];exact ab
def Yb(aR:cX X.P X.E)(al:∀ d,o.dst=some d->d<X.n){r:Option Operand}(aP:o.op=.makeMap t r)(h:Kb (X.E t) m=some (v,m'))(ag:∀ x,r=some x->∃ k n,bY F x=.val (.int k n))(hm:c2 (dR X G pr) D m I M)
  (k:q3 X G pr D m I M v m' o.dst F C K):bk X o F C I M K:=by
 unfold Kb at h;split at h
 ·rename_i sa r' sz gu e aq;obtain⟨d,fp,eY⟩:=(aR _ _ aq).fl;have U:d=.map gu e:=by cases d<;>simp_all[fe]
  subst U;obtain⟨bh,ab,ak⟩:=GZ h;cases ak;refine Ya al (by rw[aP];simp) fun β a w a5=>?_;refine⟨.map (some w.heap.size),w.alloc (.map #[] 0),I,⟨w.heap.size,.map #[] 0⟩::M,?_,a5.pu _,?_⟩
  ·unfold execOp;cases r with
   |none=>simp[aP,Instr.makeMap]| some x=>obtain⟨da,Fs,ae⟩:=ag x rfl;have Nm:=dx a5.an ae;simp[aP,Nm,Instr.makeMap,run_underlying fp,asInt,px]
  ·have au:∀ x∈M,x.num≠w.heap.size:=a5.holds.qq;refine k _ _ _ bF.DU (by simp only[aS];exact⟨_,bF.pe _ _ ⟨w.heap.size,0,0⟩,rfl⟩) (hm.new (a:=⟨w.heap.size,0,0⟩) ab au ?_);exact .map [] 0 (by simp) .nil
 ·cases h
def kZ.Yc(h:kZ D E M a (.map es)):∃ l clock,(⟨a.b,.map l.toArray clock⟩:aD)∈M/\p' D es l:=by
 cases h with
 |map l clock U ab=>exact⟨l,clock,U,ab⟩
def aS.map'{id:Nat}(h:aS D (.m id) u):∃ a,D id=some a/\u=.map (some a.b):=by simpa only[aS]using h
def aiQ(aR:cX X.P X.E)(al:∀ d,o.dst=some d->d<X.n){ok:Bool}(aP:o.op=.lookup t x y ok)(h:OV X.P X.E t m (dV an x) (dV an y) ok=some (v,m'))(H:ka D F an o.op.operands.toList)
  (hm:c2 (dR X G pr) D m I M) (k:q3 X G pr D m I M v m' o.dst F C K):bk X o F C I M K:=by
 unfold OV at h;split at h
 ·rename_i sa r' sz gu e id aiR aq U ab;obtain⟨wo,h⟩:=fV h;split at h
  ·rename_i es ao;obtain⟨r,ag,h⟩:=ct h;obtain⟨inf,hi,h⟩:=ct h;obtain⟨z,a2,h⟩:=ct h;obtain⟨sE,Ai,h⟩:=ct h;cases h;obtain⟨d,fp,eY⟩:=(aR _ _ aq).fl;have ie:d=.map gu e:=by cases d<;>simp_all[fe]
   subst ie;obtain⟨rU,rV,By⟩:=X7 aR wo;rw[aP]at H;obtain⟨r0,aF,a6⟩:=H.bY (x:=x) (by simp[Op.operands]) U;obtain⟨o6,a7,bb⟩:=H.bY (x:=y) (by simp[Op.operands]) ab;obtain⟨a,aX,rfl⟩:=a6.map';have he:=hm.iq _ _ _ ao aX;obtain⟨l,clock,aV,Pz⟩:=he.Yc;have ho:=X9 By bb 0 Pz ag;have KD:aS D sE z:=.of Ai;have fin:∀ {q:Option (Nat×Value)},Instr.findNow rU o6 l 0=some q->(r=none/\q=none\/∃ G2 j w,r=some G2/\q=some (j,w)/\aS D G2 w)->bk X o F C I M K:=fun {q} au a0=>by
    refine Ya al (by rw[aP];simp) fun β ac w a5=>?_;have fm:=aiK (P:=X.P) (w:=w) fp rV (By.isKey bb) (a5.holds.m _ aV) au hi a2 ok;have ex:=dx a5.an aF;have mX:=dx a5.an a7;refine⟨bif ok then .tuple #[(q.map (·.2)).getD z,.bool q.isSome]else(q.map (·.2)).getD z,w,I,M,?_,a5,k D _ M bF.ox ?_ hm⟩;·unfold execOp;simp only[aP,ex,mX,b8,fm,bU,c3]
    ·unfold Xm;rcases a0 with⟨rfl,rfl⟩ | ⟨G2,j,w',rfl,rfl,ai⟩
     ·cases ok
      ·exact KD
      ·exact .Kq (.cons KD (.cons (by simp only[aS];rfl) .nil))
     ·cases ok
      ·exact ai
      ·exact .Kq (.cons ai (.cons (by simp only[aS];rfl) .nil))
   cases r with
   |none=>exact fin ho (.inl ⟨rfl,rfl⟩)| some G2=>obtain⟨j,w,au,ai⟩:=ho;exact fin au (.inr ⟨G2,j,w,rfl,rfl,ai⟩)
  ·cases h
 ·cases h
def Yd(aR:cX X.P X.E){z:Operand}(aP:o.op=.mapUpdate t x y z\/o.op=.insert t x y z)(h:bN o.dst (GL X.E t m (dV an x) (dV an y) (dV an z)) (λ_=>none)=some (v,m'))(H:ka D F an o.op.operands.toList)
  (hm:c2 (dR X G pr) D m I M) (k:q3 X G pr D m I M v m' o.dst F C K):bk X o F C I M K:=by
 cases G0:o.dst with
 |some d=>rw[G0]at h;cases h
 |none=>
  rw[G0]at h k;have av:GL X.E t m (dV an x) (dV an y) (dV an z)=some (v,m'):=h;have vh:∀ q,q=x\/q=y\/q=z->q∈o.op.operands.toList:=λq a0=>by
   rcases aP with aP | aP<;>rw[aP]<;>simp[Op.operands]<;>exact a0
  unfold GL at av;split at av
  ·rename_i sa r' sz gu e id aiR sE aq U ab ak;obtain⟨wo,av⟩:=fV av;split at av
   ·rename_i es ao;obtain⟨uG,jI,av⟩:=ct av;obtain⟨bh,aL,bm⟩:=be.oq (some (fa.map uG)) m.t id;have j7:(m.t.na (some (fa.map uG)) id λt=>some (ap.t [],(⟨t,m.n⟩:bi)))=some (v,m'):=av;rw[aL]at j7;cases j7;obtain⟨d,fp,eY⟩:=(aR _ _ aq).fl;have ie:d=.map gu e:=by cases d<;>simp_all[fe]
    subst ie;obtain⟨rU,rV,By⟩:=X7 aR wo;obtain⟨r0,aF,a6⟩:=H.bY (x:=x) (vh x (.inl rfl)) U;obtain⟨o6,a7,bb⟩:=H.bY (x:=y) (vh y (.inr (.inl rfl))) ab;obtain⟨Gd,bC,b0⟩:=H.bY (x:=z) (vh z (.inr (.inr rfl))) ak;obtain⟨a,aX,rfl⟩:=a6.map';have he:=hm.iq _ _ _ ao aX;obtain⟨l,clock,aV,Pz⟩:=he.Yc;have fin:∀ (dy:List MapEntry) (Bz:Nat),p' D uG dy->(∀ w:World,w.heap[a.b]?=some (.map l.toArray clock)->(Instr.mapUpdate t (.map (some a.b)) o6 Gd).run X.P w=.ok () { w with heap:=w.heap.setIfInBounds a.b (.map dy.toArray Bz) }) ->
      bk X o F C I M K:=λdy Bz hY fm=>by
     obtain⟨pre,post,c4⟩:=r4 aV;have nd:M.Perm (⟨a.b,.map l.toArray clock⟩::(pre++post)):=by rw[c4];exact o3
     refine aiP G0 (by rcases aP with aP | aP<;>rw[aP]<;>simp) fun β ac w k8=>?_;have a5:cP X β ac w F C I (⟨a.b,.map l.toArray clock⟩::(pre++post)):=k8.jg (.perm nd .refl);have q4:=k8.holds.m _ aV;have ex:=dx a5.an aF;have mX:=dx a5.an a7;have Nn:=dx a5.an bC;have fN:=MapKept.heap_set (o':=Obj.map dy.toArray Bz) q4;refine⟨_,I,⟨a.b,.map dy.toArray Bz⟩::(pre++post),?_,a5.swap (w':={ w with heap:=w.heap.setIfInBounds a.b (.map dy.toArray Bz) }) (by simp) fN.1 fN.2 ⟨rfl,rfl⟩,?_⟩
     ·unfold execOp;rcases aP with aP | aP<;>simp only[aP,ex,mX,Nn,b8,fm w q4,bU,c3]
     ·have oN:∀ q∈M,q.num≠a.b->q∈(⟨a.b,.map dy.toArray Bz⟩:aD)::(pre++post):=λq a0 az=>by
       rcases ea.1 (nd.mem_iff.1 a0)with rfl | a0;·exact(az rfl).elim
       ·exact lV _ a0
      refine k D (.tuple #[]) _ bF.ox (by simp only[aS];exact⟨[],.nil,rfl⟩) ?_;refine hm.step (λi e hi=>(bm i e hi).imp (λq=>⟨q.1,ov q.2⟩) λq=>q) aX (bF.le_refl D) (λ_ _=>rfl) hm.jn (λ_ _ h=>h) (λi e ch bB hi kb q a0 az=>oN q a0 ?_) (.map dy Bz (by simp) hY) ?_;·rw[az];exact λah=>bB (hm.inj _ _ _ _ _ _ hi ao kb aX ah)
      ·exact λi e ch bB hi kb ah=>bB (hm.inj _ _ _ _ _ _ hi ao kb aX ah)
    rcases X' By bb b0 0 Pz jI with⟨au,gK⟩ | ⟨j,c0,au,aj,ar,Jz⟩;·exact fin _ (clock+1) (gK clock) λw q4=>aiL fp rV (By.isKey bb) q4 au
    ·rw[cM]at au;have mY:c0.key=o6:=by
      cases By with
      |int=>
       have:=bb.int;subst this;cases af:c0.key<;>rw[af]at ar<;>simp[Instr.sameNow]at ar
       obtain⟨rfl,h⟩:=ar;rw[h]
      |str=>
       have:=bb.str;subst this;cases af:c0.key<;>rw[af]at ar<;>simp[Instr.sameNow,X8]at ar
       rw[ar]
     exact fin _ clock Jz λw q4=>aiM fp rV (By.isKey bb) q4 au aj mY
   ·cases av
  ·cases av
end
section
variable{X:cO}{G:GT}{pr:lk}{D:bF}{m m':bi}{F:Fr}{an:be ap}{C:c8}{I:aT}{M:List aD}{K:fZ}{o:Oper}{v:ap}
def Ye(aR:cX X.P X.E)(al:∀ d,o.dst=some d->d<X.n){s d:Nat}(aP:o.op=.convert s d x){dC cc:Nat}{PA:List Value}(ar:X.E s=some ⟨ca,b1,DW,.slice e⟩)(ie:X.E d=some ⟨dC,cc,PA,.string⟩)(ah:DG (X.E e)=true)
  {id off n:Nat} (h:Kd G m id off n=some (v,m')) (ae:∃ a c,D id=some a/\bY F x=.val (.slice (some ⟨a.b,a.o+off,none⟩) n c)) (hm:c2 (dR X G pr) D m I M)
  (k:q3 X G pr D m I M v m' o.dst F C K):bk X o F C I M K:=by
 unfold Kd at h;obtain⟨a,c,aX,ex⟩:=ae;obtain⟨ad,l,vs,aF,a3,ay,h⟩:=wi (u:=.pointer (some ⟨a.b,a.o+off,none⟩)) hm (by simp only[aS];exact⟨a,aX,rfl⟩) h;cases aF;obtain⟨bd,nw,h⟩:=ct h;cases h;have ib:=Pw nw ay;have hlen:bd.length=n:=by have:=a3.2;obtain⟨_,_,_,_,_,ab⟩:=this;rw[<-ab,ib];simp
 subst ib;obtain⟨aO,he,jI⟩:∃ aO,X.E e=some aO/\aO.bH=.int .u8:=by
  unfold DG at ah;split at ah;·rename_i h;exact⟨_,h,rfl⟩
  ·cases ah
 refine bk.Dy aR aP al ar rfl he jI ie rfl ex hlen a3 ?_;exact k D _ M bF.ox (by simp only[aS]) hm
def aiS(aR:cX X.P X.E)(al:∀ d,o.dst=some d->d<X.n){s d:Nat}(aP:o.op=.convert s d x)(h:Ke (dR X G pr) m s d (dV an x)=some (v,m'))(H:ka D F an o.op.operands.toList)(hm:c2 (dR X G pr) D m I M)
  (k:q3 X G pr D m I M v m' o.dst F C K):bk X o F C I M K:=by
 unfold Ke at h;rw[aP]at H;split at h
 ·rename_i U ab ak;obtain⟨ah,h⟩:=fV h;obtain⟨u,aF,a6⟩:=H.bY (x:=x) (by simp[Op.operands]) ak;obtain⟨a,aX,rfl⟩:=a6.r8;exact Ye aR al aP U ab ah h ⟨a,_,aX,aF⟩ hm k
 ·rename_i U ab ak;obtain⟨ah,h⟩:=fV h;obtain⟨u,aF,a6⟩:=H.bY (x:=x) (by simp[Op.operands]) ak;obtain⟨a,aX,_,rfl⟩:=a6.uB;exact Ye aR al aP U ab ah h ⟨a,_,aX,aF⟩ hm k
 ·rename_i U ab ak;obtain⟨ah,h⟩:=fV h;obtain⟨u,aF,a6⟩:=H.bY (x:=x) (by simp[Op.operands]) ak;cases h;simp only[aS]at a6;subst a6;obtain⟨aO,he,jI⟩:∃ aO,X.E _=some aO/\aO.bH=.int .u8:=by
   unfold DG at ah;split at ah;·rename_i h;exact⟨_,h,rfl⟩
   ·cases ah
  refine bk.ahG aR aP al U rfl he jI ab rfl aF ?_;exact k D _ M bF.ox (by simp only[aS]) hm
 ·cases h
def Yf(q:List UInt8):bD D (q.map λb=>ap.i .u8 (.ofNat b.toNat)) (kM ⟨q.toArray⟩):=by
 unfold kM;simp only
 induction q with
 |nil=>exact .nil| cons b q a8=>exact .cons (by simp only[aS];rfl) a8
def KE{l:List Operand}{a b:ap}(h:nG an l=some [a,b]):∃ x y,l=[x,y]/\dV an x=some a/\dV an y=some b:=by
 match l,h with
 |[],h=>simp[nG]at h
 |[x],h=>
  simp only[nG]at h;split at h;·rename_i aF a7;cases a7;cases h
  ·cases h
 |[x,y],h=>
  simp only[nG]at h;split at h
  ·rename_i aF a7;split at a7
   ·rename_i bC di;cases di;cases a7;cases h;exact⟨x,y,rfl,aF,bC⟩
   ·cases a7
  ·cases h
 |x::y::z::l,h=>
  simp only[nG]at h;split at h
  ·rename_i aF a7;split at a7
   ·rename_i bC di;split at di
    ·cases di;cases a7;cases h
    ·cases di
   ·cases a7
  ·cases h
def c2.sub{M':List aD}(h:c2 (dR X G pr) D m I M)(ar:∀ x∈M,x∈M'):c2 (dR X G pr) D m I M':=
 ⟨λid e a hi aX=>(h.iq id e a hi aX).mono (bF.le_refl D) (λx ae _=>ar x ae),h.inj,h.jn,h.p8⟩
def aiT(aR:cX X.P X.E)(al:∀ d,o.dst=some d->d<X.n){args:Array Operand}(aP:o.op=.call { callee:=.builtin .copy,args:=args,argTypes:=eJ })(h:OX (dR X G pr) m eJ.toList (nG an args.toList)=some (v,m'))
  (H:ka D F an args.toList) (hm:c2 (dR X G pr) D m I M) (k:q3 X G pr D m I M v m' o.dst F C K):bk X o F C I M K:=by
 unfold OX at h;split at h
 ·rename_i t u id off n c q aq ay;split at h
  ·rename_i sa r' sz e n2;obtain⟨aO,he,h⟩:=ct h;obtain⟨ah,h⟩:=fV h;rw[b']at ah;obtain⟨m2,ab,-,-,ak⟩:=Pv (Y:=dR X G pr) h;cases ab;obtain⟨x,y,mw,te,aiU⟩:=KE ay;obtain⟨r0,ae,bb⟩:=H.bY (x:=x) (by rw[mw];simp) te;obtain⟨o6,aA,fy⟩:=H.bY (x:=y) (by rw[mw];simp) aiU;obtain⟨a,aX,rfl⟩:=bb.r8;have aiV:=fy.str;subst aiV;obtain⟨g,Ie,pre,post,arr,T,bC,aV,ga,ma,⟨ir,c0,gX,lp,tW,ao⟩,lZ⟩:=ak hm (u:=.pointer (some ⟨a.b,a.o+off,none⟩)) (by simp only[aS];exact⟨a,aX,rfl⟩) (Yf q);cases bC;have nd:M.Perm (⟨a.b,.cells arr T (0,0)⟩::(pre++post)):=by rw[aV];exact o3
   have BA:args=#[x,y]:=by apply gF;simpa using mw
   have BB:eJ=#[t,u]:=by apply gF;simpa using aq
   have cQ:(⟨q.toArray⟩:ByteArray).size=q.length:=by simp[ByteArray.size]
   have nt:(kM ⟨q.toArray⟩).length=q.length:=by simp[kM]
   refine bk.Tv aR (by rw[aP,BA,BB]) al n2 rfl he (dD ah.1) ae aA (by rw[cQ];exact b9 ah.2) (by rw[cQ,<-nt];exact ga) nd ?_;rw[cQ];have aiW:(pre++(⟨a.b,.cells (bG arr.toList (a.o+off) (kM ⟨q.toArray⟩)).toArray T (0,0)⟩:aD)::post).Perm (⟨a.b,.cells (bG arr.toList (a.o+off) (kM ⟨q.toArray⟩)).toArray T (0,0)⟩::(pre++post)):=o3;exact k D (.int .i64 q.length) _ bF.ox (by simp only[aS];rfl) (lZ.sub λx ae=>aiW.mem_iff.1 ae)
  ·cases h
 ·cases h
end
section
variable{P:Program}{w:World}
def Yg(t u ty e:Nat)(i:TypeInfo)(aq:P.underlying t=some (.slice e))(hu:P.underlying u=some n5)(pK:∀ k,n5≠.int k)(hi:P.info? e=some i)
 {off c T:Nat} (ao:w.heap[g]?=some (.cells arr T (0,0))) {x:Value} {m:Nat} (U:∀ v∈news,v.oneCell'=true)
  (hlen:∀ w',(Builtin.lenOf x).run P w'=.ok m w') (gK:(Builtin.firstCells i.size m x).run P w=.ok news.toArray w) (xg:n+m<=c) (ga:off+n*i.size+news.length<=arr.size) :
  (Builtin.append_ #[t,u] ty #[.slice (some ⟨g,off,none⟩) n c,x]).run P w=.ok (.slice (some ⟨g,off,none⟩) (n+m) c) (w.setRow g (bG arr.toList (off+n*i.size) news).toArray):=by
 have Fi:(match n5 with | .int _=>true | _=>false)=false:=by cases n5<;>first | rfl | exact(pK _ rfl).elim
 have dc:=run_storeCells_at P g (off+n*i.size) T news 0 arr w ao (by simpa using ga) U;simp only[nT]at dc;have aiX:(Addr.add ⟨g,off,none⟩ (n*i.size))=⟨g,off+n*i.size,none⟩:=dF _ rfl _;simp[Builtin.append_,run_underlying aq,run_underlying hu,sizeOf,typeInfo,hi,hlen,xg,gK,aiX,dc,bG]
def aiY(t u ty e:Nat)(i:TypeInfo)(z:Value)(aq:P.underlying t=some (.slice e))(hu:P.underlying u=some n5)(pK:∀ k,n5≠.int k)(hi:P.info? e=some i)(a2:i.zero=some z)(yH:z.cells.size=i.size)
 {c:Nat} (hold:(Builtin.firstCells i.size n (.slice base n c)).run P w.drew=.ok xs.toArray w.drew) (xY:xs.length=n*i.size) {x:Value} {m:Nat} (ay:news.length=m*i.size)
  (hlen:∀ w',(Builtin.lenOf x).run P w'=.ok m w') (gK:(Builtin.firstCells i.size m x).run P w.drew=.ok news.toArray w.drew) (xg:c<n+m) (b1:n+m<=maxLen) (cc:(n+m)*i.bytes<=140737488355328) :
  ∃ cap cur,(Builtin.append_ #[t,u] ty #[.slice base n c,x]).run P w=.ok (.slice (some ⟨w.heap.size,0,none⟩) (n+m) cap) (w.drew.alloc (.cells (xs++news++cur).toArray e (0,0)))/\n+m<=cap/\cap<=maxLen/\(xs++news++cur).length=cap*i.size:=by
 have Fi:(match n5 with | .int _=>true | _=>false)=false:=by cases n5<;>first | rfl | exact(pK _ rfl).elim
 have az:¬ (n+m<=c):=by omega
 have jG:n+m<=9223372036854775807:=by simp only[maxLen]at b1;exact b1
 have Fj:¬ (9223372036854775807<((n:Int)+(m:Int))):=by omega
 have Fk:¬ (281474976710656<Builtin.nextslicecap (n+m) c*i.bytes):=by have:=growslice_fits (by omega:c<n+m) cc;omega
 have bS:=grownCap_ge w (n+m) c e;have kJ:grownCap w (n+m) c e<=maxLen:=grownCap_le_maxLen w (n+m) c e b1;refine⟨grownCap w (n+m) c e,(Builtin.zeroCells z.cells (grownCap w (n+m) c e-(n+m))).toList,?_,bS,kJ,?_⟩
 ·simp[Builtin.append_,run_underlying aq,run_underlying hu,sizeOf,typeInfo,zeroValue,hi,a2,hlen,az,Fj,Fk,Question.forced,gK,hold,newRow,grownCap];congr 2;apply gF;simp
 ·rw[cz,cz,xY,ay,vq,size_zeroCells,yH,<-lG,<-lG];congr 1;omega
end
section
variable{X:cO}{G:GT}{pr:lk}{D:bF}{m m':bi}{F:Fr}{an:be ap}{C:c8}{I:aT}{M:List aD}{K:fZ}{o:Oper}{v:ap}
def bq.PB{ad:Addr}{vs:List Value}(h:bq I M ad n vs)(jf:ef I M w)(j:Nat)(v:Value)(aj:vs[j]?=some v):w.cell? (ad.add j)=some v:=by
 obtain⟨c4,cs,T,an,eR,ai,ay⟩:=h;rw[dF _ c4,u' (eR.heap jf)];rw[<-ai,kA]at aj;split at aj
 ·rw[oG]at aj;simpa using aj
 ·cases aj
def aiZ{x:ap}{k:Nat}{K:List ap->Option R}{r:R}(h:DH G m.t x aO.size K=some r)(ar:wb ut aO x=true)(ae:aS D x u)(hm:c2 (dR X G pr) D m I M)(af:r7 x=some k)(av:k≠0) :
  ∃ l vs,K l=some r/\bD D l vs/\(∀ w',(Builtin.lenOf u).run X.P w'=.ok k w')/\(∀ w,ef I M w->(Builtin.firstCells aO.size k u).run X.P w=.ok vs.toArray w)/\vs.length=k*aO.size /\
   ((∃ a b z e,ut=some ⟨a,b,z,.slice e⟩)\/∃ a b z,ut=some ⟨a,b,z,.string⟩):=by
 have PC:(∃ a b z e,ut=some ⟨a,b,z,.slice e⟩)\/∃ a b z,ut=some ⟨a,b,z,.string⟩:=by
  unfold wb at ar;split at ar<;>first | exact .inl ⟨_,_,_,_,rfl⟩ | exact .inr ⟨_,_,_,rfl⟩ | cases ar
 cases x<;>simp only[DH]at h<;>first | cases h | skip
 case sn=>simp[r7,wa]at af;exact(av af.symm).elim
 case so=>simp[r7,wa]at af;exact(av af.symm).elim
 case sl id off n c=>
  simp only[r7,wa,jY]at af;subst af;obtain⟨a,aX,rfl⟩:=ae.r8;obtain⟨ad,l,vs,aF,a3,ay,h⟩:=wi (u:=.pointer (some ⟨a.b,a.o+off,none⟩)) hm (by simp only[aS];exact⟨a,aX,rfl⟩) h;cases aF;have q5:=a3;obtain⟨_,_,_,_,_,_,hlen⟩:=q5;exact⟨l,vs,h,ay,λ_=>rfl,λw hw=>run_firstCells_some (P:=X.P) w aO.size n _ n c vs hlen (λj v aj=>a3.PB hw j v aj),hlen,PC⟩
 case sx id off e n=>
  simp only[r7,wa,jY]at af;subst af;obtain⟨a,aX,_,rfl⟩:=ae.uB;obtain⟨ad,l,vs,aF,a3,ay,h⟩:=wi (u:=.pointer (some ⟨a.b,a.o+off,none⟩)) hm (by simp only[aS];exact⟨a,aX,rfl⟩) h;cases aF;have q5:=a3;obtain⟨_,_,_,_,_,_,hlen⟩:=q5;exact⟨l,vs,h,ay,λ_=>rfl,λw hw=>run_firstCells_some (P:=X.P) w aO.size n _ n _ vs hlen (λj v aj=>a3.PB hw j v aj),hlen,PC⟩
 case s q=>
  simp only[r7,jY]at af;subst af;have ai0:aO.size=1:=by
   unfold wb at ar;split at ar<;>first | exact dD ar | (rename_i e;cases e) | cases ar
  have:=ae.str;subst this;have a0:(⟨q.toArray⟩:ByteArray).size=q.length:=by simp[ByteArray.size]
  refine⟨_,kM ⟨q.toArray⟩,h,Yf q,λw=>?_,λw hw=>?_,by simp[kM,ai0],PC⟩;·show Result.ok _ _=_;rw[a0]
  ·have:=Ti w aO.size (P:=X.P) ⟨q.toArray⟩;rw[a0]at this;exact this
def PD(aR:cX X.P X.E)(al:∀ d,o.dst=some d->d<X.n){s:Operand}{u:Nat}(aP:o.op=.call { callee:=.builtin .append,args:=#[s,x],argTypes:=#[t,u] })
 (aq:X.E t=some ⟨ca,b1,DW,.slice e⟩) (hu:X.E u=some ns) (fL:∀ k,ns.bH≠.int k) (he:X.E e=some aO)
 {c k:Nat} {PE:Value} (ar:bY F s=.val (.slice base n c)) (ae:bY F x=.val PE) (xY:xs.length=n*aO.size) (kI:news.length=k*aO.size) (U:gh news=true)
  (hlen:∀ w',(Builtin.lenOf PE).run X.P w'=.ok k w') (gK:∀ w,ef I M w->(Builtin.firstCells aO.size k PE).run X.P w=.ok news.toArray w)
  (hold:∀ w,ef I M w->(Builtin.firstCells aO.size n (.slice base n c)).run X.P w=.ok xs.toArray w) (b1:n+k<=maxLen) (cc:(n+k)*aO.bytes<=140737488355328)
  (ai1:n+k<=c->∃ g off T arr pre post,base=some ⟨g,off,none⟩/\M=pre++⟨g,.cells arr T (0,0)⟩::post/\off+n*aO.size+news.length<=arr.size /\ K (put o.dst (.val (.slice base (n+k) c)) F) C I (pre++⟨g,.cells (bG arr.toList (off+n*aO.size) news).toArray T (0,0)⟩::post))
  (ai2:c<n+k->∀ b cap cur,I b=none->(∀ y∈M,y.num≠b)->n+k<=cap->cap<=maxLen->(xs++news++cur).length=cap*aO.size ->
   K (put o.dst (.val (.slice (some ⟨b,0,none⟩) (n+k) cap)) F) C I (⟨b,.cells (xs++news++cur).toArray e (0,0)⟩::M)):bk X o F C I M K:=by
 refine⟨λa w Q ⟨β,a5⟩=>?_⟩;obtain⟨inf,z,hi,e3,hA,hB,kg⟩:=(aR _ _ he).inf;obtain⟨d,fp,eY⟩:=(aR _ _ hu).fl;obtain⟨jH,pL,qG⟩:=(aR _ _ aq).fl;have xh:jH=.slice e:=by cases jH<;>simp_all[fe]
 subst xh;have yH:z.cells.size=inf.size:=by rw[e3,<-(aR _ _ he).len,<-kg];simp
 have es:=dx a5.an ar;have ex:=dx a5.an ae;have pK:∀ k,d≠.int k:=λk c0=>fL k (by rw[<-eY,c0];rfl);rw[<-e3]at xY kI hold gK;by_cases xg:n+k<=c
 ·obtain⟨g,off,T,arr,pre,post,rfl,aV,ga,af⟩:=ai1 xg;rw[<-e3]at ga af;have ao:w.heap[g]?=some (.cells arr T (0,0)):=a5.holds.m ⟨g,.cells arr T (0,0)⟩ (by rw[aV];simp);have fm:=Yg (P:=X.P) (w:=w) t u o.type e inf pL fp pK hi ao (Ab U) hlen (gK w a5.holds) xg ga;refine j3 (by rw[aP];simp) ?_ ⟨_,_,_,_,⟨β,cP.put (x:=.val (.slice (some ⟨g,off,none⟩) (n+k) c)) (a5.yi aV) al rfl⟩,af⟩;unfold execOp;simp only[aP,resolve,invoke,builtin,b8,c3,bU,vr,cZ,jj,es,ex,fm]
 ·have jf:ef I M w.drew:=a5.holds.heap rfl;obtain⟨cap,cur,fm,ab,ak,aL⟩:=aiY (P:=X.P) (w:=w) t u o.type e inf z pL fp pK hi hB yH (hold w.drew jf) xY kI hlen (gK w.drew jf) (by omega) b1 (by rw[hA];exact cc);have qH:cP X β a w.drew F C I M:=a5.world rfl;rw[e3]at aL;refine j3 (by rw[aP];simp) ?_ ⟨_,_,_,_,⟨β,cP.put (x:=.val (.slice (some ⟨w.heap.size,0,none⟩) (n+k) cap)) (qH.pu (.cells (xs++news++cur).toArray e (0,0))) al rfl⟩,ai2 (by omega) w.heap.size cap cur a5.holds.rq a5.holds.qq ab ak aL⟩;unfold execOp;simp only[aP,resolve,invoke,builtin,b8,c3,bU,vr,cZ,jj,es,ex,fm]
def Yh{u:Nat}{x:ap}(h:wb (X.E u) aO x=true):∃ ns,X.E u=some ns/\∀ k,ns.bH≠.int k:=by
 unfold wb at h;split at h<;>first | (cases h;done) | (rename_i e;exact⟨_,e,by simp⟩) | (rename_i e _;exact⟨_,e,by simp⟩) | (rename_i e _ _;exact⟨_,e,by simp⟩)
def ai3{s:ap}(h:DJ s=true)(ar:aS D s u):∃ a n c,u=.slice a n c/\n<=c:=by
 cases s<;>simp only[DJ,jX]at h
 case sn=>exact⟨_,_,_,ar.Bt,b2 _⟩
 case so=>obtain⟨a,c,rfl⟩:=ar.Ko;exact⟨_,_,_,rfl,bQ _⟩
 case sl=>obtain⟨a,_,rfl⟩:=ar.r8;exact⟨_,_,_,rfl,b9 h⟩
 case sx=>obtain⟨a,_,hle,rfl⟩:=ar.uB;exact⟨_,_,_,rfl,by omega⟩
def ai4{x:ap}(ar:wb ut aO x=true)(ae:aS D x u)(af:r7 x=some 0):(∃ b c,u=.slice b 0 c)\/u=.string .empty:=by
 cases x<;>simp[r7,wa]at af
 case sn=>exact .inl ⟨_,_,ae.Bt⟩
 case so=>obtain⟨a,c,rfl⟩:=ae.Ko;exact .inl ⟨_,_,rfl⟩
 case sl=>subst af;obtain⟨a,_,rfl⟩:=ae.r8;exact .inl ⟨_,_,rfl⟩
 case sx=>subst af;obtain⟨a,_,_,rfl⟩:=ae.uB;exact .inl ⟨_,_,rfl⟩
 case gs=>subst af;exact .inl ⟨_,_,ae.Pd⟩
 case s=>subst af;exact .inr ae.str
noncomputable abbrev PF(X:cO)(G:GT)(m:bi)(s x:ap)(aO:dW)(aZ e:Nat):List ap->Option (ap×bi):=λl=>bN (some aZ) none λk=>bX (Nat.beq k 0) (bX (DJ s) (some (s,m)) none) (bX (l.all ap.one) (GI G m s l k aO.size aO.bytes e) none)
def ai5(aR:cX X.P X.E)(al:∀ d,o.dst=some d->d<X.n){u:Nat}(aP:o.op=.call { callee:=.builtin .append,args:=#[os,eF],argTypes:=#[t,u] })
 (aq:X.E t=some ⟨ca,b1,DW,.slice e⟩) {s x:ap} (uH:wb (X.E u) aO x=true) (he:X.E e=some aO) (af:r7 x=some 0) {us:Value}
  (es:bY F os=.val us) (gs:aS D s us) (ex:bY F eF=.val lB) (zB:aS D x lB) (h:DH G m.t x aO.size (PF X G m s x aO 0 e)=some (v,m'))
  (hm:c2 (dR X G pr) D m I M) (k:q3 X G pr D m I M v m' o.dst F C K):bk X o F C I M K:=by
 have ab:∃ l,PF X G m s x aO 0 e l=some (v,m'):=by
  cases x<;>simp only[DH]at h<;>first | cases h | exact⟨_,h⟩ | skip
  case sl=>obtain⟨a,aX,rfl⟩:=zB.r8;obtain⟨_,l,_,_,_,_,h⟩:=wi (u:=.pointer (some ⟨a.b,a.o+_,none⟩)) hm (by simp only[aS];exact⟨a,aX,rfl⟩) h;exact⟨l,h⟩
  case sx=>obtain⟨a,aX,_,rfl⟩:=zB.uB;obtain⟨_,l,_,_,_,_,h⟩:=wi (u:=.pointer (some ⟨a.b,a.o+_,none⟩)) hm (by simp only[aS];exact⟨a,aX,rfl⟩) h;exact⟨l,h⟩
 obtain⟨l,ab⟩:=ab;have ak:bX (DJ s) (some (s,m)) none=some (v,m'):=ab;obtain⟨aC,ak⟩:=fV ak;cases ak;obtain⟨a,n,c,rfl,ml⟩:=ai3 aC gs;obtain⟨ns,hu,fL⟩:=Yh uH;exact bk.IP aR aP al aq rfl hu fL he es ml ex (ai4 uH zB af) (k D _ M bF.ox gs hm)
def ai6(aR:cX X.P X.E)(al:∀ d,o.dst=some d->d<X.n){u:Nat}(aP:o.op=.call { callee:=.builtin .append,args:=#[os,eF],argTypes:=#[t,u] })
 (aq:X.E t=some ⟨ca,b1,DW,.slice e⟩) (hu:X.E u=some ns) (fL:∀ k,ns.bH≠.int k) (he:X.E e=some aO) {us:Value} {id off n c aZ:Nat}
  (es:bY F os=.val us) (gs:aS D (.sl id off n c) us) (ex:bY F eF=.val lB) {l:List ap} {vs:List Value} (h:OT G m id off n c l aZ aO.size e=some (v,m')) (jG:n+aZ<=maxLen) (hc:(n+aZ)*aO.bytes<=140737488355328)
  (ay:bD D l vs) (o2:vs.length=aZ*aO.size) (U:gh vs=true) (hlen:∀ w',(Builtin.lenOf lB).run X.P w'=.ok aZ w') (gK:∀ w,ef I M w->(Builtin.firstCells aO.size aZ lB).run X.P w=.ok vs.toArray w)
  (hm:c2 (dR X G pr) D m I M) (k:q3 X G pr D m I M v m' o.dst F C K):bk X o F C I M K:=by
 have G3:∀ {q:List Value} {c:Nat},q.length=c*aO.size->∀ i,(dR X G pr).E e=some i->q.length=c*i.size:=λa0 i hi=>by have:X.E e=some i:=hi;rw[he]at this;cases this;exact a0
 obtain⟨a,aX,rfl⟩:=gs.r8;unfold OT at h;by_cases ag:n+aZ<=c
 ·have ah:Nat.ble (Nat.add n aZ) c=true:=xO ag;rw[ah]at h;have aG:xT m (.p id (Nat.add off (Nat.mul n aO.size))) l (λm=>some (ap.sl id off (Nat.add n aZ) c,m))=some (v,m'):=h;obtain⟨m2,ab,-,-,ak⟩:=Pv (Y:=dR X G pr) aG;cases ab;obtain⟨g,Ie,pre,post,arr,T,aF,aV,ga,ma,⟨ir,c0,gX,lp,tW,ao⟩,lZ⟩:=ak hm (u:=.pointer (some ⟨a.b,a.o+(off+n*aO.size),none⟩)) (by simp only[aS];exact⟨a,aX,rfl⟩) ay;cases aF;refine⟨λac w Q ⟨β,a5⟩=>?_⟩;obtain⟨inf,z,hi,e3,hA,hB,kg⟩:=(aR _ _ he).inf;obtain⟨d,fp,eY⟩:=(aR _ _ hu).fl;obtain⟨jH,pL,qG⟩:=(aR _ _ aq).fl;have xh:jH=.slice e:=by cases jH<;>simp_all[fe]
  subst xh;have ao:w.heap[a.b]?=some (.cells arr T (0,0)):=a5.holds.m ⟨a.b,.cells arr T (0,0)⟩ (by rw[aV];simp);have uG:=dx a5.an es;have BC:=dx a5.an ex;rw[<-e3]at gK;have fm:=Yg (P:=X.P) (w:=w) t u o.type e inf pL fp (λk c0=>fL k (by rw[<-eY,c0];rfl)) hi ao (Ab U) hlen (gK w a5.holds) ag (off:=a.o+off) (by rw[e3];omega);rw[e3,tr]at fm;have qH:=a5.yi (cs':=(bG arr.toList (a.o+(off+n*aO.size)) vs).toArray) aV;refine j3 (by rw[aP];simp) ?_ ⟨_,_,_,_,⟨β,cP.put (x:=.val (.slice (some ⟨a.b,a.o+off,none⟩) (n+aZ) c)) qH al rfl⟩,?_⟩;·unfold execOp;simp only[aP,resolve,invoke,builtin,b8,c3,bU,vr,cZ,jj,uG,BC,fm]
  ·exact k D _ _ bF.ox (by simp only[aS];exact⟨a,aX,rfl⟩) lZ
 ·have ah:Nat.ble (Nat.add n aZ) c=false:=by
   cases ah:Nat.ble (Nat.add n aZ) c with
   |false=>rfl| true=>exact absurd (b9 ah) ag
  rw[ah]at h;have aG:ta G m.t (.p id off) (Nat.mul n aO.size) (λdL=>uz m (dL++l) e λid m=>some (ap.sx id 0 0 (Nat.add n aZ),m))=some (v,m'):=h;obtain⟨ad,dL,xs,aF,a3,gN,ab⟩:=wi (u:=.pointer (some ⟨a.b,a.o+off,none⟩)) hm (by simp only[aS];exact⟨a,aX,rfl⟩) aG;cases aF;obtain⟨m2,b5,az,fw⟩:=Ps (Y:=dR X G pr) ab;cases b5;have q5:=a3;obtain⟨_,_,_,_,_,_,e8⟩:=q5;refine PD aR al aP aq hu fL he es ex e8 o2 U hlen gK (λw hw=>run_firstCells_some (P:=X.P) w aO.size n _ n c xs e8 (λj v aj=>a3.PB hw j v aj)) jG hc (λgP=>(ag gP).elim) λ_ b cap cur cg au sb G4 G5=>?_;refine k _ _ _ bF.DU ?_ (fw cur hm au (gN.append ay) (G3 G5) G4);simp only[aS];exact⟨_,bF.pe _ _ _,by simpa using sb,by simp⟩
def ai7(aR:cX X.P X.E)(al:∀ d,o.dst=some d->d<X.n){u:Nat}(aP:o.op=.call { callee:=.builtin .append,args:=#[os,eF],argTypes:=#[t,u] })
 (aq:X.E t=some ⟨ca,b1,DW,.slice e⟩) (hu:X.E u=some ns) (fL:∀ k,ns.bH≠.int k) (he:X.E e=some aO) {us:Value} {id n fq aZ:Nat}
  (es:bY F os=.val us) (gs:aS D (.sx id 0 0 n) us) (ex:bY F eF=.val lB) (ao:m.t.get id=some (.cells cs e fq)) {l:List ap} {vs:List Value} (h:OU m id n cs fq l aZ aO.size e=some (v,m')) (jG:n+aZ<=maxLen) (hc:(n+aZ)*aO.bytes<=140737488355328)
  (ay:bD D l vs) (o2:vs.length=aZ*aO.size) (U:gh vs=true) (hlen:∀ w',(Builtin.lenOf lB).run X.P w'=.ok aZ w') (gK:∀ w,ef I M w->(Builtin.firstCells aO.size aZ lB).run X.P w=.ok vs.toArray w)
  (hm:c2 (dR X G pr) D m I M) (k:q3 X G pr D m I M v m' o.dst F C K):bk X o F C I M K:=by
 obtain⟨a,aX,hle,rfl⟩:=gs.uB;have py:=hm.iq _ _ _ ao aX;obtain⟨arr,xZ,aV,cQ,aC,af,pf⟩:=py;unfold OU at h;obtain⟨zy,h⟩:=fV h;have Yi:n*aO.size<=fq:=b9 zy;obtain⟨t1,ab,ak⟩:=be.oq (none:Option fa) m.t id;rw[ab]at h;obtain⟨cs',aL,bm⟩:=be.xW l cs (Nat.mul n aO.size);have aG:be.xP l cs (Nat.mul n aO.size) (λcs=>Bn (⟨t1,m.n⟩:bi) (.cells cs e (Nat.mul (Nat.add n aZ) aO.size)) λid m=>some (ap.sx id 0 0 (Nat.add n aZ),m))=some (v,m'):=h;rw[aL]at aG;obtain⟨t2,b5,fw⟩:=GZ aG;cases fw;have kl:∀ i eZ,t1.get i=some eZ->i≠id/\m.t.get i=some eZ:=λi eZ hi=>by
  rcases ak i eZ hi with⟨_,fu⟩ | fu;·cases fu
  ·exact fu
 have Yj:c2 (dR X G pr) D ⟨t1,m.n⟩ I M:=⟨λi eZ b hi=>hm.iq i eZ b (kl i eZ hi).2,λi gn eZ zC b ic hi ck=>hm.inj i gn eZ zC b ic (kl i eZ hi).2 (kl gn zC ck).2,hm.jn,hm.p8⟩;have Yk:arr.size=a.c*aO.size:=by have:=af aO he;rw[xZ,cM]at this;exact this
 have Kn:=ay.len;have xY:((arr.toList.take (n*aO.size)).length=n*aO.size):=by rw[fH,vq];omega
 have A7:∀ j,j<n*aO.size->∀ v,cs.get j=some v->∃ x,(arr.toList.take (n*aO.size))[j]?=some x/\aS D v x:=λj aj v ai=>by obtain⟨x,a6,bb⟩:=aC j v (by omega) ai;rw[xZ,cM]at a6;exact⟨x,by rw[kA,cw aj];simpa using a6,bb⟩
 have Yl:∀ (bp:bF) (M':List aD) (b eK:Nat) (rest:List Value),D.le bp->(⟨b,.cells (arr.toList.take (n*aO.size)++vs++rest).toArray e (0,0)⟩:aD)∈M'->(arr.toList.take (n*aO.size)++vs++rest).length=eK*aO.size->eK<=maxLen ->
   kZ bp X.E M' ⟨b,0,eK⟩ (.cells cs' e (Nat.mul (Nat.add n aZ) aO.size)):=by
  intro bp M' b eK rest dn PG ai8 ai9;have hmul:(n+aZ)*aO.size=n*aO.size+aZ*aO.size:=lG _ _ _;refine .cells _ rfl PG ?_ (λi v hi G1=>?_) (λi hi=>?_) ai9;·show 0+(n+aZ)*aO.size<=_;rw[jZ,cz,cz,xY,o2];omega
  ·have ck:i<n*aO.size+aZ*aO.size:=by have:i<(n+aZ)*aO.size:=hi;omega
   simp only[cM,z3];rcases bm i v G1 with⟨a6,bb⟩ | ⟨a6,bb⟩;·have KF:n*aO.size<=i:=a6;obtain⟨x,b0,fy⟩:=ay.get (i:=i-n*aO.size) bb;refine⟨x,?_,fy.mono dn⟩;rw[fx,pI (by omega),xY,sq (by omega)];exact b0
   ·have KF:i<n*aO.size:=by
     rcases a6 with a6 | a6;·exact a6
     ·have:n*aO.size+l.length<=i:=a6;omega
    obtain⟨x,b0,fy⟩:=A7 i KF v bb;refine⟨x,?_,fy.mono dn⟩;rw[fx,sq (by omega)];exact b0
  ·rw[he]at hi;cases hi;simpa using ai8
 refine PD aR al aP aq hu fL he es ex xY o2 U hlen gK (λw hw=>?_) jG hc (λag=>?_) λ_ b cap cur cg au sb G4 G5=>?_
 ·refine run_firstCells_some (P:=X.P) w aO.size n _ n _ _ xY λj v aj=>?_;rw[dF _ rfl,u' (hw.m _ aV)];rw[kA]at aj;split at aj
  ·rw[xZ];simpa using aj
  ·cases aj
 ·
  obtain⟨pre,post,c4⟩:=r4 aV;rw[A5]at ag;have ga:a.o+0+n*aO.size+vs.length<=arr.size:=by have fP:=rl aO.size ag;rw[lG]at fP;rw[xZ,Yk,o2];omega
  refine⟨a.b,a.o+0,e,arr,pre,post,rfl,c4,ga,?_⟩;have Ym:bG arr.toList (a.o+0+n*aO.size) vs=arr.toList.take (n*aO.size)++vs++arr.toList.drop (n*aO.size+vs.length):=by rw[xZ];simp only[bG,cM]
  rw[Ym];have oN:∀ q∈M,q.num≠a.b->q∈pre++(⟨a.b,.cells (arr.toList.take (n*aO.size)++vs++arr.toList.drop (n*aO.size+vs.length)).toArray e (0,0)⟩:aD)::post:=λq a0 az=>by
   rw[c4]at a0;rcases dm.1 a0 with a0 | a0;·exact dm.2 (.inl a0)
   ·rcases ea.1 a0 with rfl | a0
    ·exact(az rfl).elim
    ·exact dm.2 (.inr (lV _ a0))
  have G6:∀ i eZ b,t1.get i=some eZ->D i=some b->b.b≠a.b:=λi eZ b hi ah BD=>(kl i eZ hi).1 (hm.inj _ _ _ _ _ _ (kl i eZ hi).2 ao ah aX BD);refine k _ _ _ bF.DU ?_ (Yj.step (m:=⟨t1,m.n⟩) (j:=m.n) (λi eZ hi=>(b5 i eZ hi).imp (λq=>⟨q.1,ov q.2⟩) λq=>q) (D.pe _ ⟨a.b,0,a.c⟩) (bF.zw _ hm.fresh) (λi hi=>by unfold bF.set;rw[cB hi]) (λi b ah=>?_) (λ_ _ h=>h) (λi eZ b bB hi ah q a0 az=>oN q a0 (by rw[az];exact G6 i eZ b hi ah)) (Yl _ _ _ _ (arr.toList.drop (n*aO.size+vs.length)) (bF.zw _ hm.fresh) (by simp) ?_ pf) λi eZ b bB hi ah=>G6 i eZ b hi ah);·simp only[aS];exact⟨_,bF.pe _ _ _,by simpa using ag,by rw[xZ];rfl⟩
  ·unfold bF.set at ah;split at ah
   ·show i<m.n+1;omega
   ·have:=hm.jn _ _ ah;show i<m.n+1;omega
  ·rw[<-Ym,Pu (by simpa using ga)];simpa using Yk
 ·
  refine k _ _ _ bF.DU ?_ (Yj.new (m:=⟨t1,m.n⟩) (a:=⟨b,0,cap⟩) b5 au (Yl _ _ _ _ _ (bF.zw _ hm.fresh) (by simp) G5 G4));simp only[aS];exact⟨_,bF.pe _ _ _,by simpa using sb,by simp⟩
def aja(aR:cX X.P X.E)(al:∀ d,o.dst=some d->d<X.n){u:Nat}(aP:o.op=.call { callee:=.builtin .append,args:=#[os,eF],argTypes:=#[t,u] })
 (aq:X.E t=some ⟨ca,b1,DW,.slice e⟩) {s x:ap} (uH:wb (X.E u) aO x=true) (he:X.E e=some aO) {aZ:Nat} (af:r7 x=some aZ) (av:aZ≠0) {us:Value}
  (es:bY F os=.val us) (gs:aS D s us) (ex:bY F eF=.val lB) (zB:aS D x lB) (h:DH G m.t x aO.size (PF X G m s x aO aZ e)=some (v,m'))
  (hm:c2 (dR X G pr) D m I M) (k:q3 X G pr D m I M v m' o.dst F C K):bk X o F C I M K:=by
 obtain⟨l,vs,ab,ay,hlen,gK,o2,_⟩:=aiZ (ut:=X.E u) h uH zB hm af av;have ak:bX (Nat.beq aZ 0) (bX (DJ s) (some (s,m)) none) (bX (l.all ap.one) (GI G m s l aZ aO.size aO.bytes e) none)=some (v,m'):=ab;rw[hx av]at ak;have aL:bX (l.all ap.one) (GI G m s l aZ aO.size aO.bytes e) none=some (v,m'):=ak;obtain⟨ma,aL⟩:=fV aL;have U:=ay.one ma;obtain⟨ns,hu,fL⟩:=Yh uH;have G3:∀ {q:List Value} {c:Nat},q.length=c*aO.size->∀ i,(dR X G pr).E e=some i->q.length=c*i.size:=λa0 i hi=>by have:X.E e=some i:=hi;rw[he]at this;cases this;exact a0
 cases s<;>simp only[GI]at aL<;>first | cases aL | skip
 case sn=>
  obtain⟨ah,bm⟩:=fV aL;rw[b']at ah;obtain⟨m2,b5,az,fw⟩:=Ps (Y:=dR X G pr) bm;cases b5;have eG:=gs.Bt;subst eG;have jG:0+aZ<=maxLen:=by rw[cM];exact b9 ah.2
  have hc:(0+aZ)*aO.bytes<=140737488355328:=by rw[cM];exact b9 ah.1
  refine PD aR al aP aq hu fL he (n:=0) (c:=0) (xs:=[]) es ex (by simp) o2 U hlen gK (λw _=>by simp[run_firstCells_none]) jG hc (λag=>by omega) λ_ b cap cur cg au sb G4 G5=>?_;refine k _ _ _ bF.DU ?_ (fw cur hm au ay (G3 G5) G4);simp only[aS];exact⟨_,bF.pe _ _ _,by simpa using sb,by simp⟩
 case sl=>
  obtain⟨ah,bm⟩:=fV aL;rw[b']at ah;exact ai6 aR al aP aq hu fL he es gs ex bm (b9 ah.2) (b9 ah.1) ay o2 U hlen gK hm k
 case sx=>
  split at aL;·rename_i ao;obtain⟨ah,bm⟩:=fV aL;simp only[b']at ah;obtain⟨⟨c6,dg⟩,gB,my,oi⟩:=ah;have d1:=dD c6;have d2:=dD dg;have d3:=dD gB;subst d1;subst d2;subst d3;exact ai7 aR al aP aq hu fL he es gs ex ao bm (b9 oi) (b9 my) ay o2 U hlen gK hm k
  ·cases aL
def ajb(aR:cX X.P X.E)(al:∀ d,o.dst=some d->d<X.n){args:Array Operand}(aP:o.op=.call { callee:=.builtin .append,args:=args,argTypes:=eJ })(h:OW (dR X G pr) m eJ.toList (nG an args.toList)=some (v,m'))
  (H:ka D F an args.toList) (hm:c2 (dR X G pr) D m I M) (k:q3 X G pr D m I M v m' o.dst F C K):bk X o F C I M K:=by
 unfold OW at h;split at h
 ·rename_i t u s x aq ay;split at h
  ·rename_i sa r' sz e n2;obtain⟨aO,he,h⟩:=ct h;obtain⟨uH,h⟩:=fV h;obtain⟨os,eF,mw,eu,te⟩:=KE ay;obtain⟨us,es,gs⟩:=H.bY (x:=os) (by rw[mw];simp) eu;obtain⟨lB,ex,zB⟩:=H.bY (x:=eF) (by rw[mw];simp) te;have BA:args=#[os,eF]:=by apply gF;simpa using mw
   have BB:eJ=#[t,u]:=by apply gF;simpa using aq
   have oM:o.op=.call { callee:=.builtin .append,args:=#[os,eF],argTypes:=#[t,u] }:=by rw[aP,BA,BB]
   cases af:r7 x with
   |none=>
    exfalso;unfold wb at uH;split at uH<;>first | (cases uH;done) | (simp[r7,wa]at af;done)
   |some aZ=>
    rw[af]at h;by_cases av:aZ=0;·subst av;exact ai5 aR al oM n2 uH he af es gs ex zB h hm k
    ·exact aja aR al oM n2 uH he af av es gs ex zB h hm k
  ·cases h
 ·cases h
end
section
variable{X:cO}{G:GT}{pr:lk}{D:bF}{m m':bi}{F:Fr}{an:be ap}{C:c8}{I:aT}{M:List aD}{K:fZ}{o:Oper}{v:ap}
def ajc(aR:cX X.P X.E)(al:∀ d,o.dst=some d->d<X.n){args:Array Operand}(aP:o.op=.call { callee:=.builtin .unsafeString,args:=args,argTypes:=eJ })(h:OY (dR X G pr) m eJ.toList (nG an args.toList)=some (v,m'))
  (H:ka D F an args.toList) (hm:c2 (dR X G pr) D m I M) (k:q3 X G pr D m I M v m' o.dst F C K):bk X o F C I M K:=by
 unfold OY at h;split at h
 ·rename_i tG it aq ay;cases h;obtain⟨op,on,mw,U,ab⟩:=KE ay;obtain⟨r0,aF,a6⟩:=H.bY (x:=op) (by rw[mw];simp) U;obtain⟨o6,a7,bb⟩:=H.bY (x:=on) (by rw[mw];simp) ab;have BA:args=#[op,on]:=by apply gF;simpa using mw
  have BB:eJ=#[tG,it]:=by apply gF;simpa using aq
  have KF:r0=.pointer none:=by simpa only[aS]using a6
  subst KF;rw[bb.int]at a7;refine bk.Tu (by rw[aP,BA,BB]) al aF a7 (k D _ M bF.ox ?_ hm);simp only[aS];rfl
 ·rename_i tG it id n aq ay;split at h
  ·rename_i sa r' sz e cs T fq ajd ao;obtain⟨aO,he,fw⟩:=ct h;obtain⟨ah,fu⟩:=fV fw;simp only[b']at ah;obtain⟨op,on,mw,U,ab⟩:=KE ay;obtain⟨r0,aF,a6⟩:=H.bY (x:=op) (by rw[mw];simp) U;obtain⟨o6,a7,bb⟩:=H.bY (x:=on) (by rw[mw];simp) ab;have BA:args=#[op,on]:=by apply gF;simpa using mw
   have BB:eJ=#[tG,it]:=by apply gF;simpa using aq
   rw[bb.int]at a7;obtain⟨a,aX,rfl⟩:=a6.ptr;have py:=hm.iq _ _ _ ao aX;obtain⟨arr,xZ,aV,cQ,aC,af,pf⟩:=py;have G3:=dD ah.2.1;subst G3;unfold ta at fu;simp only[ao]at fu;cases PH:Nat.ble (Nat.add 0 n) fq with
   |false=>rw[PH]at fu;cases fu| true=>
   rw[PH]at fu;simp only[bt]at fu;have kI:0+n<=fq:=b9 PH;obtain⟨l,c6,dg,fP⟩:=be.DP cs n 0 _ _ fu;obtain⟨bd,nw,rH⟩:=ct fP;obtain⟨ME,Yn⟩:=fV rH;obtain⟨t1,aL,bm⟩:=be.oq (none:Option fa) m.t id;rw[aL]at Yn;cases Yn;have oZ:(arr.toList.take n).length=n:=by rw[fH,vq];omega
   have aje:bD D l (arr.toList.take n):=bD.Pc (by rw[oZ,c6]) λi v hi=>by
    have c1:i<n:=by rw[<-c6];exact(iO.1 hi).1
    obtain⟨x,b0,fy⟩:=aC i v (by omega) (by have:=dg i c1;rw[cM]at this;rw[this,hi]);rw[xZ,cM]at b0;exact⟨x,by rw[kA,cw c1];simpa using b0,fy⟩
   have ib:=Pw nw aje;have nt:bd.length=n:=by have:=congrArg List.length ib;rw[oZ]at this;simpa using this.symm
   obtain⟨pre,post,c4⟩:=r4 aV;have nd:M.Perm (⟨a.b,.cells arr T (0,0)⟩::(pre++post)):=by rw[c4];exact o3
   have mS:arr.toList.take bd.length=bd.map λb=>Value.int .u8 b.toNat:=by rw[nt];exact ib
   have av:bd≠[]:=λc0=>by subst c0;have:0<n:=b9 ah.2.2;simp at nt;omega
   have dZ:bY F op=.val (.pointer (some ⟨a.b,0,none⟩)):=by rw[aF,xZ]
   have qu:bY F on=.val (.int .i64 bd.length):=by rw[a7,nt];rfl
   refine bk.MD aR (by rw[aP,BA,BB]) al ajd rfl he (dD ah.1) dZ qu av (by rw[nt];exact b9 ME) nd mS ?_;have kl:∀ i eZ,t1.get i=some eZ->i≠id/\m.t.get i=some eZ:=λi eZ hi=>by
    rcases bm i eZ hi with⟨_,fu⟩ | fu;·cases fu
    ·exact fu
   refine k D _ _ bF.ox (by simp only[aS]) ⟨λi eZ b hi jG=>?_,λi gn eZ zC b ic hi ck=>hm.inj i gn eZ zC b ic (kl i eZ hi).2 (kl gn zC ck).2,hm.jn,hm.p8⟩;refine(hm.iq i eZ b (kl i eZ hi).2 jG).mono (bF.le_refl D) λq a0 az=>?_;rcases ea.1 (nd.mem_iff.1 a0)with rfl | a0;·exact((kl i eZ hi).1 (hm.inj _ _ _ _ _ _ (kl i eZ hi).2 ao jG aX az.symm)).elim
   ·exact a0
  ·cases h
 ·cases h
def Yo:Op->Bool
 | .makeMap .. | .lookup .. | .mapUpdate .. | .insert ..=>true| .call { callee:=.builtin .append,.. }=>true| .call { callee:=.builtin .copy,.. }=>true| .call { callee:=.builtin .unsafeString,.. }=>true| _=>false
def zD(aP:o.op=op)(h:Yo op=true)(k:bk X o F C I M K):hM X o F C I M K:=by
 obtain⟨dst,KG,ty,pos,after,guard⟩:=o;simp only at aP;subst aP;unfold Yo at h;split at h<;>first | exact k | cases h
def ajf(aR:cX X.P X.E)(al:∀ d,o.dst=some d->d<X.n)(h:OZ (dR X G pr) m o an=some (v,m'))(H:ka D F an o.op.operands.toList)(hm:c2 (dR X G pr) D m I M)(k:q3 X G pr D m I M v m' o.dst F C K):hM X o F C I M K:=by
 unfold OZ at h;split at h
 ·rename_i t x y aP;exact aiN aP h H hm k
 ·rename_i t aP;exact zD aP rfl (Yb aR al aP h (by simp) hm k)
 ·rename_i t x aP;split at h
  ·rename_i gu n ae;refine zD aP rfl (Yb aR al aP h (λy aA=>?_) hm k);cases aA;obtain⟨u,aF,a6⟩:=H.bY (x:=x) (by rw[aP];simp[Op.operands]) ae;rw[a6.int]at aF;exact⟨_,_,aF⟩
  ·cases h
 ·rename_i t x y ok aP;exact zD aP rfl (aiQ aR al aP h H hm k)
 ·rename_i t x y z aP;exact zD aP rfl (Yd aR (.inl aP) h H hm k)
 ·rename_i t x y z aP;exact zD aP rfl (Yd aR (.inr aP) h H hm k)
 ·rename_i s d x aP;have wq:=aiS aR al aP h H hm k;obtain⟨dst,KG,ty,pos,after,guard⟩:=o;simp only at aP;subst aP;have mu:∃ a b z,X.E d=some ⟨a,b,z,.string⟩:=by
   unfold Ke at h;split at h;·exact⟨_,_,_,by assumption⟩
   ·exact⟨_,_,_,by assumption⟩
   ·exact⟨_,_,_,by assumption⟩
   ·cases h
  obtain⟨a,b,z,mu⟩:=mu;simp only[hM,cE,mu];split;·rename_i e _;cases e
  ·exact wq
 ·rename_i b args eJ aP;have PI:ka D F an args.toList:=by rw[aP]at H;simpa[Op.operands,Call.operands]using H
  unfold Xn at h;split at h;·exact zD aP rfl (ajb aR al aP h PI hm k)
  ·exact zD aP rfl (aiT aR al aP h PI hm k)
  ·exact zD aP rfl (ajc aR al aP h PI hm k)
  ·cases h
 ·cases h
end
def G7(Y:gm)(call:ap->List ap->bi->Option (ap×bi)):Prop:=∀ f l m v m',call f l m=some (v,m')->∀ (D:bF) (I:aT) (M:List aD) (u:Value) (us:List Value),aS D f u->bD D l us->c2 Y D m I M -> (∃ g cC cs,u=.func (.func g) cC cs/\Spec Y.P g (cC.toList++us++cs.toList) I M λr I' M'=>∃ bp,D.ext bp m.n/\aS bp v r/\c2 Y bp m' I' M') \/ ∃ q,u=.func (.yield q) #[] #[]/\Fb Y.P q us I M λr I' M'=>∃ bp,D.ext bp m.n/\aS bp v r/\c2 Y bp m' I' M'
def uI(dst:Option Nat)(v:ap)(D:bF)(F dN:Fr):Prop:=(∀ d,dst=some d->gC D (dN d) v)/\∀ (D:bF) t uF,dst≠some t->gC D (F t) uF->gC D (dN t) uF
def uI.put{v:ap}{x:de}(F:Fr)(h:gC D x v):uI dst v D F (put dst x F):=by
 constructor
 ·rintro d rfl;simpa[Go.V.put,fA]using h
 ·intro D t uF bB h;cases dst with
  |none=>exact h| some d=>have:t≠d:=λe=>bB (by rw[e]);simp only[Go.V.put,fA,hx this,bz];exact h
def zx.v(h:zx dst u F dN){v:ap}(ai:aS D v u):uI dst v D F dN:=⟨λd al=>by rw[h.1 d al];exact .val ai,h.2⟩
section
variable{X:cO}{G:GT}{pr:lk}{D:bF}{m m':bi}{F:Fr}{an:be ap}{C:c8}{I:aT}{M:List aD}{K:fZ}{o:Oper}{v:ap}
def KH(X:cO)(G:GT)(pr:lk)(o:Oper)(an:be ap)(m:bi)(v:ap)(m':bi):Prop:=m.n<=m'.n/\∀ (D:bF) (F:Fr) (C:c8) (I:aT) (M:List aD) (K:fZ),ka D F an o.op.operands.toList->c2 (dR X G pr) D m I M -> (∀ bp dN C' I' M',D.ext bp m.n->uI o.dst v bp F dN->c2 (dR X G pr) bp m' I' M'->K dN C' I' M')->hM X o F C I M K
def Yp(aP:o.op=op)(af:ll X.E op=0)(h:cE X op (df F) C I M (λx=>K (put o.dst x F) C I M) (bk X o F C I M K)):hM X o F C I M K:=by
 obtain⟨dst,KG,ty,pos,after,guard⟩:=o;simp only at aP;subst aP;cases KG with
 |call c=>
  obtain⟨callee,args,eJ⟩:=c;cases callee with
  |value f=>simp[ll]at af| invoke r n=>exact h| builtin b=>exact h
 |alloc t=>simp[ll]at af| box t x=>simp[ll]at af| store t x y=>simp[ll]at af| buildSlice t l ps=>simp[ll]at af| makeSlice t l c=>simp[ll]at af| _=>exact h
def PJ{K:be ap->Option R}{r:R}(h:o9 dst an v K=some r):∃ cV,K cV=some r/\(dst=none->cV=an)/\∀ d,dst=some d->∀ t w,cV.get t=some w->(t=d/\w=v)\/(t≠d/\an.get t=some w):=by
 unfold o9 at h;cases dst with
 |none=>exact⟨an,h,λ_=>rfl,λd al=>by cases al⟩
 |some d=>
  have aG:(OS v λv=>an.na (some v) d K)=some r:=h;rw[ahN]at aG;obtain⟨cV,U,ab⟩:=be.oq (some v) an d;rw[U]at aG;refine⟨cV,aG,(λe=>by cases e),λxN al t w hw=>?_⟩;cases al;rcases ab t w hw with⟨aF,a7⟩ | ⟨aF,a7⟩;·exact .inl ⟨aF,(ov a7).symm⟩
  ·exact .inr ⟨aF,a7⟩
def Yq(aR:cX X.P X.E)(j5:∀ d,d<X.n->X.gv.contains d=true)(al:∀ d,o.dst=some d->d<X.n)(kk:G7 (dR X G pr) call){K:be ap->bi->Option R}{r:R}
  (h:zm (dR X G pr) call o an m K=some r):∃ v m' cV,KH X G pr o an m v m'/\(o9 o.dst an v λan=>K an m')=some r/\K cV m'=some r/\(o.dst=none->cV=an)/\∀ d,o.dst=some d->∀ t w,cV.get t=some w->(t=d/\w=v)\/(t≠d/\an.get t=some w):=by
 have fin:∀ {v:ap} {m':bi},KH X G pr o an m v m'->(o9 o.dst an v λan=>K an m')=some r->∃ v m' cV,KH X G pr o an m v m'/\(o9 o.dst an v λan=>K an m')=some r/\K cV m'=some r/\(o.dst=none->cV=an)/\∀ d,o.dst=some d->∀ t w,cV.get t=some w->(t=d/\w=v)\/(t≠d/\an.get t=some w):=fun {v m'} aC aN=>by obtain⟨cV,U,ab,ak⟩:=PJ aN;exact⟨v,m',cV,aC,aN,U,ab,ak⟩
 unfold zm at h;split at h
 ·
  rename_i f args eJ aP;unfold Xo at h;obtain⟨ajg,au,h⟩:=ct h;obtain⟨l,ay,h⟩:=ct h;obtain⟨⟨v,m'⟩,aC,h⟩:=ct h;obtain⟨az,h⟩:=fV h;refine fin ⟨b9 az,λD F C I M K sc hm af=>?_⟩ h;rw[aP]at sc;obtain⟨u,aF,a6⟩:=sc.bY (x:=f) (by simp[Op.operands,Call.operands]) au;obtain⟨us,a7,bb⟩:=sc.l8 (l:=args.toList) (by intro y aA;simp[Op.operands,Call.operands];exact .inr (by simpa using aA)) ay;obtain⟨dst,KG,ty,pos,after,guard⟩:=o;simp only at aP;subst aP;rcases kk _ _ _ _ _ aC D I M u us a6 bb hm with⟨g,cC,cs,rfl,ar⟩ | ⟨q,rfl,ar⟩
  ·simp only[hM,aF,a7];exact aU.whole _ ar λr I' M' cg ae=>by obtain⟨bp,U,ab,ak⟩:=ae;exact af bp _ C I' M' U (.put F (.val ab)) ak
  ·simp only[hM,aF,a7];refine bk.yield rfl al aF a7 ⟨M,[],_,by simp,ar,λr I' M' cg ae=>?_⟩;obtain⟨bp,U,ab,ak⟩:=ae;rw[db];exact af bp _ C I' M' U (.put F (.val ab)) ak
 ·rename_i op cm;unfold Xs at h;split at h
  ·rename_i gT;unfold Xq at h;obtain⟨v,ai,h⟩:=ct h;refine fin ⟨b2 _,λD F C I M K sc hm af=>?_⟩ h;exact Yp rfl gT (X2 aR ai sc hm λx ae=>af D _ C I M bF.ox (.put F ae) hm)
  ·unfold Xp at h;obtain⟨d,eY,h⟩:=ct h;obtain⟨⟨l,T,c,mk⟩,aX,h⟩:=ct h;obtain⟨m2,ab,az,ak⟩:=Ps (Y:=dR X G pr) h;refine fin (v:=mk m.n) (m':=m2) ⟨by omega,λD F C I M K sc hm af=>?_⟩ (by rw[eY];exact ab);refine X4 aR j5 al aX (by rw[eY];rfl) sc λb vs u dN C' cg au ib hlen aC hu PK=>?_;have aL:=ak (vs:=vs) [] (b:=b) (c:=c) hm au ib (by simpa using hlen) aC;rw[db]at aL;exact af _ dN C' I _ bF.DU (PK.v (hu _ _ (bF.pe _ _ _))) aL
  ·unfold Xr at h;obtain⟨⟨v,m'⟩,ae,h⟩:=ct h;obtain⟨az,h⟩:=fV h;refine fin ⟨b9 az,λD F C I M K sc hm af=>?_⟩ h;exact ajf aR al ae sc hm λbp u M' U ab ak=>af bp _ C I M' U (.put F (.val ab)) ak
end
def k0(X:cO)(G:GT)(pr:lk)(D0:bF)(n0:Nat)(an:be ap)(m:bi)(a:Act)(w:World):Prop:=
 ∃ D F C I M,Rel X a w F C I M/\p9 D F an/\c2 (dR X G pr) D m I M/\D0.ext D n0/\n0<=m.n
section
variable{X:cO}{G:GT}{pr:lk}{D0:bF}{n0:Nat}{m m':bi}{an cV:be ap}{a:Act}{w:World}
def bF.Yr{GY:bF}{lX:Nat}(h:D.ext bp n)(aG:bp.ext GY lX)(az:n<=lX):D.ext GY n:=λi hi=>by rw[aG i (by omega),h i hi]
def ajh{ops:Array Oper}{o:Oper}(h:uA ops.toList o an=some b)(bs:∀ t,eI β (F t) (a.tmps.getD t undef))(w2:p9 D F an):Region.wanted o (yielded ops a.tmps)=b:=by
 unfold uA at h;split at h
 ·rename_i ao;cases h;simp[Region.wanted,ao]
 ·rename_i j c ao;split at h
  ·cases h
  ·rename_i d aj;have jA:(ops[j]?).bind (·.dst)=some d:=by rw[zr]at aj;simpa using aj
   have aA:=EP jA a.tmps;split at h
   ·rename_i q a0;cases h;have ar:=w2 _ _ a0;have ai:a.tmps.getD d undef=.bool q:=by
     have U:=bs d;rcases ar with⟨u,e,hu⟩ | ⟨fB,c0,e⟩;·rw[e]at U;rw[U,hu.bool]
     ·cases c0;rw[e]at U;exact U
    simp[Region.wanted,ao,aA,Cv ai]
   ·rename_i l a0;cases h;have ar:=w2 _ _ a0;obtain⟨u,e,hu⟩:=ar.wg (by simp);obtain⟨vs,_,rfl⟩:=hu.Pe;have U:=bs d;rw[e]at U;have Ak:yielded ops a.tmps j=none:=by
     rw[aA];cases mb:a.tmps[d]? with
     |none=>rfl| some v=>simp only[eI,oF,mb,je]at U;subst U;rfl
    simp[Region.wanted,ao,Ak]
   ·cases h
def Ys{o:Oper}{K:be ap->Option R}{r:R}(h:Bq o an K=some r):∃ cV,K cV=some r/\(o.dst=none->cV=an)/\∀ d,o.dst=some d->∀ t w,cV.get t=some w->(t=d/\w=.t [])\/(t≠d/\an.get t=some w):=by
 unfold Bq at h;cases al:o.dst with
 |none=>rw[al]at h;exact⟨an,h,λ_=>rfl,λd e=>by cases e⟩
 |some d=>
  rw[al]at h;obtain⟨cV,U,ab⟩:=be.oq (some (ap.t [])) an d;simp only[U]at h;refine⟨cV,h,(λe=>by cases e),λxN ie t w hw=>?_⟩;cases ie;rcases ab t w hw with⟨aF,a7⟩ | ⟨aF,a7⟩;·exact .inl ⟨aF,(ov a7).symm⟩
  ·exact .inr ⟨aF,a7⟩
def p9.step{v:ap}(h:p9 D F an)(hle:D.le bp)(aN:uI dst v bp F dN)(U:dst=none->cV=an)(ab:∀ d,dst=some d->∀ t w,cV.get t=some w->(t=d/\w=v)\/(t≠d/\an.get t=some w)):p9 bp dN cV:=λt u aq=>by
 cases al:dst with
 |none=>rw[U al]at aq;exact aN.2 bp t u (by rw[al];simp) ((h t u aq).mono hle)
 |some d=>
  rcases ab d al t u aq with⟨rfl,rfl⟩ | ⟨bB,ao⟩;·exact aN.1 _ al
  ·exact aN.2 bp t u (by rw[al];intro e;cases e;exact bB rfl) ((h t u ao).mono hle)
def PL(aR:cX X.P X.E)(j5:∀ d,d<X.n->X.gv.contains d=true){call:ap->List ap->bi->Option (ap×bi)}(kk:G7 (dR X G pr) call)(ops:Array Oper)(Q:Exit->Act->World->Prop)(nZ:∀ a w,k0 X G pr D0 n0 cV m' a w->Q .normal a w):∀ (l:List Oper) (k:Nat),(∀ j,l[j]?=ops[k+j]?)->(∀ o∈l,∀ d,o.dst=some d->d<X.n)->∀ {an m a w},DK (dR X G pr) call ops.toList l an m=some (cV,m') -> k0 X G pr D0 n0 an m a w->wpOpsIn (gG X) 0 X.P ops Q (List.range' k l.length) a w
 |[],k,_,_,an,m,a,w,h,ar=>by have aG:some (an,m)=some (cV,m'):=h;cases aG;exact nZ _ _ ar
 |o::rest,k,ay,al,an,m,a,w,h,ar=>by
  have av:ops[k]?=some o:=by simpa using(ay 0).symm
  have hY:∀ j,rest[j]?=ops[k+1+j]?:=λj=>by have:=ay (j+1);simpa[tr,Cn 1 j]using this
  have ie:∀ o∈rest,∀ d,o.dst=some d->d<X.n:=λo aP=>al o (by simp[aP]);have yl:=al o (by simp);have aG:bN (uA ops.toList o an) none (λw=>bX w (zm (dR X G pr) call o an m λan m=>DK (dR X G pr) call ops.toList rest an m) (Bq o an λan=>DK (dR X G pr) call ops.toList rest an m))=some (cV,m'):=h;obtain⟨b,ah,aG⟩:=ct aG;obtain⟨D,F,C,I,M,⟨β,a5⟩,bs,hm,ae,az⟩:=ar;have hw:=ajh ah a5.an bs;simp only[cS,H5,wpOpsIn,av];rw[hw];cases b with
  |true=>have ab:zm (dR X G pr) call o an m (λan m=>DK (dR X G pr) call ops.toList rest an m)=some (cV,m'):=aG;obtain⟨v,dw,fj,⟨uJ,G8⟩,-,ak,a6,bb⟩:=Yq aR j5 yl kk ab;simp only[nU];refine st (λch w'=>?_) (Cu aR yl ⟨β,a5⟩ (G8 D F C I M (λdN C' I' M'=>∃ bp,D.ext bp m.n/\p9 bp dN fj/\c2 (dR X G pr) bp dw I' M') (bs.op _) hm λbp dN C' I' M' aF a7 bC=>⟨bp,aF,bs.step (hm.le aF) a7 a6 bb,bC⟩));rintro⟨dN,C',I',M',gP,bp,aF,a7,bC⟩;exact PL aR j5 kk ops Q nZ rest (k+1) hY ie ak ⟨bp,dN,C',I',M',gP,a7,bC,bF.Yr ae aF az,k5 az uJ⟩
  |false=>have ab:Bq o an (λan=>DK (dR X G pr) call ops.toList rest an m)=some (cV,m'):=aG;obtain⟨fj,ak,a6,bb⟩:=Ys ab;simp only[jX,kB];refine⟨λ_ _=>trivial,PL aR j5 kk ops Q nZ rest (k+1) hY ie ak ⟨D,put o.dst (.val undef) F,C,I,M,⟨β,a5.put (x:=.val undef) yl rfl⟩,bs.step (bF.le_refl D) (.put F (.val .undef)) a6 bb,hm,ae,az⟩⟩
end
def aji(ax:∀ j e,mf ops j e->e<j)(J:(Nat->Prop)->Act->World->Prop)(step:∀ (L:Nat->Prop) a w q o,J L a w->An ops L->(∀ i,L i->i<ops.length)->ops[q]?=some o->¬ L q->(∀ e,mf ops q e->L e) -> (Region.wanted o (yielded ops.toArray a.tmps)=true->o.wpIn (gG X) 0 X.P a w (J λj=>L j\/j=q) Q)/\(Region.wanted o (yielded ops.toArray a.tmps)=false->J (λj=>L j\/j=q) (a.put o.dst undef) w))
  (fin:∀ a w,J (λi=>i<ops.length) a w->Q .normal a w):∀ (eH:Nat) (listed:Array Bool) (a:Act) (w:World),listed.size=ops.length->todo ops listed<=eH->An ops (λi=>listed.getD i false=true) ->
   J (λi=>listed.getD i false=true) a w->wpAnyIn (gG X) 0 X.P .any ops.toArray Q eH listed a w:=by
 have fq:∀ (listed:Array Bool) (i:Nat),listed.getD i false=true->i<listed.size:=λlisted i h=>by refine EC λaz=>?_;simp[Array.getD,az]at h
 have full:∀ (listed:Array Bool) a w,listed.size=ops.length->Region.ready .any ops.toArray listed=[]->J (λi=>listed.getD i false=true) a w->Q .normal a w:=λlisted a w cQ mW bg=>by
  have all:∀ i,i<ops.length->listed.getD i false=true:=λi=>by
   induction i using Nat.strongRecOn with
   |ind i a8=>
    intro hi;refine EC λaz=>?_;have aP:ops[i]?=some ops[i]:=ev hi;have:i∈Region.ready .any ops.toArray listed:=(mem_ready cQ).2 ⟨_,aP,az,λe he=>by
     have U:=ax i e he;exact a8 e U (by omega)⟩
    rw[mW]at this;cases this
  have e:(λi=>listed.getD i false=true)=λi=>i<ops.length:=by funext i;simp only[eq_iff_iff];exact⟨λh=>by have:=fq listed i h;omega,all i⟩
  rw[e]at bg;exact fin a w bg
 intro eH
 induction eH with
 |zero=>
  intro listed a w cQ au cv bg;have mW:Region.ready .any ops.toArray listed=[]:=by
   cases ag:Region.ready .any ops.toArray listed with
   |nil=>rfl| cons i l=>obtain⟨o,aP,az,_⟩:=(mem_ready cQ).1 (by rw[ag];simp:i∈Region.ready .any ops.toArray listed);have:=IB (iO.1 aP).1 cQ az;omega
  exact⟨mW,full listed a w cQ mW bg⟩
 |succ eH a8=>
  intro listed a w cQ au cv bg;refine⟨λmW=>full listed a w cQ mW bg,λq a0=>?_⟩;obtain⟨o,aP,az,al⟩:=(mem_ready cQ).1 a0;have bo:=(iO.1 aP).1;have fN:=Td (listed:=listed) (i:=q) (by omega);have next:∀ ch w',J (λj=>listed.getD j false=true\/j=q) ch w'->wpAnyIn (gG X) 0 X.P .any ops.toArray Q eH (listed.setIfInBounds q true) ch w':=λch w' h=>by
   refine a8 _ ch w' (by simpa using cQ) ?_ ?_ (by rw[fN];exact h);·have:=IB bo cQ az;omega
   ·rw[fN];rintro j e (aj | rfl) he
    ·exact .inl (cv j e aj he)
    ·exact .inl (al e he)
  obtain⟨s1,s2⟩:=step _ a w q o bg cv (λi hi=>by have:=fq listed i hi;omega) aP az al;have yw:ops.toArray[q]?=some o:=by simpa using aP
  unfold wpOpIn;simp only[yw];cases hw:Region.wanted o (yielded ops.toArray a.tmps)with
  |true=>
   simp only[nU];exact st next (s1 hw)
  |false=>simp only[jX,kB];exact⟨λ_ _=>trivial,next _ _ (s2 hw)⟩
def Yt{S:List bi}{lo hi:Nat}{p:bi->Bool}{m:bi}(h:DN S lo hi p=true)(U:lo<=j)(ab:j<=hi)(aj:S[j]?=some m):p m=true:=by unfold DN at h;refine et.1 h m ?_;refine z5 (i:=j-lo) ?_;rw[kA,cw (by omega),oG,show lo+(j-lo)=j by omega];exact aj
def filter_le{p:α->Bool}:∀ {l:List α},(∀ q e,l[q]?=some e->p e=true->q<j)->(l.filter p).length<=j:=by
 intro l h;have aF:l.filter p=(l.take j).filter p:=by
  conv=>lhs;rw[<-rB j l]
  rw[uw];have:(l.drop j).filter p=[]:=by rw[List.filter_eq_nil_iff];intro a aX aN;obtain⟨q,a0⟩:=JX aX;rw[oG]at a0;have:=h _ _ a0 aN;omega
  rw[this,db]
 rw[aF];refine k5 (to _ _) ?_;simp;omega
def le_filter{p:α->Bool}{l:List α}(aj:j<=l.length)(h:∀ q e,q<j->l[q]?=some e->p e=true):j<=(l.filter p).length:=by
 have aF:(l.take j).filter p=l.take j:=by
  rw[Py];intro a aX;obtain⟨q,a0⟩:=JX aX;rw[kA]at a0;split at a0;·exact h q a (by assumption) a0
  ·cases a0
 have a7:l.filter p=(l.take j).filter p++(l.drop j).filter p:=by
  conv=>lhs;rw[<-rB j l]
  rw[uw]
 rw[a7,aF,cz,fH];omega
mutual
def Yu{D:bF}:∀ {x y:ap} {u:Value},DM x y=true->aS D x u->aS D y u
 |x,y,u,h,ae=>by
  cases x<;>cases y<;>simp only[DM,jX,b']at h
  case b.b=>
   have:=eq_of_beq h;subst this;exact ae
  case i.i=>
   obtain⟨U,ab⟩:=h;have:=IntKind.Cr U;subst this;rw[Bs,fk]at ab;subst ab;exact ae
  case s.s=>
   rw[DQ,fk]at h;subst h;exact ae
  case pn.pn=>exact ae
  case p.p=>
   obtain⟨U,ab⟩:=h;have:=dD U;subst this;have:=dD ab;subst this;exact ae
  case g.g=>
   obtain⟨U,ab⟩:=h;have:=dD U;subst this;have:=dD ab;subst this;exact ae
  case sn.sn=>exact ae
  case sl.sl=>
   obtain⟨U,ab,ak,aL⟩:=h;have:=dD U;subst this;have:=dD ab;subst this;have:=dD ak;subst this;have:=dD aL;subst this;exact ae
  case sx.sx=>
   obtain⟨U,ab,ak,aL⟩:=h;have:=dD U;subst this;have:=dD ab;subst this;have:=dD ak;subst this;have:=dD aL;subst this;exact ae
  case gs.gs=>
   obtain⟨U,ab,ak,aL⟩:=h;have:=dD U;subst this;have:=dD ab;subst this;have:=dD ak;subst this;have:=dD aL;subst this;exact ae
  case mn.mn=>exact ae
  case m.m=>have:=dD h;subst this;exact ae
  case f.f=>
   obtain⟨U,ab,ak⟩:=h;have:=dD U;subst this;simp only[aS]at ae |-;obtain⟨vs,ws,a6,bb,b0⟩:=ae;exact⟨vs,ws,DX ab a6,DX ak bb,b0⟩
  case y.y=>have:=dD h;subst this;exact ae
  case fn.fn=>exact ae
  case ni.ni=>exact ae
  case t.t=>
   simp only[aS]at ae |-;obtain⟨vs,a6,bb⟩:=ae;exact⟨vs,DX h a6,bb⟩
  case a.a=>
   simp only[aS]at ae |-;obtain⟨vs,a6,bb⟩:=ae;exact⟨vs,DX h a6,bb⟩
def DX{D:bF}:∀ {x y:List ap} {us:List Value},we x y=true->bD D x us->bD D y us
 |[],[],us,h,ae=>ae| [],_::_,us,h,ae=>by simp[we]at h
 |_::_,[],us,h,ae=>by simp[we]at h
 |x::l,y::m,us,h,ae=>by simp only[we,b']at h;obtain⟨u,us,a6,bb,rfl⟩:=ae.j';exact .cons (Yu h.1 a6) (DX h.2 bb)
end
def G9(dst:Option Nat)(an:be ap)(v:ap)(cV:be ap):Prop:=(dst=none->cV=an)/\∀ d,dst=some d->∀ t w,cV.get t=some w->(t=d/\w=v)\/(t≠d/\an.get t=some w)
def KI(m m':bi)(l:List ap)(T:Nat):Prop:=m'.n=m.n+1/\(∀ id e,m'.t.get id=some e->id=m.n\/m.t.get id=some e)
def x0(m m':bi):Prop:=m.n<=m'.n/\∀ id e,id<m.n->m'.t.get id=some e->m.t.get id=some e
def x0.refl(m:bi):x0 m m:=⟨b2 _,λ_ _ _ h=>h⟩
def x0.trans{a b c:bi}(h:x0 a b)(k:x0 b c):x0 a c:=⟨k5 h.1 k.1,λid e hi he=>h.2 id e hi (k.2 id e (EE hi h.1) he)⟩
def KI.grow{m m':bi}{l:List ap}{T:Nat}(h:KI m m' l T):x0 m m':=⟨by rw[h.1];omega,λid e hi he=>by
 rcases h.2 id e he with U | U
 ·omega
 ·exact U⟩
def ajj{m:bi}{l:List ap}{T:Nat}{K:Nat->bi->Option R}{r:R}(h:uz m l T K=some r):∃ m',K m.n m'=some r/\KI m m' l T:=by unfold uz at h;obtain⟨cs,U,ab⟩:=be.xW l (.nil:be ap) 0;rw[U]at h;obtain⟨bh,ak,aL⟩:=GZ h;exact⟨_,aL,rfl,λid e hi=>(ak id e hi).imp (λq=>q.1) λq=>q.2⟩
def c2.grow{m m':bi}(h:c2 Y D m I M)(ao:x0 m m'):c2 Y D m' I M where
 iq id e a U ab:=h.iq id e a (ao.2 id e (h.jn _ _ ab) U) ab
 inj id ir e c0 a ch U jL ab gx ah:=h.inj id ir e c0 a ch (ao.2 id e (h.jn _ _ ab) U) (ao.2 ir c0 (h.jn _ _ gx) jL) ab gx ah
 jn id a ab:=EE (h.jn _ _ ab) ao.1
 p8:=h.p8
inductive lq(X:cO)(G:GT)(pr:lk)(ops:List Oper):List (Nat×Nat)->be ap->bi->List (Nat×ap)->be ap->bi->List bi->List p7->Prop
 |nil{an m}:lq X G pr ops [] an m [] an m [m] []| q {i o rest an m v cV vs gD gg S A} (aP:ops[i]?=some o) (af:ll X.E o.op=0) (hw:uA ops o an=some true) (ai:uy X.P X.E G m.t o.op an=some v) (aN:G9 o.dst an v cV) (t:lq X G pr ops rest cV m vs gD gg S A) : lq X G pr ops ((i,0)::rest) an m ((i,v)::vs) gD gg S (bif pC o.op then .load i o an v::A else A)| a {i o d rest an m m' l T c mk cV vs gD gg S A} (aP:ops[i]?=some o) (af:ll X.E o.op=1) (hw:uA ops o an=some true) (al:o.dst=some d) (ai:Bp X.E o an=some (l,T,c,mk)) (az:KI m m' l T) (aN:G9 o.dst an (mk m.n) cV) (t:lq X G pr ops rest cV m' vs gD gg S A) : lq X G pr ops ((i,1)::rest) an m ((i,mk m.n)::vs) gD gg S (.made i m.n l T::A)| e {i o rest an m m' v cV vs gD gg S A} (aP:ops[i]?=some o) (af:ll X.E o.op=2) (hw:uA ops o an=some true) (aC:KH X G pr o an m v m') (aN:G9 o.dst an v cV) (t:lq X G pr ops rest cV m' vs gD gg S A) : lq X G pr ops ((i,2)::rest) an m ((i,v)::vs) gD gg (m::S) A| skip {i k o rest an m cV vs gD gg S A} (aP:ops[i]?=some o) (af:ll X.E o.op=k) (hw:uA ops o an=some false) (aN:G9 o.dst an (.t []) cV) (t:lq X G pr ops rest cV m vs gD gg S A) : lq X G pr ops ((i,k)::rest) an m ((i,.t [])::vs) gD gg (bif Nat.beq k 2 then m::S else S) A
section
variable{X:cO}{G:GT}{pr:lk}{ops:List Oper}
def G'(aR:cX X.P X.E)(j5:∀ d,d<X.n->X.gv.contains d=true)(gw:∀ o∈ops,∀ d,o.dst=some d->d<X.n){call:ap->List ap->bi->Option (ap×bi)}(kk:G7 (dR X G pr) call):∀ (row:List (Nat×Nat)) {an:be ap} {m:bi} {nJ:List bi} {nK:List p7} {gD:be ap} {gg:bi} {l0:List bi} {nf:List p7},oo (dR X G pr) call ops row an m nJ nK=some (gD,gg,l0,nf)->∃ vs S A,lq X G pr ops row an m vs gD gg S A/\l0=S.reverse++nJ/\(∀ h∈A,h∈nf)/\∀ h∈nK,h∈nf
 |[],an,m,nJ,nK,gD,gg,l0,nf,h=>by simp only[oo,jY,Prod.mk.injEq]at h;obtain⟨rfl,rfl,rfl,rfl⟩:=h;exact⟨[],[m],[],.nil,by simp,by simp,λ_ h=>h⟩
 |(i,k)::rest,an,m,nJ,nK,gD,gg,l0,nf,h=>by
  simp only[oo]at h;obtain⟨o,aP,h⟩:=ct h;obtain⟨w,hw,h⟩:=ct h;obtain⟨af,h⟩:=fV h;rw[zr]at aP;have kV:ll X.E o.op=k:=dD af;have yl:=gw o (z5 aP);cases w with
  |false=>
   have ab:Bq o an (λan=>oo (dR X G pr) call ops rest an m (bX (Nat.beq k 2) (m::nJ) nJ) nK)=some (gD,gg,l0,nf):=h;obtain⟨fj,ak,a6,bb⟩:=Ys ab;obtain⟨vs,S,A,aq,fo,e4,uK⟩:=G' aR j5 gw kk rest ak;refine⟨_,_,_,.skip aP kV hw ⟨a6,bb⟩ aq,?_,e4,uK⟩;rw[fo];cases Nat.beq k 2<;>simp[bX]
  |true=>
   have U:bX (Nat.beq k 0) (bN (uy X.P X.E G m.t o.op an) none λv=>o9 o.dst an v λcV=>oo (dR X G pr) call ops rest cV m nJ (bX (pC o.op) (.load i o an v::nK) nK)) (bX (Nat.beq k 1) (bN o.dst none λd=>bN (Bp X.E o an) none λr=>uz m r.1 r.2.1 λid m=>o9 (some d) an (r.2.2.2 id) λan=>oo (dR X G pr) call ops rest an m nJ (.made i id r.1 r.2.1::nK)) (zm (dR X G pr) call o an m λan m'=>oo (dR X G pr) call ops rest an m' (m::nJ) nK))=some (gD,gg,l0,nf):=h;by_cases y2:k=0
   ·subst y2;have ab:(bN (uy X.P X.E G m.t o.op an) none λv=>o9 o.dst an v λcV=>oo (dR X G pr) call ops rest cV m nJ (bX (pC o.op) (.load i o an v::nK) nK))=some (gD,gg,l0,nf):=U;obtain⟨v,ai,ab⟩:=ct ab;obtain⟨fj,ak,a6,bb⟩:=PJ ab;obtain⟨vs,S,A,aq,fo,e4,uK⟩:=G' aR j5 gw kk rest ak;refine⟨_,_,_,.q aP kV hw ai ⟨a6,bb⟩ aq,fo,λy aA=>?_,λy aA=>uK y ?_⟩
    ·cases ay:pC o.op with
     |false=>rw[ay]at aA;exact e4 y aA
     |true=>
      rw[ay]at aA;rcases ea.1 aA with rfl | aA;·refine uK _ ?_;rw[ay];simp[bX]
      ·exact e4 y aA
    ·cases pC o.op with
     |false=>exact aA| true=>exact lV _ aA
   rw[hx y2]at U;by_cases da:k=1
   ·subst da;have ab:(bN o.dst none λd=>bN (Bp X.E o an) none λr=>uz m r.1 r.2.1 λid m=>o9 (some d) an (r.2.2.2 id) λan=>oo (dR X G pr) call ops rest an m nJ (.made i id r.1 r.2.1::nK))=some (gD,gg,l0,nf):=U;obtain⟨d,al,ab⟩:=ct ab;obtain⟨⟨l,T,c,mk⟩,aX,ab⟩:=ct ab;obtain⟨m2,ak,az⟩:=ajj ab;have o0:o9 o.dst an (mk m.n) (λan=>oo (dR X G pr) call ops rest an m2 nJ (.made i m.n l T::nK))=some (gD,gg,l0,nf):=by rw[al];exact ak
    obtain⟨fj,aL,a6,bb⟩:=PJ o0;obtain⟨vs,S,A,aq,fo,e4,uK⟩:=G' aR j5 gw kk rest aL;refine⟨_,_,_,.a aP kV hw al aX az ⟨a6,bb⟩ aq,fo,λy aA=>?_,λy aA=>uK y (lV _ aA)⟩;rcases ea.1 aA with rfl | aA;·exact uK _ (by simp)
    ·exact e4 y aA
   ·rw[hx da]at U;have ab:zm (dR X G pr) call o an m (λan m'=>oo (dR X G pr) call ops rest an m' (m::nJ) nK)=some (gD,gg,l0,nf):=U;obtain⟨v,dw,fj,G8,-,ak,a6,bb⟩:=Yq aR j5 yl kk ab;obtain⟨vs,S,A,aq,fo,e4,uK⟩:=G' aR j5 gw kk rest ak;have eh:k=2:=by
     have:ll X.E o.op<=2:=by
      unfold ll;split<;>first | omega | (split<;>first | omega | (split<;>omega))
     rw[kV]at this;omega
    subst eh;exact⟨_,_,_,.e aP kV hw G8 ⟨a6,bb⟩ aq,by rw[fo];simp,e4,uK⟩
def lq.head{an gD:be ap}{m gg:bi}{vs:List (Nat×ap)}{S:List bi}{A:List p7}(h:lq X G pr ops row an m vs gD gg S A):∃ m2 l0,S=m2::l0/\x0 m m2:=by
 induction h with
 |nil=>exact⟨_,_,rfl,.refl _⟩| q _ _ _ _ _ _ a8=>exact a8| a _ _ _ _ _ az _ _ a8=>obtain⟨m2,l0,U,ab⟩:=a8;exact⟨m2,l0,U,az.grow.trans ab⟩
 |e _ _ _ _ _ _ _=>exact⟨_,_,rfl,.refl _⟩
 | @skip i k o rest an m cV vs gD gg S A _ _ _ _ _ a8=>
  cases af:Nat.beq k 2 with
  |true=>exact⟨_,_,rfl,.refl _⟩| false=>simpa using a8
def lq.KJ{an gD:be ap}{m gg:bi}{vs:List (Nat×ap)}{S:List bi}{A:List p7}(h:lq X G pr ops row an m vs gD gg S A):m.n<=gg.n/\∀ i c l T,.made i c l T∈A->m.n<=c/\i∈row.map (·.1):=by
 induction h with
 |nil=>exact⟨b2 _,λ_ _ _ _ h=>by cases h⟩
 | @q i o rest an m v cV vs gD gg S A _ _ _ _ _ _ a8=>
  refine⟨a8.1,λgn c l T hm=>?_⟩;have mV:.made gn c l T∈A:=by
   cases ay:pC o.op with
   |false=>rw[ay]at hm;exact hm
   |true=>
    rw[ay]at hm;rcases ea.1 hm with e | hm;·cases e
    ·exact hm
  exact⟨(a8.2 gn c l T mV).1,lV _ (a8.2 gn c l T mV).2⟩
 |a _ _ _ _ _ az _ _ a8=>
  refine⟨k5 az.grow.1 a8.1,λgn c l T hm=>?_⟩;rcases ea.1 hm with e | hm;·cases e;exact⟨b2 _,by simp⟩
  ·exact⟨k5 az.grow.1 (a8.2 gn c l T hm).1,lV _ (a8.2 gn c l T hm).2⟩
 |e _ _ _ aC _ _ a8=>exact⟨k5 aC.1 a8.1,λgn c l T hm=>⟨k5 aC.1 (a8.2 gn c l T hm).1,lV _ (a8.2 gn c l T hm).2⟩⟩| skip _ _ _ _ _ a8=>exact⟨a8.1,λgn c l T hm=>⟨(a8.2 gn c l T hm).1,lV _ (a8.2 gn c l T hm).2⟩⟩
def lq.split:∀ (pre:List (Nat×Nat)) {rest:List (Nat×Nat)} {an gD:be ap} {m gg:bi} {vs:List (Nat×ap)} {S:List bi} {A:List p7},lq X G pr ops (pre++rest) an m vs gD gg S A -> ∃ wu x1 fj dw uL x2 wv,vs=wu++x1/\wu.map (·.1)=pre.map (·.1)/\S=uL++x2/\uL.length=(pre.filter λr=>Nat.beq r.2 2).length/\lq X G pr ops rest fj dw x1 gD gg x2 wv/\(∀ h∈wv,h∈A)/\m.n<=dw.n /\ (∀ t w,fj.get t=some w->(∃ i,(i,w)∈wu/\iy ops i=some t)\/((∀ i∈pre.map (·.1),iy ops i≠some t)/\an.get t=some w)) /\ (∀ i c l T,.made i c l T∈A->.made i c l T∈wv\/c<dw.n)
 |[],rest,an,gD,m,gg,vs,S,A,h=>⟨[],vs,an,m,[],S,A,rfl,rfl,rfl,rfl,h,λ_ h=>h,b2 _,λt w hw=>.inr ⟨by simp,hw⟩,λ_ _ _ _ h=>.inl h⟩
 |(i,k)::pre,rest,an,gD,m,gg,vs,S,A,h=>by
  have fin:∀ {o:Oper} {cV:be ap} {m':bi} {v:ap} {sC:List (Nat×ap)} {l0 S:List bi} {nf A:List p7},ops[i]?=some o->G9 o.dst an v cV->m.n<=m'.n->lq X G pr ops (pre++rest) cV m' sC gD gg l0 nf -> (S=if Nat.beq k 2 then m::l0 else l0)->(∀ h∈nf,h∈A)->(∀ i c l T,.made i c l T∈A->.made i c l T∈nf\/c<m'.n) ->
    ∃ wu x1 fj dw uL x2 wv,(i,v)::sC=wu++x1/\wu.map (·.1)=((i,k)::pre).map (·.1)/\S=uL++x2/\uL.length=(((i,k)::pre).filter λr=>Nat.beq r.2 2).length/\lq X G pr ops rest fj dw x1 gD gg x2 wv/\(∀ h∈wv,h∈A)/\m.n<=dw.n /\ (∀ t w,fj.get t=some w->(∃ i,(i,w)∈wu/\iy ops i=some t)\/((∀ gn∈((i,k)::pre).map (·.1),iy ops gn≠some t)/\an.get t=some w)) /\
     (∀ i c l T,.made i c l T∈A->.made i c l T∈wv\/c<dw.n):=by
   intro o cV m' v sC l0 S nf A aP aN uJ aq fo e4 F5;obtain⟨wu,x1,fj,dw,uL,x2,wv,aF,a7,bC,di,hE,kx,uM,wx,zE⟩:=lq.split pre aq;refine⟨(i,v)::wu,x1,fj,dw,(if Nat.beq k 2 then m::uL else uL),x2,wv,by rw[aF];rfl,by simp[a7],?_,?_,hE,λh cj=>e4 h (kx h cj),k5 uJ uM,λt w hw=>?_,λi c l T hm=>?_⟩
   ·rw[fo,bC];split<;>simp
   ·simp only[u7];split<;>simp[di]
   ·rcases wx t w hw with⟨gn,U,ab⟩ | ⟨U,ab⟩
    ·exact .inl ⟨gn,lV _ U,ab⟩
    ·have pE:iy ops i=o.dst:=by simp[iy,aP]
     cases al:o.dst with
     |none=>
      rw[aN.1 al]at ab;refine .inr ⟨λgn ck=>?_,ab⟩;rcases ea.1 ck with e | ck;·rw[show gn=i from e,pE,al];simp
      ·exact U gn ck
     |some d=>
      rcases aN.2 d al t w ab with⟨rfl,rfl⟩ | ⟨bB,ak⟩;·exact .inl ⟨i,by simp,by rw[pE,al]⟩
      ·refine .inr ⟨λgn ck=>?_,ak⟩;rcases ea.1 ck with e | ck
       ·rw[show gn=i from e,pE,al];exact λe=>bB (by cases e;rfl)
       ·exact U gn ck
   ·rcases F5 i c l T hm with U | U
    ·exact zE i c l T U
    ·exact .inr (EE U uM)
  cases h with
  |q aP af hw ai aN t=>
   rename_i o v cV sC nf;refine fin aP aN (b2 _) t (by simp) (λh cj=>?_) λi c l T hm=>?_
   ·cases pC o.op with
    |false=>exact cj| true=>exact lV _ cj
   ·cases ay:pC o.op with
    |false=>rw[ay]at hm;exact .inl hm
    |true=>
     rw[ay]at hm;rcases ea.1 hm with e | hm;·cases e
     ·exact .inl hm
  |a aP af hw al ai az aN t=>
   refine fin aP aN az.grow.1 t (by simp) (λh cj=>lV _ cj) λi c l T hm=>?_;rcases ea.1 hm with e | hm;·cases e;exact .inr (by rw[az.1];omega)
   ·exact .inl hm
  |e aP af hw aC aN t=>exact fin aP aN aC.1 t (by simp) (λ_ h=>h) λ_ _ _ _ h=>.inl h
  |skip aP af hw aN t=>exact fin aP aN (b2 _) t (by cases Nat.beq k 2<;>rfl) (λ_ h=>h) λ_ _ _ _ h=>.inl h
end
section
variable{ops:List Oper}
def ajk{i k:Nat}{o:Oper}(aP:ops[i]?=some o)(h:E0 o k=true):∀ e,mf ops i e->k.testBit e=true:=by rintro e⟨o',kh,oM,qy,ah,rfl⟩;rw[aP]at oM;cases oM;have:=et.1 h kh (by simpa using qy);rw[ah]at this;simpa using this
def KK:∀ {row:List (Nat×Nat)} {k:Nat},wc ops row k=true->∀ (pre:List (Nat×Nat)) (i c:Nat) (post:List (Nat×Nat)),row=pre++(i,c)::post -> (∃ o,ops[i]?=some o)/\k.testBit i=false/\i ∉ pre.map (·.1)/\∀ e,mf ops i e->k.testBit e=true\/e∈pre.map (·.1)
 |[],k,h,pre,i,c,post,e=>by simp at e
 |(i0,iH)::row,k,h,pre,i,c,post,e=>by
  simp only[wc,b',tp]at h;obtain⟨U,ab⟩:=h;split at ab
  ·rename_i o aP;rw[b']at ab;cases pre with
   |nil=>simp only[hO,CW,Prod.mk.injEq]at e;obtain⟨⟨rfl,rfl⟩,rfl⟩:=e;exact⟨⟨o,aP⟩,U,by simp,λe he=>.inl (ajk aP ab.1 e he)⟩
   |cons p pre=>
    simp only[oO,CW]at e;obtain⟨aF,a7⟩:=e;obtain⟨a6,bb,b0,fy⟩:=KK ab.2 pre i c post a7;have ah:∀ x,(k ||| 2^i0).testBit x=(k.testBit x||decide (x=i0)):=λx=>by rw[H7,ED];congr 1;exact decide_eq_decide.2 eq_comm
    rw[ah,qB]at bb;refine⟨a6,bb.1,?_,λe he=>?_⟩;·rw[<-aF];simp only[cZ,ea,not_or];exact⟨by simpa using bb.2,b0⟩
    ·rcases fy e he with h | h
     ·rw[ah,j0]at h;rcases h with h | h
      ·exact .inl h
      ·exact .inr (by rw[<-aF];simp at h;simp[h])
     ·exact .inr (by rw[cZ];exact lV _ h)
  ·cases ab
def PM:∀ {row:List (Nat×Nat)} {k:Nat},wc ops row k=true->∀ i,i<ops.length->k.testBit i=true\/i∈row.map (·.1)
 |[],k,h,i,hi=>by
  simp only[wc]at h;have:=dD h;subst this
  left
  rw[Px];simpa using hi
 |(i0,iH)::row,k,h,i,hi=>by
  simp only[wc,b',tp]at h;obtain⟨U,ab⟩:=h;split at ab
  ·rw[b']at ab;rcases PM ab.2 i hi with h | h
   ·rw[H7,ED,j0]at h;rcases h with h | h
    ·exact .inl h
    ·have:i0=i:=by simpa using h
     exact .inr (by simp[this])
   ·exact .inr (by rw[cZ];exact lV _ h)
  ·cases ab
def ajl(h:wc ops row 0=true):(row.map (·.1)).Nodup:=by
 have key:∀ {row:List (Nat×Nat)} {k:Nat},wc ops row k=true->(row.map (·.1)).Nodup:=by
  intro row
  induction row with
  |nil=>intro k _;exact Cm
  |cons r row a8=>
   intro k h;obtain⟨i0,iH⟩:=r;have aG:=h;simp only[wc,b',tp]at h;obtain⟨U,ab⟩:=h;split at ab;·rw[b']at ab;rw[cZ,nR];refine⟨λhm=>?_,a8 ab.2⟩;obtain⟨⟨x,c⟩,ae,PN⟩:=dB.1 hm;obtain⟨pre,post,e⟩:=r4 ae;have PO:x=i0:=PN;subst PO;have:=(KK aG ((x,iH)::pre) x c post (by rw[e];rfl)).2.2.1;exact this (by simp)
   ·cases ab
 exact key h
def Yv{α β:Type}:∀ {l:List (α×β)},(l.map (·.1)).Nodup->∀ {k:α} {a b:β},(k,a)∈l->(k,b)∈l->a=b
 |[],_,k,a,b,h,_=>by cases h
 |(y2,c)::l,az,k,a,b,h,aG=>by
  rw[cZ,nR]at az;rcases ea.1 h with e | h
  ·cases e;rcases ea.1 aG with c0 | aG
   ·cases c0;rfl
   ·exact(az.1 (dB.2 ⟨_,aG,rfl⟩)).elim
  ·rcases ea.1 aG with c0 | aG
   ·cases c0;exact(az.1 (dB.2 ⟨_,h,rfl⟩)).elim
   ·exact Yv az.2 h aG
end
section
variable{X:cO}{G:GT}{pr:lk}{D0:bF}{n0:Nat}{a:Act}{w:World}
def KL{o:Oper}{an:be ap}(h:uA ops o an=some b)(bs:∀ t,eI β (F t) (a.tmps.getD t undef))(H:∀ t∈looks ops o,∀ v,an.get t=some v->gC D (F t) v) :
  Region.wanted o (yielded ops.toArray a.tmps)=b:=by
 unfold uA at h;split at h
 ·rename_i ao;cases h;simp[Region.wanted,ao]
 ·rename_i j c ao;split at h
  ·cases h
  ·rename_i d aj;have jA:(ops[j]?).bind (·.dst)=some d:=by rw[zr]at aj;simpa using aj
   have ajm:(ops.toArray[j]?).bind (·.dst)=some d:=by simpa using jA
   have aA:=EP ajm a.tmps;have ho:d∈looks ops o:=Mf ao jA;split at h
   ·rename_i q a0;cases h;have ar:=H _ ho _ a0;have ai:a.tmps.getD d undef=.bool q:=by
     have U:=bs d;rcases ar with⟨u,e,hu⟩ | ⟨fB,c0,e⟩;·rw[e]at U;rw[U,hu.bool]
     ·cases c0;rw[e]at U;exact U
    simp[Region.wanted,ao,aA,Cv ai]
   ·rename_i l a0;cases h;have ar:=H _ ho _ a0;obtain⟨u,e,hu⟩:=ar.wg (by simp);obtain⟨vs,_,rfl⟩:=hu.Pe;have U:=bs d;rw[e]at U;have Ak:yielded ops.toArray a.tmps j=none:=by
     rw[aA];cases mb:a.tmps[d]? with
     |none=>rfl| some v=>simp only[eI,oF,mb,je]at U;subst U;rfl
    simp[Region.wanted,ao,Ak]
   ·cases h
def ajn{o:Oper}{an:be ap}(H:∀ t∈looks ops o,∀ v,an.get t=some v->gC D (F t) v):ka D F an o.op.operands.toList:=λx ae v ai=>by
 cases x with
 |tmp t=>exact H t (Mg (by simpa using ae)) v ai| const c=>exact(show p9 D F .nil from λt v h=>by cases h).op [.const c] (.const c) (by simp) v ai| global g=>exact(show p9 D F .nil from λt v h=>by cases h).op [.global g] (.global g) (by simp) v ai| func f=>exact(show p9 D F .nil from λt v h=>by cases h).op [.func f] (.func f) (by simp) v ai
def ajo{m m2:be fa}{an:be ap}(h:pC op=false):uy X.P X.E G m op an=uy X.P X.E G m2 op an:=by
 cases op with
 |load=>simp[pC]at h| slice t x lo hi mx=>cases mx<;>rfl
 |call c=>
  obtain⟨callee,args,eJ⟩:=c;cases callee<;>rfl
 |_=>rfl
def DY(X:cO)(G:GT)(pr:lk)(D0:bF)(n0:Nat)(ops:List Oper)(es:List Nat)(an:be ap)(vs:List (Nat×ap))(S:List bi)(A:List p7)(L:Nat->Prop)(a:Act)(w:World):Prop:=
 ∃ D F C I M j q6,Rel X a w F C I M/\(∀ q e,es[q]?=some e->(L e ↔ q<j))/\j<=es.length/\S[j]?=some q6/\c2 (dR X G pr) D q6 I M/\(∀ i v t,L i->(i,v)∈vs->iy ops i=some t->gC D (F t) v) /\ (∀ t v,(∀ i,L i->iy ops i≠some t)->an.get t=some v->gC D (F t) v)/\(∀ i c l T,p7.made i c l T∈A->¬ L i->D c=none)/\D0.ext D n0
def DY.an(dn:vj ops){L:Nat->Prop}{q:Nat}{o:Oper}(a0:ops[q]?=some o)(qA:¬ L q){vs:List (Nat×ap)}(DZ:(vs.map (·.1)).Nodup){v:ap}(ai:(q,v)∈vs){an:be ap}(hle:D.le bp)(aN:uI o.dst v bp F dN)(e4:∀ i v t,L i->(i,v)∈vs->iy ops i=some t->gC D (F t) v)(sZ:∀ t v,(∀ i,L i->iy ops i≠some t)->an.get t=some v->gC D (F t) v) :
  (∀ i v t,(L i\/i=q)->(i,v)∈vs->iy ops i=some t->gC bp (dN t) v)/\(∀ t v,(∀ i,(L i\/i=q)->iy ops i≠some t)->an.get t=some v->gC bp (dN t) v):=by
 have Yw:iy ops q=o.dst:=by simp[iy,a0]
 constructor
 ·rintro i u t (hi | rfl) hm al
  ·have bB:o.dst≠some t:=λe=>by obtain⟨fg,hN,pE⟩:=E5 al;exact dn.Me i q fg o t (λc0=>qA (c0 ▸ hi)) hN a0 pE e
   exact aN.2 bp t u bB ((e4 i u t hi hm al).mono hle)
  ·rw[Yv DZ hm ai];rw[Yw]at al;exact aN.1 t al
 ·intro t u cm ao;have bB:o.dst≠some t:=λe=>cm q (.inr rfl) (by rw[Yw,e]);exact aN.2 bp t u bB ((sZ t u (λi hi=>cm i (.inl hi)) ao).mono hle)
end
section
variable{X:cO}{G:GT}{pr:lk}{D0:bF}{n0:Nat}{a:Act}{w:World}
def PP{gH:List Nat}:∀ {es:List Nat},Kf gH es=true->∀ (p q:Nat) (x y:Nat),p<q->es[p]?=some x->es[q]?=some y->(gH.getD y 0).testBit x=true
 |[],_,p,q,x,y,_,ae,_=>by simp at ae
 |e::es,h,p,q,x,y,ry,ae,aA=>by
  simp only[Kf,b']at h;cases q with
  |zero=>omega
  |succ q=>
   have vd:es[q]?=some y:=by simpa using aA
   cases p with
   |zero=>simp at ae;subst ae;exact et.1 h.1 y (z5 vd)| succ p=>exact PP h.2 p q x y (by omega) (by simpa using ae) vd
def ajp:e∈xU E ops ↔ e<ops.length/\Br E ops e=2:=by
 unfold xU;rw[qn,kf];constructor
 ·rintro⟨U,ab⟩;exact⟨U,dD ab⟩
 ·rintro⟨U,ab⟩;exact⟨U,by rw[ab];rfl⟩
def Yx{i:Nat}{o:Oper}(h:ops[i]?=some o):Br E ops i=ll E o.op:=by unfold Br;rw[zr,h];rfl
def gC.same{x:de}{u v:ap}(h:gC D x u)(ar:DM u v=true):gC D x v:=by
 rcases h with⟨y,rfl,h⟩ | ⟨q,rfl,rfl⟩
 ·exact .val (Yu ar h)
 ·have:v=.b q:=by
   cases v<;>simp only[DM,jX]at ar
   rw[eq_of_beq ar]
  exact .inr ⟨q,this,rfl⟩
def ajq(aR:cX X.P X.E)(j5:∀ d,d<X.n->X.gv.contains d=true)(kk:G7 (dR X G pr) call){id:Nat}{Ha:Array Oper}(pf:X.P.follows .mixedOrders=true)(az:w5 X.n Ha=true)
  {an gD:be ap} {m gg:bi} (h:O3 (dR X G pr) call Ha.toList an m=some (gD,gg)) (nZ:∀ a w,k0 X G pr D0 n0 gD gg a w->Q .normal a w) (ar:k0 X G pr D0 n0 an m a w) :
  (Code.region id Ha true).wpIn (gG X) 0 X.P Q a w:=by
 refine wpIn_region_any pf ?_;generalize vh:Ha.toList=ops at h;have ajr:Ha=ops.toArray:=by apply gF;simpa using vh
 subst ajr;have gw:∀ o∈ops,∀ d,o.dst=some d->d<X.n:=by simpa using Ik az
 unfold O3 at h;obtain⟨xy,h⟩:=fV h;unfold Xv at xy;simp only[b']at xy;obtain⟨ajs,nd,Yy,lS⟩:=xy;have dn:vj ops:=S7 ajs;have Yz:((GM X.E ops).filter λr=>Nat.beq r.2 2).map (·.1)=xU X.E ops:=by simpa using lS
 clear lS;generalize jI:xU X.E ops=es at *;have PQ:∀ e,e∈es ↔ e<ops.length/\Br X.E ops e=2:=λe=>by rw[<-jI];exact ajp
 generalize YA:GM X.E ops=row at *;cases iL:oo (dR X G pr) call ops row an m [] []with
 |none=>rw[iL]at h;cases h| some ajt=>
 obtain⟨aju,ajv,l0,nf⟩:=ajt;rw[iL]at h;have aG:bX (nf.all (O2 (dR X G pr) es (kF ops) l0.reverse)) (some (aju,ajv)) none=some (gD,gg):=h;clear h;obtain⟨YB,aG⟩:=fV aG;cases aG;obtain⟨vs,S,A,KM,YC,ajw,-⟩:=G' aR j5 gw kk row iL;rw[db]at YC;subst YC;rw[List.reverse_reverse]at YB;have YD:∀ y∈A,O2 (dR X G pr) es (kF ops) S y=true:=λy aA=>et.1 YB y (ajw y aA);have ji:(row.map (·.1)).Nodup:=ajl nd;obtain⟨ark,arl,arm,arn,aro,arp,arq,f',hC,iX,hf,AW,ars,ajx,ajy,art⟩:=lq.split row (rest:=[]) (by rw[db];exact KM);have ajz:(row.filter λr=>Nat.beq r.2 2).length=es.length:=by rw[<-Yz,cT]
 cases AW;rw[db]at f';subst f';have DZ:(vs.map (·.1)).Nodup:=by rw[hC];exact ji
 have ajA:=KM.KJ;have ajB:∀ (pre:List (Nat×Nat)) (rest:List (Nat×Nat)),row=pre++rest->An ops (λi=>i∈pre.map (·.1)):=λpre rest mC j e aj he=>by
  obtain⟨⟨x,c⟩,ae,PN⟩:=dB.1 aj;have PO:x=j:=PN;subst PO;obtain⟨CO,Fq,aF⟩:=r4 ae;rcases(KK nd CO x c (Fq++rest) (by rw[mC,aF];simp)).2.2.2 e he with h | h;·simp at h
  ·show e∈pre.map (·.1);rw[aF,eL];exact dm.2 (.inl h)
 let J:=DY X G pr D0 n0 ops es an vs S A
 have key:=aji (X:=X) (ops:=ops) (Q:=Q) dn.lt J ?step ?fin ops.length (Array.replicate ops.length false) a { w with drawn:=w.drawn+1 } (by simp) (by unfold todo;exact k5 (to _ _) (by simp)) ?cl ?start
 case cl=>
  intro j e aj;exfalso;by_cases hi:j<ops.length<;>simp[oF,hi]at aj
 case start=>
  obtain⟨D,F,C,I,M,⟨β,a5⟩,bs,lZ,ae,kK⟩:=ar;obtain⟨m2,x2,BE,ao⟩:=KM.head;have cL:∀ i,¬ (Array.replicate ops.length false).getD i false=true:=λi=>by
   by_cases hi:i<ops.length<;>simp[oF,hi]
  refine⟨D,F,C,I,M,0,m2,⟨β,a5.world rfl⟩,λq e _=>⟨λh=>(cL e h).elim,λh=>by omega⟩,bQ _,by rw[BE];rfl,lZ.grow ao,λi v t hi=>(cL i hi).elim,λt v _ ao=>bs t v ao,λi c l T qJ _=>?_,ae⟩;have:=(ajA.2 i c l T qJ).1;cases Hb:D c with
  |none=>rfl| some b=>have:=lZ.jn _ _ Hb;omega
 case fin=>
  rintro a w⟨D,F,C,I,M,j,q6,a5,wy,aj,uN,lZ,BF,BG,cH,ae⟩;have eS:j=es.length:=by
   refine Nat.le_antisymm aj ?_;by_cases av:es.length=0;·omega
   ·have ax:es.length-1<es.length:=by omega
    have U:=(wy (es.length-1) es[es.length-1] (ev ax)).1 ((PQ _).1 (bJ ax)).1;omega
  have ajC:q6=gg:=by rw[eS,iX,pI (by omega),hf,ajz]at uN;simpa using uN.symm
  subst ajC;refine nZ a w ⟨D,F,C,I,M,a5,λt v ao=>?_,lZ,ae,?_⟩
  ·rcases ajy t v ao with⟨i,U,ab⟩ | ⟨U,ab⟩
   ·obtain⟨fg,hN,_⟩:=E5 ab;exact BF i v t (iO.1 hN).1 U ab
   ·refine BG t v (λi hi=>?_) ab;rcases PM nd i hi with ak | ak
    ·simp at ak
    ·exact U i ak
  ·obtain⟨bp,dN,C',I',M',_,_,_,_,kK⟩:=ar;exact k5 kK ajx
 case step=>
  rintro L a w q o⟨D,F,C,I,M,j,q6,⟨β,a5⟩,wy,aj,uN,lZ,BF,BG,cH,ae⟩cv D1 a0 qA KN;have ee:q<ops.length:=(iO.1 a0).1;have vm:=gw o (z5 a0);obtain⟨⟨fB,k⟩,ajD,D2⟩:=dB.1 ((PM nd q ee).resolve_left (by simp));have ajE:fB=q:=D2;subst ajE;obtain⟨pre,post,c4⟩:=r4 ajD;obtain⟨-,-,YE,ajF⟩:=KK nd pre fB k post c4;have ajG:∀ e,mf ops fB e->e∈pre.map (·.1):=λe he=>(ajF e he).resolve_left (by simp);have PR:=ajB pre ((fB,k)::post) c4;have YF:=KM;rw[c4]at YF;obtain⟨wu,x1,fj,dw,uL,x2,wv,aF,a7,bC,di,hE,kx,uM,wx,zE⟩:=lq.split pre YF;have aru:=hE.KJ;have H:∀ t∈looks ops o,∀ v,fj.get t=some v->gC D (F t) v:=λt aq v ai=>by
   rcases wx t v ai with⟨i,U,ab⟩ | ⟨U,ab⟩
   ·obtain⟨fg,hN,pE⟩:=E5 ab;have YG:i∈pre.map (·.1):=by rw[<-a7];exact dB.2 ⟨_,U,rfl⟩
    have bB:i≠fB:=λe=>YE (e ▸ YG);rcases dn.ord i fB fg o t bB hN a0 pE aq with ah | ah;·exact BF i v t (ah.mem cv KN) (by rw[aF];exact dm.2 (.inl U)) ab
    ·exact(YE (ah.mem PR λe he=>PR i e YG he)).elim
   ·refine BG t v (λi hi qG=>?_) ab;obtain⟨fg,hN,pE⟩:=E5 qG;have bB:i≠fB:=λe=>qA (e ▸ hi);rcases dn.ord i fB fg o t bB hN a0 pE aq with ah | ah
    ·exact U i (ah.mem PR ajG) qG
    ·exact qA (ah.mem cv λe he=>cv i e hi he)
  have sc:ka D F fj o.op.operands.toList:=ajn H;have gN:DL es (kF ops) fB<=j:=filter_le λp e aN ah=>by exact(wy p e aN).1 ((ys ah).mem cv KN)
  have ia:j<=p6 es (kF ops) fB:=le_filter aj λp e aN BH=>by
   cases ah:((kF ops).getD e 0).testBit fB with
   |false=>rfl| true=>have ajH:L e:=(wy p e BH).2 aN;exact(qA ((ys ah).mem cv λd al=>cv e d ajH al)).elim
  have YH:ll X.E o.op≠2->∀ p e,es[p]?=some e->((L e\/e=fB) ↔ p<j):=λaf p e aN=>by
   have bB:e≠fB:=λhe=>af (by
    have:=((PQ e).1 (z5 aN)).2;rw[he,Yx a0]at this;exact this)
   exact⟨λcj=>(wy p e aN).1 (cj.resolve_right bB),λcj=>.inl ((wy p e aN).2 cj)⟩
  have PS:ll X.E o.op=2->es[j]?=some fB/\j+1<=es.length/\∀ p e,es[p]?=some e->((L e\/e=fB) ↔ p<j+1):=λaf=>by
   have D2:fB∈es:=(PQ fB).2 ⟨ee,by rw[Yx a0];exact af⟩;obtain⟨wz,gV⟩:=JX D2;have arv:=(iO.1 gV).1;have U:¬ wz<j:=λcj=>qA ((wy wz fB gV).2 cj);have ab:¬ j<wz:=λcj=>by
    have eS:j<es.length:=by omega
    have PT:=PP Yy j wz es[j] fB cj (ev eS) gV;have:=(wy j es[j] (ev eS)).1 ((ys PT).mem cv KN);omega
   have ak:wz=j:=by omega
   subst ak;refine⟨gV,by omega,λp e aN=>⟨λcj=>?_,λcj=>?_⟩⟩
   ·rcases cj with cj | rfl
    ·have:=(wy p e aN).1 cj;omega
    ·refine EC λaz=>?_;have PT:=PP Yy wz p e e (by omega) gV aN;exact qA ((ys PT).mem cv KN)
   ·by_cases rv:p<wz
    ·exact .inl ((wy p e aN).2 rv)
    ·have:p=wz:=by omega
     subst this;rw[gV]at aN;exact .inr (ov aN).symm
  have plain:∀ {v:ap} {dN:Fr} {C':c8} {ch:Act} {w':World},(fB,v)∈vs->ll X.E o.op≠2->(∀ l T c,p7.made fB c l T ∉ A\/True)->Rel X ch w' dN C' I M->uI o.dst v D F dN->J (λj=>L j\/j=fB) ch w':=fun {v dN C' ch w'} ai af _ vo aN=>by obtain⟨f1,f2⟩:=DY.an dn a0 qA DZ ai (bF.le_refl D) aN BF BG;exact⟨D,dN,C',I,M,j,q6,vo,YH af,aj,uN,lZ,f1,f2,λi c l T hm cm=>cH i c l T hm λhi=>cm (.inl hi),ae⟩
  have Hc:∀ {v:ap} {rest:List (Nat×ap)},x1=(fB,v)::rest->(fB,v)∈vs:=fun {v rest} he=>by rw[aF,he];exact dm.2 (.inr (by simp))
  have ajI:n0<=dw.n:=by obtain⟨bp,dN,C',I',M',_,_,_,_,kK⟩:=ar;exact k5 kK uM
  have YI:∀ {k:Nat},k=2->row=pre++(fB,k)::post->ll X.E o.op=2->uL.length=j:=fun {k} eh ajJ af=>by
   obtain⟨PU,eS,_⟩:=PS af;have ajK:es=(pre.filter λr=>Nat.beq r.2 2).map (·.1)++fB::((post.filter λr=>Nat.beq r.2 2).map (·.1)):=by rw[<-Yz,ajJ,uw,eL,u7];subst eh;simp
   have bW:es.Nodup:=by rw[<-jI];exact LV.sublist Mt
   have U:es[uL.length]?=some fB:=by rw[ajK,pI (by rw[cT,di];exact b2 _),cT,di,pZ];rfl
   have yE:=(iO.1 U).1;exact(List.getElem?_inj yE bW).1 (by rw[U,PU])
  cases hE with
  | @q i o' rest mB kX v cV sC PV PW nJ nK aP af BI ai aN t=>
   have q7:o'=o:=ov (aP.symm.trans a0);subst q7;have hw:=KL BI a5.an H;refine⟨λ_=>?_,λau=>by rw[hw]at au;cases au⟩;obtain⟨u,hu,ajL⟩:∃ u,uy X.P X.E G q6.t o'.op fj=some u/\∀ x,gC D x u->gC D x v:=by
    cases ay:pC o'.op with
    |false=>exact⟨v,by rw[ajo ay (m2:=dw.t)];exact ai,λ_ h=>h⟩
    |true=>
     have e2:p7.load fB o' fj v∈A:=kx _ (by rw[ay];simp);have U:=YD _ e2;have ab:=Yt (show DN S (DL es (kF ops) fB) (p6 es (kF ops) fB) (O0 (dR X G pr) o' fj v)=true from U) gN ia uN;unfold O0 at ab;split at ab;·rename_i u hu;exact⟨u,hu,λx ae=>ae.same ab⟩
     ·cases ab
   refine st (λch w'=>?_) (Cu aR vm ⟨β,a5⟩ (Yp (K:=λdN C' I' M'=>I'=I/\M'=M/\uI o'.dst v D F dN) rfl af (X2 aR hu sc lZ λx ae=>⟨rfl,rfl,.put F (ajL x ae)⟩)));rintro⟨dN,C',I',M',gP,rfl,rfl,PK⟩;exact plain (Hc rfl) (by rw[af];decide) (λ_ _ _=>.inr trivial) gP PK
  | @a i o' d rest mB kX m' l T c mk cV sC PV PW nJ nK aP af BI al ai ajM aN t=>
   have q7:o'=o:=ov (aP.symm.trans a0);subst q7;have hw:=KL BI a5.an H;refine⟨λ_=>?_,λau=>by rw[hw]at au;cases au⟩;have e2:p7.made fB dw.n l T∈A:=kx _ (by simp);have U:=YD _ e2;have ab:=Yt (show DN S (DL es (kF ops) fB) (p6 es (kF ops) fB) (O1 dw.n l T)=true from U) gN ia uN;unfold O1 at ab;rw[b']at ab;obtain⟨BJ,ab⟩:=ab;have ajN:dw.n<q6.n:=b9 BJ;split at ab
   ·rename_i cs tx fq py;simp only[b']at ab;obtain⟨bA,zy,ab⟩:=ab;have EN:=dD bA;subst EN;have Yi:=dD zy;subst Yi;split at ab
    ·rename_i dy hY;obtain⟨PX,c6,dg,gB⟩:=be.DP cs l.length 0 _ _ hY;have tS:PX=dy:=ov gB;subst tS;have Hb:D dw.n=none:=cH fB dw.n l tx e2 qA;refine st (λch w'=>?_) (Cu aR vm ⟨β,a5⟩ (X4 (K:=λdN C' I' M'=>∃ b us u,I'=I/\M'=⟨b,.cells us.toArray tx (0,0)⟩::M/\I b=none/\(∀ x∈M,x.num≠b)/\bD D l us/\(∀ i,X.E tx=some i->us.length=c*i.size)/\c<=maxLen /\ (∀ (bp:bF) id,bp id=some ⟨b,0,c⟩->aS bp (mk id) u)/\zx o'.dst u F dN) aR j5 vm ai (by rw[al];rfl) sc λb us u dN C' a6 bb b0 fy kL Js PY=>⟨b,us,u,rfl,rfl,a6,bb,b0,fy,kL,Js,PY⟩));rintro⟨dN,C',I',M',gP,b,us,u,rfl,rfl,a6,bb,b0,fy,kL,Js,PY⟩;have hle:D.le (D.set dw.n ⟨b,0,c⟩):=bF.zw _ Hb;have KO:uI o'.dst (mk dw.n) (D.set dw.n ⟨b,0,c⟩) F dN:=PY.v (Js _ _ (bF.pe _ _ _));obtain⟨f1,f2⟩:=DY.an dn a0 qA DZ (Hc rfl) hle KO BF BG;have oX:=DX ab b0;have fN:∀ id,id≠dw.n->(D.set dw.n ⟨b,0,c⟩) id=D id:=λid lp=>by unfold bF.set;rw[cB lp]
     have G6:∀ id e ic,q6.t.get id=some e->D id=some ic->ic.b≠b:=λid e ic hi hn BD=>by obtain⟨x,te,mD⟩:=lZ.aw hi hn;exact bb x te (mD.trans BD)
     refine⟨D.set dw.n ⟨b,0,c⟩,dN,C',I',_,j,q6,gP,YH (by rw[af];decide),aj,uN,?_,f1,f2,?_,λi hi=>?_⟩
     ·refine⟨λid e ic hi hn=>?_,λid ir e c0 b1 cc hi ck U ab BD=>?_,λid ic hn=>?_,lZ.p8⟩
      ·by_cases lp:id=dw.n
       ·subst lp;rw[bF.pe]at hn;cases hn;rw[py]at hi;cases hi;refine .cells us.toArray rfl (by simp) (by simp[b0.len]) (λi v hi ai=>?_) (λi hi=>by simpa using fy i hi) kL;have j4:PX[i]?=some v:=by have:=dg i hi;rw[cM,ai]at this;exact this.symm
        obtain⟨x,te,mD⟩:=oX.get j4;exact⟨x,by simpa using te,mD.mono hle⟩
       ·rw[fN id lp]at hn;exact(lZ.iq id e ic hi hn).mono hle λx ae _=>lV _ ae
      ·by_cases lp:id=dw.n
       ·by_cases Hd:ir=dw.n
        ·rw[lp,Hd]
        ·rw[fN ir Hd]at ab;rw[lp,bF.pe]at U;cases U;exact(G6 ir c0 cc ck ab BD.symm).elim
       ·rw[fN id lp]at U;by_cases Hd:ir=dw.n
        ·rw[Hd,bF.pe]at ab;cases ab;exact(G6 id e b1 hi U BD).elim
        ·rw[fN ir Hd]at ab;exact lZ.inj id ir e c0 b1 cc hi ck U ab BD
      ·by_cases lp:id=dw.n
       ·rw[lp];exact ajN
       ·rw[fN id lp]at hn;exact lZ.jn _ _ hn
     ·intro i c' dy AR qJ cm;have ajO:c'≠dw.n:=λe=>by
       rcases zE i c' dy AR qJ with h | h
       ·rcases ea.1 h with h | h
        ·cases h;exact cm (.inr rfl)
        ·have:=(t.KJ.2 i c' dy AR h).1;have:=ajM.1;omega
       ·omega
      rw[fN c' ajO];exact cH i c' dy AR qJ λhi=>cm (.inl hi)
     ·rw[fN i (by omega)];exact ae i hi
    ·cases ab
   ·cases ab
  | @e i o' rest mB kX m' v cV sC PV PW nJ nK aP af BI G8 aN t=>
   have q7:o'=o:=ov (aP.symm.trans a0);subst q7;have hw:=KL BI a5.an H;refine⟨λ_=>?_,λau=>by rw[hw]at au;cases au⟩;obtain⟨PU,eS,PZ⟩:=PS af;have wA:=YI rfl c4 af;have P0:q6=dw:=by rw[bC,pI (by omega),wA,pZ]at uN;simpa using uN.symm
   subst P0;obtain⟨m2,ajP,P1,P2⟩:=t.head;refine st (λch w'=>?_) (Cu aR vm ⟨β,a5⟩ (G8.2 D F C I M (λdN C' I' M'=>∃ bp,D.ext bp q6.n/\uI o'.dst v bp F dN/\c2 (dR X G pr) bp m' I' M') sc lZ λbp dN C' I' M' a6 bb b0=>⟨bp,a6,bb,b0⟩));rintro⟨dN,C',I',M',gP,bp,a6,bb,b0⟩;have hle:=lZ.le a6;obtain⟨f1,f2⟩:=DY.an dn a0 qA DZ (Hc rfl) hle bb BF BG;refine⟨bp,dN,C',I',M',j+1,m2,gP,PZ,eS,?_,b0.grow P2,f1,f2,λi c l T qJ cm=>?_,bF.Yr ae a6 ajI⟩;·rw[bC,pI (by omega),wA,show j+1-j=0+1 by omega,H4,P1];rfl
   ·rcases zE i c l T qJ with h | h
    ·have:=(t.KJ.2 i c l T h).1;cases Hb:bp c with
     |none=>rfl| some b=>have:=b0.jn _ _ Hb;omega
    ·rw[a6 c h];exact cH i c l T qJ λhi=>cm (.inl hi)
  | @skip i eQ o' rest mB kX cV sC PV PW nJ nK aP af BI aN t=>
   have q7:o'=o:=ov (aP.symm.trans a0);subst q7;have hw:=KL BI a5.an H;refine⟨λau=>(by rw[hw]at au;cases au),λ_=>?_⟩;have vo:Rel X (a.put o'.dst undef) w (put o'.dst (.val undef) F) C I M:=⟨β,a5.put (x:=.val undef) vm rfl⟩;have KO:uI o'.dst (.t []) D F (put o'.dst (.val undef) F):=.put F (.val .undef);by_cases eh:k=2
   ·subst eh;obtain⟨PU,eS,PZ⟩:=PS af;have wA:=YI rfl c4 af;have P0:q6=dw:=by rw[bC,pI (by omega),wA,pZ]at uN;simpa using uN.symm
    subst P0;obtain⟨m2,ajP,P1,P2⟩:=t.head;obtain⟨f1,f2⟩:=DY.an dn a0 qA DZ (Hc rfl) (bF.le_refl D) KO BF BG;refine⟨D,_,C,I,M,j+1,m2,vo,PZ,eS,?_,lZ.grow P2,f1,f2,λi c l T qJ cm=>cH i c l T qJ λhi=>cm (.inl hi),ae⟩;rw[bC,pI (by omega),wA,show j+1-j=0+1 by omega];show(q6::nJ)[0+1]?=some m2;rw[H4,P1];rfl
   ·exact plain (Hc rfl) (by rw[af];exact eh) (λ_ _ _=>.inr trivial) vo KO
 simpa using key
end
def BK{n:Nat}:∀ {c:Code},hI n c=true->codeOk n c=true
 | .seq x y,h=>by simp only[hI,codeOk,b']at h |-;exact⟨BK h.1,BK h.2⟩
 | .block _ c,h=>by simp only[hI,codeOk]at h |-;exact BK h
 | .cond _ x y,h=>by simp only[hI,codeOk,b']at h |-;exact⟨BK h.1,BK h.2⟩
 | .loop c,h=>by simp only[hI,codeOk]at h |-;exact BK h
 | .region _ ops _,h=>h| .scope c,h=>rfl| .rangeFunc ..,h=>rfl| .skip,h | .exit _,h | .label _,h | .goto _,h | .ret,h | .refuse _,h=>rfl
def P3{n:Nat}:∀ {c:Code} {l:Nat} {r:Code},hI n c=true->findLabel c l=some r->hI n r=true
 | .seq x y,l,r,h,ay=>by
  simp only[hI,b']at h;simp only[findLabel]at ay;split at ay;·rename_i rest ag;cases ay;simp only[hI,b'];exact⟨P3 h.1 ag,h.2⟩
  ·exact P3 h.2 ay
 | .label dy,l,r,h,ay=>by
  simp only[findLabel]at ay;split at ay;·cases ay;rfl
  ·cases ay
 | .skip,_,_,_,ay | .exit _,_,_,_,ay | .goto _,_,_,_,ay | .ret,_,_,_,ay | .refuse _,_,_,_,ay | .block _ _,_,_,_,ay | .cond _ _ _,_,_,_,ay | .loop _,_,_,_,ay | .scope _,_,_,_,ay | .region _ _ _,_,_,_,ay | .rangeFunc _ _ _ _,_,_,_,ay=>by simp[findLabel]at ay
def wB(P:Program):Prop:=∀ (g:Nat) (fn:Func) (c:Code),P.funcs[g]?=some fn->fn.body=some c->hI fn.ntmps c=true/\(fn.name == "runtime.NumGoroutine")=false
def ajQ(P:Program):Bool:=P.funcs.toList.all λfn=>match fn.body with
 |some c=>hI fn.ntmps c && !(fn.name == "runtime.NumGoroutine")
 |none=>true
def ajR(h:ajQ P=true):wB P:=λg fn c au ah=>by have U:=et.1 h fn (by rw[<-Array.mem_def];exact Array.mem_of_getElem? au);simp only[ah,b',tp]at U;exact U
def x3(Y:gm):Prop:=∀ g vs m v m',Y.pr g vs m=some (v,m')->∀ (D:bF) (I:aT) (M:List aD) (us:List Value),bD D vs us->c2 Y D m I M->Spec Y.P g us I M λr I' M'=>∃ bp,D.ext bp m.n/\aS bp v r/\c2 Y bp m' I' M'
def zF:tB->Exit
 | .normal=>.normal| .exit id=>.exit id| .goto l=>.goto l| .ret=>.ret
def jo(Y:gm)(n B:Nat)(av:World)(dM:aT)(cp:List Nat)(ro:Option Nat):cO:=⟨Y.P,Y.E,List.range n,n,B,av,dM,cp,ro⟩
def jo.gv{Y:gm}{n B:Nat}{av:World}{dM:aT}{cp:List Nat}{ro:Option Nat}:∀ d,d<(jo Y n B av dM cp ro).n->(jo Y n B av dM cp ro).gv.contains d=true:=λd al=>by have ie:d<n:=al;show(List.range n).contains d=true;simpa using ie
def BL(Y:gm)(f:Nat):Prop:=∀ h5 n c an m ex cV m',kY Y f h5 n c an m=some (ex,cV,m')->hI n c=true->∀ B av dM cp ro D0 n0 a w,(h5=true->ro=none)->k0 (jo Y n B av dM cp ro) Y.G Y.pr D0 n0 an m a w -> c.wpIn (gG (jo Y n B av dM cp ro)) 0 Y.P (λe a w=>e=zF ex/\k0 (jo Y n B av dM cp ro) Y.G Y.pr D0 n0 cV m' a w) a w
def P4{α:Type}:∀ (n k:Nat),(be.bare n:be α).get k=none
 |0,k=>rfl
 |n+1,k=>by
  rw[be.bare,be.GP];cases Nat.beq k 0 with
  |true=>rfl
  |false=>
   cases Nat.beq (k%2) 1 with
   |true=>exact P4 n _| false=>exact P4 n _
section
variable{X:cO}{G:GT}{pr:lk}{D:bF}{m:bi}{F:Fr}{an:be ap}{C:c8}{I:aT}{M:List aD}
def P5(bs:p9 D F an)(hm:c2 (dR X G pr) D m I M):∀ {aJ:List ResultVar} {vs:List ap} {K:List Value->Prop},zn (dR X G pr) an m.t aJ=some vs->(∀ us,bD D vs us->K us)->oH X F C I M aJ K
 |[],vs,K,h,af=>by simp only[zn]at h;cases h;exact af [] .nil
 | .tmp t::l,vs,K,h,af=>by
  simp only[zn]at h;split at h;·rename_i v sC U ab;cases h;obtain⟨u,aF,a6⟩:=(show gC D (df F (.tmp t)) v from bs t v U).dH;unfold oH;rw[aF];exact P5 bs hm ab λus fL=>af _ (.cons a6 fL)
  ·cases h
 | .cell t ty::l,vs,K,h,af=>by
  simp only[zn]at h;split at h
  ·rename_i x i sC U ab ak;split at h
   ·rename_i v ai;cases h;have xX:∀ q,x≠.b q:=λq e=>by subst e;cases ai
    obtain⟨u,aF,a6⟩:=gC.wg (bs t x U:gC D (df F (.tmp t)) x) xX;obtain⟨ad,dy,D3,rfl,a3,ay,aN⟩:=wi hm a6 ai;have gx:X.E ty=some i:=ab;have dZ:df F (.tmp t)=.val (.pointer (some ad)):=aF;unfold oH;rw[dZ,gx];exact⟨D3,a3,P5 bs hm ak λus fL=>af _ (.cons (Kr aN ay) fL)⟩
   ·cases h
  ·cases h
end
def YJ(aR:cX Y.P Y.E)(bs:wB Y.P)(mC:x3 Y)(aC:BL Y f){m:bi}{v:ap}{fn:Func}{c:Code}(au:Y.P.funcs[g]?=some fn)(ah:fn.body=some c)(hle:args.length<=fn.ntmps){an cV:be ap}(w2:∀ t w,an.get t=some w->args[t]?=some w){dw:bi}(hex:ex=.normal\/ex=.ret)(h:kY Y f true fn.ntmps c an m=some (ex,cV,dw)){vs:List ap}(ag:zn Y cV dw.t fn.results.toList=some vs)
  (ai:v=Xw vs) (hu:bD D args us) (hm:c2 Y D m I M):wX Y.P g us I M λr I' M'=>∃ bp,D.ext bp m.n/\aS bp v r/\c2 Y bp dw I' M':=by
 obtain⟨bM,jh⟩:=bs g fn c au ah;refine L8 (List.range fn.ntmps) aR au ah jh ?_ λB av a w a5=>?_
 ·rw[b'];exact⟨BK bM,xO (by rw[hu.len];exact hle)⟩
 ·have ajS:p9 D (w6 us) an:=λt w hw=>by obtain⟨x,U,ab⟩:=hu.get (w2 t w hw);refine .inl ⟨x,?_,ab⟩;simp only[w6,U]
  have dc:k0 (jo Y fn.ntmps B av I (M.map (·.num)) none) Y.G Y.pr D m.n an m a w:=⟨D,_,_,I,M,a5,ajS,hm,bF.ox,b2 _⟩;refine wpIn_mono (aC _ _ _ _ _ _ _ _ h bM B av I (M.map (·.num)) none D m.n a w (λ_=>rfl) dc) ?_;rintro e ch w'⟨rfl,bp,dN,C',I',M',vo,If,mV,ae,az⟩;have xA:∀ BC,BC=.normal\/BC=.ret->tD (jo Y fn.ntmps B av I (M.map (·.num)) none) fn.results.toList (λr I' M'=>∃ bp,D.ext bp m.n/\aS bp v r/\c2 Y bp dw I' M') BC dN C' I' M':=λBC he=>by
   have KP:=P5 (X:=jo Y fn.ntmps B av I (M.map (·.num)) none) (G:=Y.G) (pr:=Y.pr) (C:=C') If mV ag (K:=λvs=>match vs with
    |[uF]=>ve (M.map (·.num)) I' M' ((λr I' M'=>∃ bp,D.ext bp m.n/\aS bp v r/\c2 Y bp dw I' M') uF)
    |vs=>ve (M.map (·.num)) I' M' ((λr I' M'=>∃ bp,D.ext bp m.n/\aS bp v r/\c2 Y bp dw I' M') (.tuple vs.toArray))) λD3 fL=>by
     clear ag
     match vs,D3,fL,ai with
     |[],D3,fL,ai=>rw[fL.nb];refine⟨I',M',.refl,bp,ae,?_,mV⟩;rw[ai];exact .Kq .nil| [v1],D3,fL,ai=>obtain⟨x,xs,U,ab,rfl⟩:=fL.j';rw[ab.nb];refine⟨I',M',.refl,bp,ae,?_,mV⟩;rw[ai];exact U
     |v1::v2::vs,D3,fL,ai=>obtain⟨x,xs,U,ab,rfl⟩:=fL.j';obtain⟨y,vL,ak,aL,rfl⟩:=ab.j';refine⟨I',M',.refl,bp,ae,?_,mV⟩;rw[ai];exact .Kq fL
   rcases he with rfl | rfl<;>exact KP
  rcases hex with rfl | rfl;·exact⟨dN,C',I',M',vo,xA _ (.inl rfl)⟩
  ·exact⟨dN,C',I',M',vo,xA _ (.inr rfl)⟩
def Spec.iM{args:List Value}{p q:Value->aT->List aD->Prop}(h:Spec P f args I M p)(af:∀ v I' M',p v I' M'->q v I' M'):Spec P f args I M q:=by
 rcases h with⟨U,ab⟩ | h
 ·refine .inl ⟨U,λw hw=>?_⟩;refine(ab w hw).mono ?_;rintro e w'⟨v,I',M',aF,a7,bC,di⟩;exact⟨v,I',M',aF,af _ _ _ a7,bC,di⟩
 ·refine .inr λw hw=>?_;obtain⟨v,w',I',M',aF,a7,bC,di⟩:=h w hw;exact⟨v,w',I',M',aF,af _ _ _ a7,bC,di⟩
section
variable{Y:gm}{D:bF}{m m':bi}{I:aT}{M:List aD}
def YK(aR:cX Y.P Y.E)(bs:wB Y.P)(mC:x3 Y)(aC:BL Y f){v:ap}(h:Kh Y (kY Y f) g args m=some (v,m'))(hu:bD D args us)(hm:c2 Y D m I M) :
  wX Y.P g us I M λr I' M'=>∃ bp,D.ext bp m.n/\aS bp v r/\c2 Y bp m' I' M':=by
 unfold Kh at h;obtain⟨fn,au,U⟩:=ct h;obtain⟨c,ah,ab⟩:=ct U;obtain⟨hle,ak⟩:=fV ab;obtain⟨an,a6,bb⟩:=be.xW args (be.bare 12) 0;rw[a6]at ak;have w2:∀ t w,an.get t=some w->args[t]?=some w:=λt w hw=>by
  rcases bb t w hw with⟨_,h⟩ | ⟨_,h⟩;·simpa using h
  ·rw[P4]at h;cases h
 unfold Xx at ak;split at ak
 ·rename_i cV dw ae;unfold Kg at ak;obtain⟨vs,ag,aL⟩:=ct ak;cases aL;exact YJ aR bs mC aC au ah (b9 hle) w2 (.inl rfl) ae ag rfl hu hm
 ·rename_i cV dw ae;unfold Kg at ak;obtain⟨vs,ag,aL⟩:=ct ak;cases aL;exact YJ aR bs mC aC au ah (b9 hle) w2 (.inr rfl) ae ag rfl hu hm
 ·cases ak
def YL(aR:cX Y.P Y.E)(bs:wB Y.P)(mC:x3 Y)(aC:BL Y f){v:ap}(h:xV Y (kY Y f) g args m=some (v,m'))(hu:bD D args us)(hm:c2 Y D m I M) :
  Spec Y.P g us I M λr I' M'=>∃ bp,D.ext bp m.n/\aS bp v r/\c2 Y bp m' I' M':=by
 unfold xV at h;cases aN:Y.pr g args m with
 |none=>rw[aN]at h;exact .inl (YK aR bs mC aC h hu hm)| some p=>rw[aN]at h;have aG:some p=some (v,m'):=h;cases aG;exact mC g args m v m' aN D I M us hu hm
def cP.kept{a:Act}{W:World}{C:c8}(h:cP X β a w F C I' M')(U:X.av=W)(ab:X.B=W.heap.size)(ak:X.dM=dM)(aL:X.cp=M0.map (·.num)):Kept dM M0 W I' M' w where
 le:=by rw[<-ak];exact h.hL
 sw b o ah:=by
  rcases h.hl b o ah with bm | bm;·exact .inl (by rw[<-ak];exact bm)
  ·exact .inr (by rw[<-ab];exact bm)
 tu x ae:=by
  rcases h.own x ae with bm | bm;·rw[aL]at bm;obtain⟨y,aA,e⟩:=dB.1 bm;exact .inl ⟨y,aA,e⟩
  ·exact .inr (by rw[<-ab];exact bm)
 dL b ah az:=by rw[<-U];refine h.dL b (by rw[ab];exact ah) λhm=>?_;rw[aL]at hm;obtain⟨y,aA,e⟩:=dB.1 hm;exact az y aA e
 out:=by rw[<-U];exact h.out
 sz:=by rw[<-ab];exact h.sz
def YM{R:Type}:∀ {ps:List Nat} {args:List ap} {mB:be ap} {K:be ap->Option R} {r:R} {us:List Value} {tmps:Array Value},DO ps args mB K=some r->bD D args us->(∀ t∈ps,t<tmps.size)->(∀ t v,mB.get t=some v->aS D v (tmps.getD t undef)) -> ∃ fj,K fj=some r/\us.length=ps.length/\((ps.zip us).foldl (λ(tmps:Array Value) (p:Nat×Value)=>tmps.setIfInBounds p.1 p.2) tmps).size=tmps.size /\ ∀ t v,fj.get t=some v->aS D v (((ps.zip us).foldl (λ(tmps:Array Value) (p:Nat×Value)=>tmps.setIfInBounds p.1 p.2) tmps).getD t undef)
 |[],[],mB,K,r,us,tmps,h,hu,aN,av=>by have:=hu.nb;subst this;exact⟨mB,h,rfl,rfl,av⟩
 |[],_::_,mB,K,r,us,tmps,h,hu,aN,av=>by simp[DO]at h
 |_::_,[],mB,K,r,us,tmps,h,hu,aN,av=>by simp[DO]at h
 |t0::ps,wC::args,mB,K,r,us,tmps,h,hu,aN,av=>by
  obtain⟨x,xs,a6,bb,rfl⟩:=hu.j';simp only[DO]at h;obtain⟨fj,U,ab⟩:=be.oq (some wC) mB t0;rw[U]at h;have ax:=aN t0 (by simp);obtain⟨uO,ak,aL,bm,b5⟩:=YM (tmps:=tmps.setIfInBounds t0 x) h bb (λt aq=>by simpa using aN t (by simp[aq])) λt v aq=>by
   rw[oF,Ch];rcases ab t v aq with⟨rfl,e⟩ | ⟨bB,ao⟩;·have:=(ov e);subst this;simp only[nU,ax];exact a6
   ·rw[cB (rm bB),<-oF];exact av t v ao
  exact⟨uO,ak,by simp[aL],by simpa using bm,b5⟩
def kZ.KQ{an:be ap}(h:kZ D E M a (.loop b n an ps ff body)):∃ L,(⟨a.b,.loop L⟩:aD)∈M/\XG D b n an ps ff body L:=by
 cases h with
 |loop L U ab=>exact⟨L,U,ab⟩
def kZ.ajT{c:Code}{an:be ap}(h:kZ D E M a (.done c n an ps ff body)):∃ L,(⟨a.b,.loop L⟩:aD)∈M/\L.state=.done/\L.pending=some c:=by
 cases h with
 |done L U ab ak=>exact⟨L,U,ab,ak⟩
def c2.swap(h:c2 Y D m I M){bh:be fa}{l:Nat}{c9 aF:fa}{o o':Obj}{Mr:List aD}(ao:m.t.get l=some c9)(aX:D l=some gX)(aV:M.Perm (⟨gX.b,o⟩::Mr))(aq:∀ id e,bh.get id=some e->(id=l/\some aF=some e)\/(id≠l/\m.t.get id=some e))
  (he:kZ D Y.E (⟨gX.b,o'⟩::Mr) gX aF):c2 Y D ⟨bh,m.n⟩ I (⟨gX.b,o'⟩::Mr):=by
 refine h.step (λid e hi=>(aq id e hi).imp (λq=>⟨q.1,ov q.2⟩) λq=>q) aX (bF.le_refl D) (λ_ _=>rfl) h.jn (λ_ _ h=>h) (λid e ch bB hi kb x ae az=>?_) he λid e ch bB hi kb ah=>bB (h.inj _ _ _ _ _ _ hi ao kb aX ah);rcases ea.1 (aV.mem_iff.1 ae)with rfl | ae
 ·exact(bB (h.inj _ _ _ _ _ _ hi ao kb aX az.symm)).elim
 ·exact lV _ ae
end
section
variable{Y:gm}{D:bF}{m m':bi}{I:aT}{M:List aD}
def ajU(aC:BL Y f){l:Nat}{v:ap}(h:O7 (kY Y f) l args m=some (v,m'))(ay:D l=some gX)(hu:bD D args us)(hm:c2 Y D m I M) :
  Fb Y.P gX.b us I M λr I' M'=>∃ bp,D.ext bp m.n/\aS bp v r/\c2 Y bp m' I' M':=by
 unfold O7 at h;split at h
 ·rename_i n mB ps ff body ao;obtain⟨L,aV,cL⟩:=(hm.iq _ _ _ ao ay).KQ;intro W gi;have Fg:W.heap[gX.b]?=some (.loop L):=gi.m _ aV;have dc:L.state=.ready:=cL.b4;have vh:∀ t∈ps,t<L.tmps.size:=λt aq=>by rw[cL.sz];exact cL.op t (by rw[cL.ps];exact aq)
  obtain⟨fj,U,hlen,cQ,YN⟩:=YM (tmps:=L.tmps) h hu vh cL.an;have C7:L.params.size=ps.length:=by rw[<-cL.ps];simp
  refine⟨_,_,_,_,run_yield Fg (by rw[C7];simpa using hlen),?_⟩;have xf:(L.params.zip us.toArray).foldl (λtmps (x:Nat×Value)=>match x with | (t,a)=>tmps.setIfInBounds t a) L.tmps=(ps.zip us).foldl (λ(tmps:Array Value) (p:Nat×Value)=>tmps.setIfInBounds p.1 p.2) L.tmps:=by rw[<-LS,<-cL.ps];simp
  rw[xf];generalize bA:(ps.zip us).foldl (λ(tmps:Array Value) (p:Nat×Value)=>tmps.setIfInBounds p.1 p.2) L.tmps=T at YN cQ;rw[cL.ff,cL.body];have jT:hI n ff=true:=by rw[<-cL.ff];exact cL.hp
  have wq:hI n body=true:=by rw[<-cL.body];exact cL.mm
  refine roundIn_of_wpIn (F:=Fence.wide) (n:=0) trivial ?_;let vv:cO:=jo Y n W.heap.size W I (M.map (·.num)) (some gX.b)
  have EY:cP vv (λ_=>0) { tmps:=T,defers:=[] } W (λt=>.val (T.getD t undef)) (λ_=>none) I M:={
   size:=cQ.trans cL.sz
   defers:=⟨[],rfl,Cm,λr ag=>by cases ag⟩
   holds:=gi
   an:=λt=>rfl
   cf:=λs cs ar=>by cases ar
   inj:=λs b3 U=>by simp at U
   hL:=λb o ah=>ah
   hl:=λb o ah=>.inl ah
   own:=λx ae=>.inl (dB.2 ⟨x,ae,rfl⟩)
   dL:=λb ah au=>rfl
   out:=.refl _
   sz:=b2 _ }
  unfold Xz at U;split at U
  ·rename_i uO m2 ajV;have eu:k0 vv Y.G Y.pr D m.n fj m { tmps:=T,defers:=[] } W:=⟨D,_,_,I,M,⟨_,EY⟩,λt v ai=>.val (YN t v ai),hm,bF.ox,b2 _⟩;refine wpIn_mono (aC _ _ _ _ _ _ _ _ ajV jT _ _ _ _ _ D m.n _ _ (λe=>by cases e) eu) ?_;rintro e ca f'⟨rfl,P6,P7,YO,dG,ew,⟨YP,qH⟩,P8,AE,mD,h8⟩;have tS:P6 l=some gX:=by rw[mD l (hm.jn _ _ ay)];exact ay
   have ab:O5 (kY Y f) l n body (m2.t.get l) uO m2=some (v,m'):=U;unfold O5 at ab;split at ab
   ·rename_i lX ajW ajX ajY O6 lM;obtain⟨zG,P9,wD⟩:=(AE.iq _ _ _ lM tS).KQ;obtain⟨pre,post,c4⟩:=r4 P9;have nd:ew.Perm (⟨gX.b,.loop zG⟩::(pre++post)):=by rw[c4];exact o3
    have YQ:f'.heap[gX.b]?=some (.loop zG):=qH.holds.m _ P9;have ajZ:=(l6.1 YQ).1;refine⟨_,run_beginRound YQ wD.b4,?_⟩;obtain⟨t3,ak,aL⟩:=be.oq (some (fa.loop true lX ajW ajX ajY O6)) m2.t l;rw[ak]at ab;have aj0:cP vv YP ca (f'.putObj gX.b (.loop { zG with state:=.busy })) P7 YO dG (⟨gX.b,.loop { zG with state:=.busy }⟩::(pre++post)):=
     (qH.jg (.perm nd .refl)).swap (by simp) (CE ajZ) (λb ah=>mJ ah) (Ic _ _ _)
    have wE:c2 Y P6 ⟨t3,m2.n⟩ dG (⟨gX.b,.loop { zG with state:=.busy }⟩::(pre++post)):=AE.swap lM tS nd aL (.loop { zG with state:=.busy } (by simp) ⟨rfl,wD.pG,wD.sz,wD.an,wD.ps,wD.ff,wD.body,wD.hp,wD.mm,wD.op⟩);unfold Xy at ab;obtain⟨⟨ex,arw,KR⟩,Gp,bm⟩:=ct ab;have yG:k0 vv Y.G Y.pr D m.n uO ⟨t3,m2.n⟩ ca (f'.putObj gX.b (.loop { zG with state:=.busy })):=⟨P6,P7,YO,dG,_,⟨YP,aj0⟩,P8,wE,mD,h8⟩;refine wpIn_mono (aC _ _ _ _ _ _ _ _ Gp wq _ _ _ _ _ D m.n _ _ (λe=>by cases e) yG) ?_;rintro e gr hf⟨rfl,YR,aj1,aj2,qF,sK,⟨aj3,KS⟩,arx,YS,YT,YU⟩;have YV:YR l=some gX:=by rw[YT l (hm.jn _ _ ay)];exact ay
    have b5:O4 l (KR.t.get l) (CL ex) KR=some (v,m'):=bm;unfold O4 at b5;split at b5
    ·rename_i YW YX YY YZ Y0 AT;obtain⟨P',Y1,zH⟩:=(YS.iq _ _ _ AT YV).KQ;obtain⟨Y2,Y3,aj4⟩:=r4 Y1;have Y4:sK.Perm (⟨gX.b,.loop P'⟩::(Y2++Y3)):=by rw[aj4];exact o3
     have Y5:hf.heap[gX.b]?=some (.loop P'):=KS.holds.m _ Y1;have zt:=(l6.1 Y5).1;obtain⟨t5,fw,fu⟩:=be.oq (some (bN (CL ex) (fa.loop false YW YX YY YZ Y0) λc=>fa.done c YW YX YY YZ Y0)) KR.t l;rw[fw]at b5;cases b5;have fin:∀ jump,CL ex=jump->∃ uF w',(Instr.endRound gX.b jump).run Y.P hf=.ok uF w'/\∃ r I' M',Ending.returned uF=.returned r/\(∃ bp,D.ext bp m.n/\aS bp (.b (CL ex).isNone) r/\c2 Y bp ⟨t5,KR.n⟩ I' M')/\ef I' M' w'/\Kept I M W I' M' w':=by
      rintro jump aj;let KT:Loop:={ P' with state:=if jump.isNone then .ready else .done,pending:=jump }
      have Y6:cP vv aj3 gr (hf.putObj gX.b (.loop KT)) aj1 aj2 qF (⟨gX.b,.loop KT⟩::(Y2++Y3)):=
       (KS.jg (.perm Y4 .refl)).swap (by simp) (CE zt) (λb ah=>mJ ah) (Ic _ _ _)
      refine⟨_,_,run_endRound jump Y5,_,qF,_,rfl,⟨YR,YT,?_,YS.swap AT YV Y4 fu ?_⟩,Y6.holds,Y6.kept rfl rfl rfl rfl⟩;·rw[aj];simp[aS]
      ·rw[aj];cases jump with
       |none=>exact .loop KT (by simp) ⟨rfl,rfl,zH.sz,zH.an,zH.ps,zH.ff,zH.body,zH.hp,zH.mm,zH.op⟩| some c=>exact .done KT (by simp) rfl rfl
     cases ex with
     |normal=>exact fin none rfl| exit id=>exact fin _ rfl| goto t=>exact fin _ rfl| ret=>exact fin _ rfl
    ·cases b5
   ·cases ab
  ·cases U
 ·cases h
end
section
variable{Y:gm}
def aj5(aR:cX Y.P Y.E)(bs:wB Y.P)(mC:x3 Y)(aC:BL Y f):G7 Y (Ki Y (kY Y f)):=λajg l m v m' h D I M u us yk fL hm=>by
 unfold Ki at h;split at h
 ·rename_i g cC cs;simp only[aS]at yk;obtain⟨vs,ws,U,ab,rfl⟩:=yk;refine .inl ⟨g,_,_,rfl,?_⟩;have:=YL aR bs mC aC h (U.append (fL.append ab)) hm;simpa using this
 ·rename_i q;simp only[aS]at yk;obtain⟨gX,U,rfl⟩:=yk;exact .inr ⟨gX.b,rfl,ajU aC h U fL hm⟩
 ·cases h
def k0.world{an:be ap}{m:bi}{a:Act}(h:k0 X G pr D0 n0 an m a w):∃ D F β,(∀ t,eI β (F t) (a.tmps.getD t undef))/\p9 D F an:=by obtain⟨D,F,C,I,M,⟨β,a5⟩,bs,_⟩:=h;exact⟨D,F,β,a5.an,bs⟩
def k0.eval{an:be ap}{m:bi}{a:Act}(h:k0 X G pr D0 n0 an m a w)(ae:dV an x=some (.b b)):a.eval x=.bool b:=by obtain⟨D,F,β,U,ab⟩:=h.world;obtain⟨u,aF,a6⟩:=(ab.op [x]).bY (x:=x) (by simp) ae;rw[dx U aF,a6.bool]
def gC.ok{x:de}{v:ap}(h:gC D x v)(ae:eI β x u):aS D v u:=by
 rcases h with⟨y,rfl,h⟩ | ⟨q,rfl,rfl⟩
 ·have:u=y:=ae;subst this;exact h
 ·have:u=.bool q:=ae;subst this;simp[aS]
def aj6(aR:cX Y.P Y.E)(bs:wB Y.P)(mC:x3 Y)(aC:BL Y f){h5:Bool}{ps:Array Tmp}{an cV:be ap}{m m':bi}(h:O9 Y (kY Y f) h5 n (dV an x) ps.toList ff body an m=some (ex,cV,m'))(bM:hI n (.rangeFunc x ps ff body)=true){B:Nat}{av:World}{cp:List Nat}{ro:Option Nat}{a:Act}(iw:h5=true->ro=none)(ar:k0 (jo Y n B av dM cp ro) Y.G Y.pr D0 n0 an m a w) :
  (Code.rangeFunc x ps ff body).wpIn (gG (jo Y n B av dM cp ro)) 0 Y.P (λe a w=>e=zF ex/\k0 (jo Y n B av dM cp ro) Y.G Y.pr D0 n0 cV m' a w) a w:=by
 unfold O9 at h;split at h
 ·rename_i g cap ae;have Mz:=iw rfl;subst Mz;obtain⟨D,F,C,I,M,⟨β,a5⟩,Qa,hm,fv,kK⟩:=ar;obtain⟨u,aF,a6⟩:=(Qa.op [x]).bY (x:=x) (by simp) ae;simp only[aS]at a6;obtain⟨vs,ws,U,ab,rfl⟩:=a6;have ib:=U.nb;subst ib;simp only[hI,b']at bM;obtain⟨t1,ak,aL⟩:=GZ h;refine wpIn_rangeFunc λfn _=>?_;let hP:Loop:={ state:=.ready,pending:=none,fn:=fn,tmps:=a.tmps,params:=ps,assign:=ff,body:=body,defers:=w.heap.size }
  let l:=w.heap.size+1
  let hC:World:=(w.alloc (.deferred (some []))).alloc (.loop hP)
  have As:=a5.Tl.pu (.loop hP);have ay:(w.alloc (.deferred (some []))).heap.size=l:=by simp[l]
  rw[ay]at As;have aj7:∀ q∈M,q.num≠l:=λq a0 e=>by have:=a5.holds.lt a0;omega
  have Y7:c2 Y (D.set m.n ⟨l,0,0⟩) ⟨t1,m.n+1⟩ I (⟨l,.loop hP⟩::M):=hm.new (a:=⟨l,0,0⟩) ak aj7 (.loop hP (by simp) ⟨rfl,rfl,a5.size,λt v aq=>((Qa t v aq).ok (a5.an t)).mono (bF.zw _ hm.fresh),rfl,rfl,rfl,bM.1,bM.2.1,λt aq=>b9 (et.1 bM.2.2 t aq)⟩);unfold XC at aL;obtain⟨⟨v,m2⟩,kk,bm⟩:=ct aL;have Y8:=bF.zw (D:=D) ⟨l,0,0⟩ hm.fresh;have mw:bD (D.set m.n ⟨l,0,0⟩) (.y m.n::cap) (.func (.yield l) #[] #[]::ws):=.cons (by simp only[aS];exact⟨_,bF.pe _ _ _,rfl⟩) (ab.mono Y8);obtain⟨py,Aj⟩:=YK aR bs mC aC kk mw Y7;have Nt:=Aj hC As.holds;have a7:=dx a5.an aF;refine⟨l,[wZ w.heap.size],hC,{ target:=.fn (.func g) ws.toArray,args:=#[.func (.yield l) #[] #[]] },hC,g,(.func (.yield l) #[] #[]::ws).toArray,hC,?_,?_,λ_ _=>trivial,?_,(λh=>by cases h),?_⟩;·show(Instr.enterLoop fn a.tmps ps ff body none).run Y.P w=_;exact run_enterLoop_outer fn a.tmps ps ff body
  ·show(Deferred.ofValue (a.eval x) (#[Operand.const (.func (.yield l) #[] #[])].map a.eval)).run Y.P hC=_;rw[a7];simp[Deferred.ofValue,Act.eval]
  ·simp only[invoke];rw[show #[Value.func (.yield l) #[] #[]]++ws.toArray=(.func (.yield l) #[] #[]::ws).toArray from by apply gF;simp];exact py _ _
  ·refine(L4 (X:=jo Y n B av dM cp none) Nt _).mono ?_;rintro e iX⟨r,gJ,qE,rfl,⟨He,Hf,Nw,wE⟩,Y9,oy⟩;have vy:=As.after (Mr:=[]) (by simp) Y9 oy;rw[db]at vy;have At:He m.n=some ⟨l,0,0⟩:=by rw[Hf m.n (H6 _)];exact bF.pe _ _ _
   have aj8:=Y7.le Hf;have aj9:p9 He F an:=λt v aq=>(Qa t v aq).mono (bF.le_trans Y8 aj8);have aka:D0.ext He n0:=λi hi=>by
    have e3:i<m.n+1:=by
     have:i<m.n:=by omega
     omega
    rw[Hf i e3];show(if i=m.n then _ else D i)=D0 i;rw[cB (by omega)];exact fv i hi
   have fin:∀ (L:Loop) (t4:be fa) (j:Option Code),(⟨l,.loop L⟩:aD)∈qE->L.state≠.busy->L.pending=j->(∃ c9,m2.t.get m.n=some c9)->(∀ id e,t4.get id=some e->(id=m.n/\(none:Option fa)=some e)\/(id≠m.n/\m2.t.get id=some e))->n0<=m2.n ->
     ∃ hf,(Instr.endLoop l).run Y.P iX=.ok j hf/\k0 (jo Y n B av dM cp none) Y.G Y.pr D0 n0 an ⟨t4,m2.n⟩ { a with defers:=[wZ w.heap.size]++a.defers } hf:=by
    rintro L t4 j cL ah aN⟨c9,akb⟩Nx YU;have akc:iX.heap[l]?=some (.loop L):=Y9.m _ cL;obtain⟨pre,post,c4⟩:=r4 cL;have nd:qE.Perm (⟨l,.loop L⟩::(pre++post)):=by rw[c4];exact o3
    have kl:∀ i eZ,t4.get i=some eZ->i≠m.n/\m2.t.get i=some eZ:=λi eZ hi=>by
     rcases Nx i eZ hi with⟨_,fu⟩ | fu;·cases fu
     ·exact fu
    have KS:=(vy.jg (.perm nd .refl)).Ff (o':=.loop { L with state:=.exhausted });refine⟨_,(by rw[<-aN];exact run_endLoop akc ah),He,F,C,gJ,pre++post,⟨β,KS⟩,aj9,⟨λi eZ b hi hn=>?_,λi gn eZ zC b ic hi ck=>wE.inj i gn eZ zC b ic (kl i eZ hi).2 (kl gn zC ck).2,wE.jn,wE.p8⟩,aka,YU⟩;refine(wE.iq i eZ b (kl i eZ hi).2 hn).mono (bF.le_refl He) λq a0 az=>?_;rcases ea.1 (nd.mem_iff.1 a0)with rfl | a0;·exact((kl i eZ hi).1 (wE.inj _ _ _ _ _ _ (kl i eZ hi).2 akb hn At az.symm)).elim
    ·exact a0
   have h8:∀ {c9:fa},m2.t.get m.n=some c9->n0<=m2.n:=λ_=>by have:=wE.jn _ _ At;omega
   have b5:(match m2.t.get m.n with
    |some (.loop false ..)=>m2.t.na none m.n λt=>some (tB.normal,an,(⟨t,m2.n⟩:bi))
    |some (.done c ..)=>bN (O8 c) none λex=>m2.t.na none m.n λt=>some (ex,an,⟨t,m2.n⟩)
    |_=>none)=some (ex,cV,m'):=bm
   split at b5;·rename_i Vj akd ake akf akg oX;obtain⟨L,cL,Y'⟩:=(wE.iq _ _ _ oX At).KQ;obtain⟨t4,fw,fu⟩:=be.oq (none:Option fa) m2.t m.n;rw[fw]at b5;cases b5;obtain⟨hf,fP,rH⟩:=fin L t4 none cL (by rw[Y'.b4];simp) Y'.pG ⟨_,oX⟩ fu (h8 oX);exact⟨none,hf,fP,rfl,rH⟩
   ·rename_i c Vj akd ake akf akg oX;obtain⟨L,cL,dc,akh⟩:=(wE.iq _ _ _ oX At).ajT;obtain⟨BC,hex,b5⟩:=ct b5;obtain⟨t4,fw,fu⟩:=be.oq (none:Option fa) m2.t m.n;rw[fw]at b5;cases b5;obtain⟨hf,fP,rH⟩:=fin L t4 (some c) cL (by rw[dc];simp) akh ⟨_,oX⟩ fu (h8 oX);refine⟨some c,hf,fP,?_⟩;unfold O8 at hex;split at hex
    ·cases hex;exact wpIn_exit ⟨rfl,rH⟩
    ·cases hex;exact wpIn_goto ⟨rfl,rH⟩
    ·cases hex;exact wpIn_ret ⟨rfl,rH⟩
    ·cases hex
   ·cases b5
 ·cases h
end
section
variable{Y:gm}
def Za{next:Act->World->Prop}{a:Act}(h:Q (zF ex) a w)(bB:ex≠.normal):Exit.then next Q (zF ex) a w:=by cases ex<;>first | exact(bB rfl).elim | exact h
def aki(aR:cX Y.P Y.E)(bs:wB Y.P)(mC:x3 Y)(pf:Y.P.follows .mixedOrders=true):∀ f k,k<=f->BL Y k:=by
 intro f
 induction f with
 |zero=>
  intro k af h5 n c an m ex cV m' h;have:k=0:=by omega
  subst this;cases h
 |succ f a8=>
  intro k af;by_cases Gh:k<=f;·exact a8 k Gh
  have ny:k=f+1:=by omega
  subst ny;have aC:=a8 f (b2 _);have kk:=aj5 aR bs mC aC;intro h5 n c an m ex cV m' h bM B av dM cp ro D0 n0 a w iw ar;have U:O' Y f (kY Y f) h5 n c an m=some (ex,cV,m'):=h;have j5:=@jo.gv Y n B av dM cp ro;unfold O' at U;cases c with
  |skip=>cases U;exact wpIn_skip ⟨rfl,ar⟩| label l=>cases U;exact wpIn_label ⟨rfl,ar⟩| ret=>cases U;exact wpIn_ret ⟨rfl,ar⟩| exit id=>cases U;exact wpIn_exit ⟨rfl,ar⟩| goto l=>cases U;exact wpIn_goto ⟨rfl,ar⟩| refuse s=>cases U
  |seq x y=>
   simp only[hI,b']at bM;simp only[GN]at U;split at U;·rename_i fj dw ae;refine wpIn_seq (wpIn_mono (aC _ _ _ _ _ _ _ _ ae bM.1 B av dM cp ro D0 n0 a w iw ar) ?_);rintro e ca f'⟨rfl,eu⟩;exact aC _ _ _ _ _ _ _ _ U bM.2 B av dM cp ro D0 n0 ca f' iw eu
   ·rename_i cm;refine wpIn_seq (wpIn_mono (aC _ _ _ _ _ _ _ _ U bM.1 B av dM cp ro D0 n0 a w iw ar) ?_);rintro e ca f'⟨rfl,eu⟩;exact Za ⟨rfl,eu⟩ λe=>cm cV m' (by rw[U,e])
  |block id c=>
   simp only[hI]at bM;simp only[XA]at U;split at U
   ·rename_i j fj dw ae;refine wpIn_block (wpIn_mono (aC _ _ _ _ _ _ _ _ ae bM B av dM cp ro D0 n0 a w iw ar) ?_);rintro e ca f'⟨rfl,eu⟩;simp only[zF,Exit.inBlock];by_cases aj:j=id
    ·subst aj;rw[qp]at U;have ab:some (tB.normal,fj,dw)=some (ex,cV,m'):=U;cases ab;rw[cw rfl];exact⟨rfl,eu⟩
    ·rw[hx aj]at U;have ab:some (tB.exit j,fj,dw)=some (ex,cV,m'):=U;cases ab;rw[cB aj];exact⟨rfl,eu⟩
   ·rename_i cm;refine wpIn_block (wpIn_mono (aC _ _ _ _ _ _ _ _ U bM B av dM cp ro D0 n0 a w iw ar) ?_);rintro e ca f'⟨rfl,eu⟩;cases ex with
    |exit j=>exact(cm j cV m' U).elim| normal=>exact⟨rfl,eu⟩| goto l=>exact⟨rfl,eu⟩| ret=>exact⟨rfl,eu⟩
  |cond x c6 dg=>
   simp only[hI,b']at bM;simp only[XB]at U;split at U
   ·rename_i b ae;refine wpIn_cond (ar.eval ae) ?_;cases b with
    |true=>exact aC _ _ _ _ _ _ _ _ U bM.1 B av dM cp ro D0 n0 a w iw ar| false=>exact aC _ _ _ _ _ _ _ _ U bM.2 B av dM cp ro D0 n0 a w iw ar
   ·cases U
  |loop c=>
   simp only[hI]at bM;let J (k:Nat) (a:Act) (w:World):Prop:=k<=f+1/\∃ fj dw,kY Y k h5 n (.loop c) fj dw=some (ex,cV,m')/\k0 (jo Y n B av dM cp ro) Y.G Y.pr D0 n0 fj dw a w
   refine Il J (m:=f+1) ⟨b2 _,an,m,h,ar⟩ ?_;rintro k ca f'⟨af,fj,dw,ab,eu⟩;cases k with
   |zero=>cases ab
   |succ k=>
    have D4:=a8 k (by omega);have ak:GN (kY Y k h5 n c fj dw) (kY Y k h5 n (.loop c))=some (ex,cV,m'):=ab;simp only[GN]at ak;split at ak;·rename_i uO m2 ae;refine wpIn_mono (D4 _ _ _ _ _ _ _ _ ae bM B av dM cp ro D0 n0 ca f' iw eu) ?_;rintro e dC hC⟨rfl,iR⟩;exact⟨k,H6 k,by omega,uO,m2,ak,iR⟩
    ·rename_i cm;refine wpIn_mono (D4 _ _ _ _ _ _ _ _ ak bM B av dM cp ro D0 n0 ca f' iw eu) ?_;rintro e dC hC⟨rfl,iR⟩;exact Za ⟨rfl,iR⟩ λe=>cm cV m' (by rw[ak,e])
  |region id ops akj=>
   cases akj with
   |false=>simp only[Kj]at U;obtain⟨⟨fj,dw⟩,ae,ab⟩:=ct U;cases ab;refine wpIn_region ?_;have:=PL (X:=jo Y n B av dM cp ro) (G:=Y.G) (pr:=Y.pr) (D0:=D0) (n0:=n0) aR j5 kk ops (λe a w=>e=zF .normal/\k0 (jo Y n B av dM cp ro) Y.G Y.pr D0 n0 fj dw a w) (λa w h=>⟨rfl,h⟩) ops.toList 0 (by simp) (Ik bM) ae ar;have fP:wpOpsIn (gG (jo Y n B av dM cp ro)) 0 Y.P ops (λe a w=>e=zF .normal/\k0 (jo Y n B av dM cp ro) Y.G Y.pr D0 n0 fj dw a w) (List.range' 0 ops.toList.length) a w:=this;rw[z4];simpa using fP
   |true=>simp only[Kj]at U;obtain⟨⟨fj,dw⟩,ae,ab⟩:=ct U;cases ab;exact ajq (X:=jo Y n B av dM cp ro) (G:=Y.G) (pr:=Y.pr) (D0:=D0) (n0:=n0) aR j5 kk pf bM ae (λa w h=>⟨rfl,h⟩) ar
  |scope c=>
   simp only[hI]at bM;have step:∀ (k:Nat) (x:Code) (fj:be ap) (dw:bi) (ca:Act) (f':World),hI n x=true->GO (kY Y f) h5 n c (k+1) x fj dw=some (ex,cV,m')->k0 (jo Y n B av dM cp ro) Y.G Y.pr D0 n0 fj dw ca f' ->
     x.wpIn (gG (jo Y n B av dM cp ro)) 0 Y.P (λe ch w'=>match e with
      | .goto l=>∃ rest uO m2,findLabel c l=some rest/\GO (kY Y f) h5 n c k rest uO m2=some (ex,cV,m')/\k0 (jo Y n B av dM cp ro) Y.G Y.pr D0 n0 uO m2 ch w'| e=>e=zF ex/\k0 (jo Y n B av dM cp ro) Y.G Y.pr D0 n0 cV m' ch w') ca f':=λk x fj dw ca f' ae ab eu=>by
    have ak:(match kY Y f h5 n x fj dw with
     |some (.goto l,an,m)=>bN (findLabel c l) none λrest=>GO (kY Y f) h5 n c k rest an m
     |r=>r)=some (ex,cV,m'):=ab
    split at ak;·rename_i l uO m2 he;obtain⟨rest,yD,aL⟩:=ct ak;refine wpIn_mono (aC _ _ _ _ _ _ _ _ he ae B av dM cp ro D0 n0 ca f' iw eu) ?_;rintro e dC hC⟨rfl,iR⟩;exact⟨rest,uO,m2,yD,aL,iR⟩
    ·rename_i cm;refine wpIn_mono (aC _ _ _ _ _ _ _ _ ak ae B av dM cp ro D0 n0 ca f' iw eu) ?_;rintro e dC hC⟨rfl,iR⟩;cases ex with
     |goto l=>exact(cm l cV m' ak).elim| exit j=>exact⟨rfl,iR⟩| normal=>exact⟨rfl,iR⟩| ret=>exact⟨rfl,iR⟩
   let J (l k:Nat) (a:Act) (w:World):Prop:=∃ rest fj dw,findLabel c l=some rest/\GO (kY Y f) h5 n c k rest fj dw=some (ex,cV,m')/\k0 (jo Y n B av dM cp ro) Y.G Y.pr D0 n0 fj dw a w
   cases f with
   |zero=>cases U
   |succ pO=>
    refine Tj J (wpIn_mono (step pO c an m a w bM U ar) ?_) ?_
    ·intro e ca f' he;cases e with
     |goto l=>exact⟨pO,he⟩| _=>exact he
    ·rintro l k ca f'⟨rest,fj,dw,yD,ab,eu⟩;cases k with
     |zero=>cases ab
     |succ k=>
      refine⟨rest,yD,wpIn_mono (step k rest fj dw ca f' (P3 bM yD) ab eu) ?_⟩;intro e dC hC he;cases e with
      |goto dy=>exact⟨k,H6 k,he⟩| _=>exact he
  |rangeFunc x ps ff body=>exact aj6 aR bs mC aC U bM iw ar
def reckon(aR:cX Y.P Y.E)(bs:wB Y.P)(mC:x3 Y)(pf:Y.P.follows .mixedOrders=true){m m':bi}{v:ap}(h:xV Y (kY Y f) g args m=some (v,m'))(hu:bD D args us)(hm:c2 Y D m I M) : Spec Y.P g us I M λr I' M'=>∃ bp,D.ext bp m.n/\aS bp v r/\c2 Y bp m' I' M':=
 YL aR bs mC (aki aR bs mC pf f f (b2 _)) h hu hm
end
def Zb(h:ef I M w)(U:ef I' M' w')(ab:Kept I [] w I' M' w') :
  ef I' (M'++M) w'/\Kept I M w I' (M'++M) w'/\∀ x∈M',∀ y∈M,x.num≠y.num:=by
 have ax:∀ x∈M,x.num<w.heap.size:=λx ae=>(l6.1 (h.m x ae)).1;have bS:∀ x∈M',w.heap.size<=x.num:=λx ae=>by
  rcases ab.tu x ae with⟨y,aA,_⟩ | h;·cases aA
  ·exact h
 have bB:∀ x∈M',∀ y∈M,x.num≠y.num:=λx ae y aA e=>by have:=ax y aA;have:=bS x ae;omega
 refine⟨⟨U.i,λx ae=>?_,λx ae=>?_,?_⟩,⟨ab.le,ab.sw,λx ae=>?_,λb ah _=>ab.dL b ah (by simp),ab.out,ab.sz⟩,bB⟩
 ·rcases dm.1 ae with ae | ae
  ·exact U.m x ae
  ·rw[ab.dL x.num (ax x ae) (by simp)];exact h.m x ae
 ·rcases dm.1 ae with ae | ae
  ·exact U.d x ae
  ·cases he:I' x.num with
   |none=>rfl
   |some o=>
    rcases ab.sw _ _ he with ak | ak;·rw[h.d x ae]at ak;cases ak
    ·have:=ax x ae;omega
 ·rw[eL,u6];refine⟨U.bE,h.bE,λa aX b ah e=>?_⟩;obtain⟨x,ae,rfl⟩:=dB.1 aX;obtain⟨y,aA,rfl⟩:=dB.1 ah;exact bB x ae y aA e
 ·rcases dm.1 ae with ae | ae
  ·exact .inr (bS x ae)
  ·exact .inl ⟨x,ae,rfl⟩
def Spec.frame{args:List Value}{Q:Value->aT->List aD->Prop}(h:Spec P f args I [] Q):Spec P f args I M λr I' mj=>∃ M',mj=M'++M/\(∀ x∈M',∀ y∈M,x.num≠y.num)/\(∀ b o,I b=some o->I' b=some o)/\Q r I' M':=by
 have av:∀ {w:World},ef I M w->ef I [] w:=λhw=>⟨hw.i,by simp,by simp,by simp⟩;rcases h with⟨U,ab⟩ | h
 ·refine .inl ⟨U,λw hw=>?_⟩;refine(ab w (av hw)).mono ?_;rintro e w'⟨v,I',M',aF,a7,bC,di⟩;obtain⟨a6,bb,b0⟩:=Zb hw bC di;exact⟨v,I',M'++M,aF,⟨M',rfl,b0,di.le,a7⟩,a6,bb⟩
 ·refine .inr λw hw=>?_;obtain⟨v,w',I',M',aF,a7,bC,di⟩:=h w (av hw);obtain⟨a6,bb,b0⟩:=Zb hw bC di;exact⟨v,w',I',M'++M,aF,⟨M',rfl,b0,di.le,a7⟩,a6,bb⟩
mutual
def jq(k:Nat):ap->ap
 | .p id off=>.p (Nat.add id k) off| .sl id off n c=>.sl (Nat.add id k) off n c| .sx id off e n=>.sx (Nat.add id k) off e n| .m id=>.m (Nat.add id k)| .y id=>.y (Nat.add id k)| .f g l r=>.f g (qc k l) (qc k r)| .DA t v=>.DA t (jq k v)| .t l=>.t (qc k l)| .a l=>.a (qc k l)| .b x=>.b x| .i a n=>.i a n| .s l=>.s l| .pn=>.pn| .g n off=>.g n off| .sn=>.sn| .gs n off a c=>.gs n off a c| .so=>.so| .mn=>.mn| .fn=>.fn| .ni=>.ni
def qc(k:Nat):List ap->List ap
 |[]=>[]| v::l=>jq k v::qc k l
end
section
mutual
def D5{D0 D:bF}{k:Nat}(dn:∀ id a,D0 id=some a->D (Nat.add id k)=some a):∀ (v:ap) {u:Value},aS D0 v u->aS D (jq k v) u
 | .p id off,u,h=>by simp only[aS,jq]at h |-;obtain⟨a,aX,h⟩:=h;exact⟨a,dn _ _ aX,h⟩
 | .sl id off n c,u,h=>by simp only[aS,jq]at h |-;obtain⟨a,aX,h⟩:=h;exact⟨a,dn _ _ aX,h⟩
 | .sx id off e n,u,h=>by simp only[aS,jq]at h |-;obtain⟨a,aX,h⟩:=h;exact⟨a,dn _ _ aX,h⟩
 | .m id,u,h=>by simp only[aS,jq]at h |-;obtain⟨a,aX,h⟩:=h;exact⟨a,dn _ _ aX,h⟩
 | .y id,u,h=>by simp only[aS,jq]at h |-;obtain⟨a,aX,h⟩:=h;exact⟨a,dn _ _ aX,h⟩
 | .f g l r,u,h=>by simp only[aS,jq]at h |-;obtain⟨vs,ws,U,ab,h⟩:=h;exact⟨vs,ws,Hg dn l U,Hg dn r ab,h⟩
 | .DA t v,u,h=>by simp only[aS,jq]at h |-;obtain⟨x,U,h⟩:=h;exact⟨x,D5 dn v U,h⟩
 | .t l,u,h=>by simp only[aS,jq]at h |-;obtain⟨x,U,h⟩:=h;exact⟨x,Hg dn l U,h⟩
 | .a l,u,h=>by simp only[aS,jq]at h |-;obtain⟨x,U,h⟩:=h;exact⟨x,Hg dn l U,h⟩
 | .b x,u,h=>by simpa only[aS,jq]using h
 | .i a n,u,h=>by simpa only[aS,jq]using h
 | .s l,u,h=>by simpa only[aS,jq]using h
 | .pn,u,h=>by simpa only[aS,jq]using h
 | .g n off,u,h=>by simpa only[aS,jq]using h
 | .sn,u,h=>by simpa only[aS,jq]using h
 | .gs n off a c,u,h=>by simpa only[aS,jq]using h
 | .so,u,h=>by simpa only[aS,jq]using h
 | .mn,u,h=>by simpa only[aS,jq]using h
 | .fn,u,h=>by simpa only[aS,jq]using h
 | .ni,u,h=>by simpa only[aS,jq]using h
def Hg{D0 D:bF}{k:Nat}(dn:∀ id a,D0 id=some a->D (Nat.add id k)=some a):∀ (l:List ap) {us:List Value},bD D0 l us->bD D (qc k l) us
 |[],us,h=>by simpa only[bD,qc]using h
 |v::l,us,h=>by simp only[bD,qc]at h |-;obtain⟨x,xs,U,ab,h⟩:=h;exact⟨x,xs,D5 dn v U,Hg dn l ab,h⟩
end
end
inductive uP where
 |cells(l:List ap)(T:Nat)| map (es:List (ap×ap))
noncomputable def Hh:fa->Option uP
 | .cells cs T fq=>cs.Dz 0 fq λl=>some (.cells l T)
 | .map es=>some (.map es)| _=>none
noncomputable def readAll(t:be fa):Nat->Nat->Option (List uP)
 |_,0=>some []| id,n+1=>bN (t.get id) none λe=>bN (Hh e) none λs=>bN (readAll t (Nat.add id 1) n) none λl=>some (s::l)
def Qb(k:Nat):List (ap×ap)->List (ap×ap)
 |[]=>[]| p::l=>(jq k p.1,jq k p.2)::Qb k l
noncomputable def uP.iq(k:Nat):uP->fa
 | .cells l T=>be.xP (qc k l) .nil 0 λcs=>.cells cs T l.length
 | .map es=>.map (Qb k es)
noncomputable def KU{R:Type}(k:Nat):List uP->Nat->be fa->(be fa->R)->R
 |[],_,t,K=>K t| s::l,id,t,K=>t.na (some (s.iq k)) id λt=>KU k l (Nat.add id 1) t K
noncomputable def Qc(v:ap)(L:List uP)(m:bi):Option (ap×bi):=q1 m.n λn=>q1 (Nat.add n L.length) λlX=>KU n L n m.t λt=>some (jq n v,⟨t,lX⟩)
def Zc{t:be fa}:∀ {n id:Nat} {L:List uP},readAll t id n=some L->L.length=n/\∀ j s,L[j]?=some s->∃ e,t.get (id+j)=some e/\Hh e=some s
 |0,id,L,h=>by cases h;exact⟨rfl,by simp⟩
 |n+1,id,L,h=>by
  unfold readAll at h;obtain⟨e,U,h⟩:=ct h;obtain⟨s,ab,h⟩:=ct h;obtain⟨l,ak,h⟩:=ct h;cases h;obtain⟨a6,bb⟩:=Zc ak;refine⟨by simp[a6],λj b3 aj=>?_⟩;cases j with
  |zero=>cases aj;exact⟨e,U,ab⟩| succ j=>obtain⟨c0,da,bZ⟩:=bb j b3 (by simpa using aj);refine⟨c0,?_,bZ⟩;rw[<-da];congr 1;show id+(j+1)=id+1+j;omega
def Zd(k:Nat):∀ (L:List uP) (id:Nat) (t:be fa),∃ bh:be fa,(∀ {R:Type} (K:be fa->R),KU k L id t K=K bh) /\ ∀ j e,bh.get j=some e->(id<=j/\∃ s,L[j-id]?=some s/\e=s.iq k)\/((j<id\/id+L.length<=j)/\t.get j=some e)
 |[],id,t=>⟨t,λK=>rfl,λj e h=>.inr ⟨by simp;omega,h⟩⟩
 |s::L,id,t=>by
  obtain⟨t1,U,ab⟩:=be.oq (some (s.iq k)) t id;obtain⟨bh,ak,aL⟩:=Zd k L (id+1) t1;refine⟨bh,λK=>?_,λj e h=>?_⟩;·unfold KU;rw[U];exact ak K
  ·rcases aL j e h with⟨a6,b3,bb,b0⟩ | ⟨a6,bb⟩
   ·refine .inl ⟨by omega,b3,?_,b0⟩;rw[show j-id=(j-(id+1))+1 by omega];simpa using bb
   ·rcases ab j e bb with⟨rfl,b0⟩ | ⟨b0,fy⟩
    ·refine .inl ⟨b2 _,s,by simp,?_⟩;cases b0;rfl
    ·refine .inr ⟨?_,fy⟩;simp only[cS];omega
def akk{k:Nat}(dn:∀ id a,D0 id=some a->D (Nat.add id k)=some a){l:List MapEntry}(h:p' D0 es l):p' D (Qb k es) l:=by
 induction h with
 |nil=>exact .nil| cons af ai t a8=>exact .cons (D5 dn _ af) (D5 dn _ ai) a8
def Ze{k:Nat}:∀ {l:List ap} {i:Nat} {v:ap},(qc k l)[i]?=some v->∃ wC,l[i]?=some wC/\v=jq k wC
 |[],i,v,h=>by simp[qc]at h
 |x::l,0,v,h=>by simp only[qc,List.getElem?_cons_zero,jY]at h;exact⟨x,rfl,h.symm⟩
 |x::l,i+1,v,h=>by simp only[qc,H4]at h;simpa using Ze h
def akl{k:Nat}(dn:∀ id a,D0 id=some a->D (Nat.add id k)=some a)(aV:∀ x∈M,x∈M'){e:fa}{s:uP}(h:kZ D0 E M a e)(ag:Hh e=some s):kZ D E M' a (s.iq k):=by
 cases h with
 | @cells cs T fq arr av U ab ak aL bm=>
  unfold Hh at ag;obtain⟨l,a6,bb,b0⟩:=be.DP cs fq 0 _ _ ag;cases b0;obtain⟨bh,da,bZ⟩:=be.xW (qc k l) (.nil:be ap) 0;show kZ D E M' a (be.xP (qc k l) .nil 0 λcs=>fa.cells cs T l.length);rw[da,a6];refine .cells arr av (aV _ U) ab (λi v hi ao=>?_) aL bm;rcases bZ i v ao with⟨_,h⟩ | ⟨_,h⟩;·obtain⟨wC,aF,rfl⟩:=Ze (by simpa using h);have:=bb i hi;rw[cM,aF]at this;obtain⟨x,f1,f2⟩:=ak i wC hi this;exact⟨x,f1,D5 dn _ f2⟩
  ·cases h
 |map l clock U ab=>cases ag;exact .map l clock (aV _ U) (akk dn ab)| loop L U ab=>cases ag| done L U ab ak=>cases ag
def akm(aR:cX Y.P Y.E)(bs:wB Y.P)(pf:Y.P.follows .mixedOrders=true){kX:bi}{wC:ap}{L:List uP}(av:xV ⟨Y.P,Y.E,λ_=>none,λ_ _ _=>none⟩ (kY ⟨Y.P,Y.E,λ_=>none,λ_ _ _=>none⟩ f) g args ⟨.nil,0⟩=some (wC,kX))(cL:readAll kX.t 0 kX.n=some L)(cv:∀ D us,bD D args us->bD (λ_=>none) args us){m m':bi}{v:ap}(h:Qc wC L m=some (v,m'))(hu:bD D args us)(hm:c2 Y D m I M) :
  Spec Y.P g us I M λr I' M'=>∃ bp,D.ext bp m.n/\aS bp v r/\c2 Y bp m' I' M':=by
 have mC:x3 ⟨Y.P,Y.E,λ_=>none,λ_ _ _=>none⟩:=λg vs m v m' h=>by cases h
 have akn:c2 ⟨Y.P,Y.E,λ_=>none,λ_ _ _=>none⟩ (λ_=>none) ⟨.nil,0⟩ I []:=⟨λid e a h aG=>(by cases aG),λid ir e c0 a ch h U aG=>(by cases aG),λid a h=>(by cases h),λg cs h=>(by cases h)⟩;have ar:=(reckon (Y:=⟨Y.P,Y.E,λ_=>none,λ_ _ _=>none⟩) aR bs mC pf av (cv D us hu) akn).frame (M:=M);refine Spec.iM ar ?_;rintro r I' mj⟨M0,rfl,bB,hle,D0,-,ai,D6⟩;unfold Qc at h;rw[Pa,Pa]at h;obtain⟨bh,U,ab⟩:=Zd m.n L m.n m.t;rw[U]at h;cases h;obtain⟨a6,bb⟩:=Zc cL;let bp:bF:=λid=>if id<m.n then D id else D0 (id-m.n)
 have dn:∀ id a,D0 id=some a->bp (Nat.add id m.n)=some a:=λid a aX=>by show(if id+m.n<m.n then D (id+m.n)else D0 (id+m.n-m.n))=some a;rw[cB (by omega),Nat.add_sub_cancel,aX]
 have vb:D.le bp:=λid a aX=>by show(if id<m.n then D id else D0 (id-m.n))=some a;rw[cw (hm.jn _ _ aX),aX]
 have lo:∀ id,id<m.n->bp id=D id:=λid hi=>cw hi;have ck:∀ id,m.n<=id->bp id=D0 (id-m.n):=λid hi=>cB (by omega);have src:∀ id e a,bh.get id=some e->bp id=some a->(m.n<=id/\∃ s c9,e=s.iq m.n/\kX.t.get (id-m.n)=some c9/\Hh c9=some s/\D0 (id-m.n)=some a)\/(id<m.n/\m.t.get id=some e/\D id=some a):=λid e a he aX=>by
  rcases ab id e he with⟨da,s,bZ,fG⟩ | ⟨da,bZ⟩;·obtain⟨c9,hF,Qd⟩:=bb _ _ bZ;rw[cM]at hF;rw[ck _ da]at aX;exact .inl ⟨da,s,c9,fG,hF,Qd,aX⟩
  ·rcases Nat.lt_or_ge id m.n with ax | bS
   ·rw[lo _ ax]at aX;exact .inr ⟨ax,bZ,aX⟩
   ·rw[ck _ bS]at aX;have:=D6.jn _ _ aX;omega
 refine⟨bp,λid hi=>lo id hi,D5 dn _ ai,⟨λid e a he aX=>?_,λid ir e c0 a ch he fM aX uv ah=>?_,λid a aX=>?_,hm.p8.mono hle⟩⟩
 ·rcases src id e a he aX with⟨da,s,c9,rfl,bZ,fG,hF⟩ | ⟨da,bZ,fG⟩
  ·exact akl dn (λx ae=>gM _ ae) (D6.iq _ _ _ bZ hF) fG
  ·exact(hm.iq _ _ _ bZ fG).mono vb λx ae _=>ly _ ae
 ·rcases src id e a he aX with⟨da,s,c9,rfl,bZ,fG,hF⟩ | ⟨da,bZ,fG⟩
  ·rcases src ir c0 ch fM uv with⟨Qe,b3,ako,rfl,BM,Hi,Qf⟩ | ⟨Qe,BM,Hi⟩
   ·have:=D6.inj _ _ _ _ _ _ bZ BM hF Qf ah;omega
   ·obtain⟨x,ae,fU⟩:=D6.aw bZ hF;obtain⟨y,aA,sd⟩:=hm.aw BM Hi;exact(bB x ae y aA (fU.trans (ah.trans sd.symm))).elim
  ·rcases src ir c0 ch fM uv with⟨Qe,b3,ako,rfl,BM,Hi,Qf⟩ | ⟨Qe,BM,Hi⟩
   ·obtain⟨x,ae,fU⟩:=D6.aw BM Qf;obtain⟨y,aA,sd⟩:=hm.aw bZ fG;exact(bB x ae y aA (fU.trans (ah.symm.trans sd.symm))).elim
   ·exact hm.inj _ _ _ _ _ _ bZ BM fG Hi ah
 ·show id<m.n+L.length;rcases Nat.lt_or_ge id m.n with ax | bS
  ·omega
  ·rw[ck _ bS]at aX;have:=D6.jn _ _ aX;omega
open Go Go.Proofs
def akp(k:Nat):liesAt Tryz.prog Tryz.prog.depth 210 ((k+1)*2/Tryz.prog.cellsOf 210) 0 210 1=true:=by
 have ab:Tryz.prog.cellsOf 210=2:=by kernel_rfl
 have al:Tryz.prog.depth=(Tryz.prog.depth-1)+1:=by kernel_rfl
 have fY:sameLayout Tryz.prog Tryz.prog.depth 210 210=true:=by kernel_rfl
 have ag:rowAt Tryz.prog (sameLayout Tryz.prog Tryz.prog.depth · 210) Tryz.prog.depth 210 (k+1) 0 1=true:=by
  generalize au:(sameLayout Tryz.prog Tryz.prog.depth · 210)=f;have sJ:f 210=true:=by rw[<-au];exact fY
  rw[al];unfold rowAt;simp only[ab,sJ];simp
 rw[ab,Nat.mul_div_cancel _ (by decide:0<2)];rw[al];unfold liesAt;rw[ag];rfl
def akq(pre post:List aD)(b:Nat)(v:Value)(k:Nat)(rest:List Value)(ag:rest.length=2*k) :
  Spec Tryz.prog 178 [ptr b] I (pre++⟨b,.cells (.pointer none::v::rest).toArray 210 (0,0)⟩::post) λr I' M'=>r=.tuple #[]/\I'=I/\M'=pre++⟨b,.cells (bG (.pointer none::v::rest) 0 [ptr b]).toArray 210 (0,0)⟩::post:=by
 obtain⟨inf,z,hi,e3,_⟩:=(aI 210 _ rfl).inf;refine bn [] aI Tryz.func178 rfl rfl rfl ?_;intro B av;have hm:∀ {o:Obj},(⟨b,o⟩:aD)∈pre++⟨b,o⟩::post:=fun {o}=>dm.2 (.inr (.head _));have cQ:(Value.pointer none::v::rest).toArray.size=(k+1)*2:=by simp[ag];omega
 have ay:liesAt Tryz.prog Tryz.prog.depth 210 ((Value.pointer none::v::rest).toArray.size/Tryz.prog.cellsOf 210) 0 210 1=true:=by rw[cQ];exact akp k
 refine aE.mk [.pointer none] (dj (cs:=.pointer none::v::rest) (k:=0) (n:=1) (T:=210) hm (by simp)) ?_;refine .other (bk.IQ aI rfl (by simp) rfl rfl rfl rfl ?_);refine aB.mk (λ_=>?_) (λh=>by cases h);refine bk.conv rfl (by simp) rfl (λw hw=>Lib.run_to_unsafe (t:=210) (e:=210) w ⟨b,0,none⟩ (by kernel_rfl) (by kernel_rfl) (j:=inf) (cells:=(Value.pointer none::v::rest).toArray.size) hi (by rw[e3];decide) (IS hw hm) (by rw[cQ];show 0<_;omega)) ?_;refine aU.mk (pre++⟨b,.cells (.pointer none::v::rest).toArray 210 (0,0)⟩::post) [] _ (by simp) (MQ _) ?_;rintro v I' M' -⟨rfl,rfl,rfl⟩;refine bk.conv rfl (by simp) rfl (λw hw=>Lib.run_from_unsafe (u:=210) (e:=210) w ⟨b,0,none⟩ (by kernel_rfl) (by kernel_rfl) (j:=inf) (cells:=(Value.pointer none::v::rest).toArray.size) hi (IS hw (dm.2 (.inl hm))) ay) ?_;refine cu.mk pre post _ _ (db _) rfl (by rw[cQ];show 0+0+1<=(k+1)*2;omega) rfl ?_;exact⟨_,_,.refl,rfl,rfl,rfl⟩
def akr{b:Nat}{T:Nat}(aV:(⟨b,.cells arr T (0,0)⟩:aD)∈M)(av:arr[0]?=some (ptr b)) :
  Spec Tryz.prog 178 [ptr b] I M λr I' M'=>r=.tuple #[]/\I'=I/\M'=M:=by
 refine bn [] aI Tryz.func178 rfl rfl rfl ?_;intro B j7;have ag:bq I M ((⟨b,0,none⟩:Addr).add 0) 1 [ptr b]:=by
  obtain⟨l⟩:=arr;cases l with
  |nil=>simp at av| cons x l=>simp only[z3,List.getElem?_cons_zero,jY]at av;subst av;exact dj (cs:=ptr b::l) (k:=0) (n:=1) aV (by simp)
 refine aE.mk [ptr b] ag ?_;refine .other (bk.IQ aI rfl (by simp) rfl rfl rfl rfl ?_);refine aB.mk (λh=>by cases h) (λ_=>?_);refine aE.mk [ptr b] ag ?_;refine .other (bk.TY aI rfl (by simp) rfl rfl rfl rfl rfl ?_);refine aB.mk (λh=>by cases h) (λ_=>?_);exact⟨_,_,.refl,rfl,rfl,rfl⟩
def aks{m:bi}{id off:Nat}{T fq:Nat}{pre post:List aD}(hm:c2 Y D m I M)(ao:m.t.get id=some (.cells cs T fq))(aX:D id=some a)(aP:a.o=0)(c4:M=pre++⟨a.b,.cells arr T (0,0)⟩::post)(cQ:a.o+fq<=arr.size)(aC:∀ i v,i<fq->cs.get i=some v->∃ x,arr[a.o+i]?=some x/\aS D v x)(af:∀ i,Y.E T=some i->arr.size=a.o+a.c*i.size)(pf:a.c<=maxLen)
  {l:List ap} {vs:List Value} (ay:bD D l vs) {K:bi->Option R} {r:R} (h:xT m (.p id off) l K=some r) :
  ∃ m',K m'=some r/\m'.n=m.n/\off+vs.length<=arr.size/\c2 Y D m' I (pre++⟨a.b,.cells (bG arr.toList off vs).toArray T (0,0)⟩::post):=by
 unfold xT at h;simp only[ao]at h;cases ah:(Nat.ble (Nat.add off l.length) fq&&l.all ap.one)with
 |false=>rw[ah]at h;cases h
 |true=>
  rw[ah]at h;simp only[bt]at h;rw[b']at ah;have zy:off+l.length<=fq:=b9 ah.1;obtain⟨cs',U,ab⟩:=be.xW l cs off;rw[U]at h;obtain⟨bh,ak,aL⟩:=be.oq (some (fa.cells cs' T fq)) m.t id;rw[ak]at h;have hlen:=ay.len;have ga:off+vs.length<=arr.size:=by omega
  refine⟨_,h,rfl,ga,?_⟩;have gK:∀ x∈M,x.num≠a.b->x∈pre++⟨a.b,.cells (bG arr.toList off vs).toArray T (0,0)⟩::post:=λx ae az=>by
   rw[c4]at ae;rcases dm.1 ae with ae | ae;·exact dm.2 (.inl ae)
   ·rcases ea.1 ae with rfl | ae
    ·exact(az rfl).elim
    ·exact dm.2 (.inr (lV _ ae))
  refine hm.step (λi e hi=>(aL i e hi).imp (λq=>⟨q.1,ov q.2⟩) λq=>q) aX (bF.le_refl D) (λ_ _=>rfl) hm.jn (λ_ _ h=>h) (λi e ch bB hi kb x ae az=>gK x ae ?_) ?_ ?_;·rw[az];exact λah=>bB (hm.inj _ _ _ _ _ _ hi ao kb aX ah)
  ·have zz:(bG arr.toList off vs).length=arr.size:=by rw[Pu (by simpa using ga)];simp
   refine .cells (bG arr.toList off vs).toArray aP (by simp) (by simp[zz];exact cQ) (λi v hi G1=>?_) (λi hi=>by simp[zz];exact af i hi) pf;rw[aP,cM];simp only[z3];rw[X6 (by simpa using ga)];rcases ab i v G1 with⟨a6,bb⟩ | ⟨a6,bb⟩;·have ax:=(iO.1 bb).1;rw[cw ⟨a6,by omega⟩];exact ay.get bb
   ·rw[cB (by omega)];have:=aC i v hi bb;rw[aP,cM]at this;simpa using this
  ·intro i e ch bB hi kb ah;exact bB (hm.inj _ _ _ _ _ _ hi ao kb aX ah)
noncomputable def Qg(m:bi)(vs:List ap):Option (ap×bi):=match vs with
 |[.p id 0]=>(match m.t.get id with
  |some (.cells cs T fq)=>bX (Nat.beq T 210&&Nat.ble 2 fq) (match cs.get 0 with
   |some .pn=>xT m (.p id 0) [.p id 0] λm=>some (.t [],m)
   |some (.p ir 0)=>bX (Nat.beq id ir) (some (.t [],m)) none| _=>none) none
  |_=>none)
 |_=>none
def akt(yQ:Y.P=Tryz.prog)(aku:Y.E=lH){m m':bi}{vs:List ap}{v:ap}(h:Qg m vs=some (v,m'))(hu:bD D vs us)(hm:c2 Y D m I M) :
  Spec Y.P 178 us I M λr I' M'=>∃ bp,D.ext bp m.n/\aS bp v r/\c2 Y bp m' I' M':=by
 unfold Qg at h;split at h
 ·rename_i id;obtain⟨x,xs,ae,az,rfl⟩:=hu.j';obtain rfl:=az.nb;obtain⟨a,aX,rfl⟩:=ae.ptr;split at h
  ·rename_i cs T fq ao;obtain⟨U,a0⟩:=fV h;clear h;rw[b']at U;obtain⟨bA,zy⟩:=U;obtain rfl:=dD bA;have zy:=b9 zy;obtain⟨arr,aP,aV,ay,aC,af,pf⟩:=hm.iq _ _ _ ao aX;have cQ:=af _ (by rw[aku];rfl);have cQ:arr.size=a.c*2:=by rw[cQ,aP,cM]
   have aN:Value.pointer (some ⟨a.b,a.o+0,none⟩)=ptr a.b:=by rw[aP];rfl
   split at a0
   ·rename_i Av;obtain⟨vn,fv,Qh⟩:=aC 0 _ (by omega) Av;obtain⟨pre,post,c4⟩:=r4 aV;obtain⟨dw,ab,ak,aL,bm⟩:=aks hm ao aX aP c4 ay aC af pf (l:=[.p id 0]) (vs:=[ptr a.b]) (by simp only[bD,aS];exact⟨_,_,⟨a,aX,aN.symm⟩,rfl,rfl⟩) a0;cases ab;rw[aN,yQ,c4];obtain⟨l⟩:=arr;have Hj:vn=.pointer none:=by simpa only[aS]using Qh
    rw[aP]at fv
    match l,fv,cQ with
    |[],fv,_=>simp at fv| [_],_,cQ=>simp at cQ;omega
    |y::w::rest,fv,cQ=>
     have aA:y=.pointer none:=by simpa[Hj]using fv
     subst aA;have dp:rest.length=2*(a.c-1):=by simp at cQ;omega
     refine Spec.iM (akq pre post a.b w (a.c-1) rest dp) ?_;rintro r I' M'⟨rfl,rfl,rfl⟩;exact⟨D,bF.ox,by simp only[aS,bD];exact⟨[],rfl,rfl⟩,bm⟩
   ·rename_i ir Av;obtain⟨ab,vY⟩:=fV a0;obtain rfl:=dD ab;cases vY;obtain⟨vn,fv,Qh⟩:=aC 0 _ (by omega) Av;obtain⟨ch,uv,rfl⟩:=Qh.ptr;rw[aX]at uv;cases uv;rw[aN]at fv |-;rw[yQ];refine Spec.iM (akr aV (by rw[<-fv,aP])) ?_;rintro r I' M'⟨rfl,rfl,rfl⟩;exact⟨D,bF.ox,by simp only[aS,bD];exact⟨[],rfl,rfl⟩,hm⟩
   ·cases a0
  ·cases h
 ·cases h
def gE(I:aT):List aD->aT
 |[]=>I| x::l=>ins (gE I l) x.num x.obj
def BN{I:aT}:∀ {M:List aD} {b:Nat} {o:Obj},gE I M b=some o->I b=some o\/∃ x∈M,x.num=b/\x.obj=o
 |[],b,o,h=>.inl h
 |x::l,b,o,h=>by
  unfold gE ins at h;by_cases e:b=x.num;·subst e;simp only[qp,bt,jY]at h;exact .inr ⟨x,by simp,rfl,h⟩
  ·simp only[hx e,bz]at h;rcases BN h with h | ⟨y,U,ab,ak⟩
   ·exact .inl h
   ·exact .inr ⟨y,by simp[U],ab,ak⟩
def Qi{I:aT}:∀ {M:List aD} (az:(M.map (·.num)).Nodup) {x:aD},x∈M->gE I M x.num=some x.obj
 |y::l,az,x,h=>by
  simp only[cZ,nR]at az;rcases ea.1 h with rfl | h;·unfold gE ins;simp only[qp,bt]
  ·have e:x.num≠y.num:=λe=>az.1 (dB.2 ⟨x,h,e⟩);unfold gE ins;simp only[hx e,bz];exact Qi az.2 h
def KV{I:aT}:∀ {M:List aD} (al:∀ x∈M,I x.num=none) {b:Nat} {o:Obj},I b=some o->gE I M b=some o
 |[],al,b,o,h=>h
 |y::l,al,b,o,h=>by
  have e:b≠y.num:=λe=>by have:=al y (by simp);rw[<-e,h]at this;cases this
  unfold gE ins;simp only[hx e,bz];exact KV (λx ae=>al x (by simp[ae])) h
def Zf(az:(M.map (·.num)).Nodup)(al:∀ x∈M,I x.num=none){b:Nat}{o:Obj}(h:h' I M b o):gE I M b=some o:=by
 rcases h with h | ⟨x,U,rfl,rfl⟩
 ·exact KV al h
 ·exact Qi az U
structure mE(I:aT)(M:List aD)(J:aT):Prop where
 aZ:∀ b o,h' I M b o->J b=some o
 inv:∀ b o,J b=some o->h' I M b o
def mE.rd(h:mE I M J){a:Addr}{vs:List Value}(ag:bq I M a n vs)(M':List aD):bq J M' a n vs:=by obtain⟨U,cs,T,f,ab,ak,aL⟩:=ag;exact⟨U,cs,T,f,.inl (h.aZ _ _ ab),ak,aL⟩
def mE.le(h:mE I M J):∀ b o,I b=some o->J b=some o:=λb o ah=>h.aZ b o (.inl ah)
def Zg(U:ef I' M' w')(ab:Kept I [] w I' M' w'):mE I' M' (gE I' M')/\ef (gE I' M') [] w'/\Kept I [] w (gE I' M') [] w':=by
 refine⟨⟨λb o h=>Zf U.bE U.d h,λb o h=>?_⟩,⟨λb o h=>?_,by simp,by simp,by simp⟩,⟨λb o h=>KV U.d (ab.le _ _ h),λb o h=>?_,by simp,ab.dL,ab.out,ab.sz⟩⟩
 ·rcases BN h with h | ⟨x,a6,bb,b0⟩
  ·exact .inl h
  ·exact .inr ⟨x,a6,bb,b0⟩
 ·rcases BN h with h | ⟨x,a6,rfl,rfl⟩
  ·exact U.i _ _ h
  ·exact U.m _ a6
 ·rcases BN h with h | ⟨x,a6,rfl,rfl⟩
  ·exact ab.sw _ _ h
  ·rcases ab.tu _ a6 with⟨y,aA,_⟩ | h
   ·cases aA
   ·exact .inr h
def Spec.gE{args:List Value}{Q:Value->aT->List aD->Prop}(h:Spec P f args I [] Q):Spec P f args I [] λr J mj=>mj=[]/\(∀ b o,I b=some o->J b=some o)/\∃ I' M',Q r I' M'/\mE I' M' J:=by
 rcases h with⟨U,ab⟩ | h
 ·refine .inl ⟨U,λw hw=>?_⟩;refine(ab w hw).mono ?_;rintro e w'⟨v,I',M',aF,a7,bC,di⟩;obtain⟨a6,bb,b0⟩:=Zg bC di;exact⟨v,_,[],aF,⟨rfl,b0.le,I',M',a7,a6⟩,bb,b0⟩
 ·refine .inr λw hw=>?_;obtain⟨v,w',I',M',aF,a7,bC,di⟩:=h w hw;obtain⟨a6,bb,b0⟩:=Zg bC di;exact⟨v,w',_,[],aF,⟨rfl,b0.le,I',M',a7,a6⟩,bb,b0⟩
noncomputable def BO{α:Type}(l:List α):be α:=be.xP l .nil 0 id
def Zh{l:List α}{i:Nat}{v:α}(h:(BO l).get i=some v):l[i]?=some v:=by
 obtain⟨t,U,ab⟩:=be.xW l (.nil:be α) 0;unfold BO at h;rw[U]at h;rcases ab _ _ h with⟨_,h⟩ | ⟨_,h⟩
 ·simpa using h
 ·cases h
noncomputable def KW:GT:=λg=>bX (Nat.beq g 0) (some (BO (mo.map (ap.i .i64)))) (bX (Nat.beq g 1) (some (BO (tT.map ap.s))) (bX (Nat.beq g 3) (some (BO [.i .i64 0,.i .i64 1,.s [63],.i .i64 0,.i .i64 (-1),.s [42],.i .i64 1,.i .i64 (-1),.s [43]])) (bX (Nat.beq g 4) (some (BO (cG.map (ap.i .u8)))) none)))
def Qj{f:α->ap}{h:α->Value}(au:∀ x D,aS D (f x) (h x)){l:List α}{i:Nat}{v:ap}(ai:(BO (l.map f)).get i=some v):∃ x,(l.map h).toArray[i]?=some x/\∀ D,aS D v x:=by
 have:=Zh ai;rw[sr]at this;cases ae:l[i]? with
 |none=>rw[ae]at this;cases this| some x=>rw[ae]at this;simp only[mK,jY]at this;subst this;exact⟨h x,by simp[ae],au x⟩
def akv(bA:fr I cG):GS KW I:=by
 intro g cs h;unfold KW at h;rw[jS,jS,jS,jS]at h;cases U:Nat.beq g 0 with
 |true=>rw[U,bt]at h;obtain rfl:=dD U;have h:=kn h;subst h;obtain⟨T,f,h⟩:=bA.c;exact⟨_,T,f,h,λi v ai=>Qj (f:=ap.i .i64) (h:=Value.int .i64) (λx D=>by simp only[aS]) ai⟩
 |false=>
 rw[U,bz]at h;cases ab:Nat.beq g 1 with
 |true=>rw[ab,bt]at h;obtain rfl:=dD ab;have h:=kn h;subst h;obtain⟨T,f,h⟩:=bA.s;exact⟨_,T,f,h,λi v ai=>Qj (f:=ap.s) (h:=λl=>Value.string (strOf l)) (λx D=>by simp only[aS,strOf]) ai⟩
 |false=>
 rw[ab,bz]at h;cases ak:Nat.beq g 3 with
 |true=>
  rw[ak,bt]at h;obtain rfl:=dD ak;have h:=kn h;subst h;obtain⟨T,f,h⟩:=bA.p;refine⟨_,T,f,h,λi v ai=>?_⟩;have ai:=Zh ai;rcases i with _ | _ | _ | _ | _ | _ | _ | _ | _ | i
  all_goals first | (cases ai;exact⟨_,rfl,λD=>by simp only[aS]<;>rfl⟩) | (simp at ai)
 |false=>
 rw[ak,bz]at h;cases aL:Nat.beq g 4 with
 |true=>rw[aL,bt]at h;obtain rfl:=dD aL;have h:=kn h;subst h;obtain⟨_,_,T,f,h⟩:=bA.d;exact⟨_,T,f,h,λi v ai=>Qj (f:=ap.i .u8) (h:=Value.int .u8) (λx D=>by simp only[aS]) ai⟩
 |false=>
 rw[aL,bz]at h;cases h
noncomputable def KX:List UInt8->Nat->Nat->Int
 |[],_,_=>-1| b::l,c,k=>bX (Nat.beq b.toNat c) (Int.ofNat k) (KX l c (Nat.succ k))
def Zi(c:UInt8):∀ (l:List UInt8) (k:Nat),KX l c.toNat k=if Lib.indexByte l c=-1 then -1 else Lib.indexByte l c+k
 |[],k=>rfl
 |b::l,k=>by
  have bS:=Lib.indexByte_ge l c;unfold KX Lib.indexByte;rw[jS];by_cases h:b=c;·subst h;simp
  ·have U:Nat.beq b.toNat c.toNat=false:=by
    cases ah:Nat.beq b.toNat c.toNat with
    |false=>rfl| true=>exact absurd (UInt8.toNat_inj.1 (dD ah)) h
   have ab:(b == c)=false:=by simpa using h
   rw[U,bz,ab,Zi c l];simp only[jX,kB];by_cases ak:Lib.indexByte l c=-1;·simp[ak]
   ·have aL:(Lib.indexByte l c == -1)=false:=by simpa using ak
    rw[aL,cB ak];simp only[jX,kB];rw[cB (by omega)];omega
def Zj:wB Tryz.prog:=ajR (by kernel_rfl)
def Zk:Tryz.prog.follows .mixedOrders=true:=by kernel_rfl
noncomputable def Zl:gm:=⟨Tryz.prog,lH,λ_=>none,λ_ _ _=>none⟩
noncomputable def Zm:List uP:=[.map [(.i .u8 123,.f 164 [] []),(.i .u8 34,.f 165 [] []),(.i .u8 91,.f 166 [] []),(.i .u8 46,.f 167 [] []),(.i .u8 47,.f 190 [] [.p 1 0]),(.i .u8 38,.f 190 [] [.p 2 0]),(.i .u8 33,.f 190 [] [.p 3 0]),(.i .u8 63,.f 190 [] [.p 4 0]),(.i .u8 42,.f 190 [] [.p 5 0]),(.i .u8 43,.f 190 [] [.p 6 0]),(.i .u8 40,.f 190 [] [.p 7 0]),(.i .u8 41,.f 190 [] [.p 8 0]),(.i .u8 60,.f 169 [] []),(.i .u8 62,.f 190 [] [.p 10 0]),(.i .u8 58,.f 190 [] [.p 11 0]),(.i .u8 65,.f 170 [] []),(.i .u8 66,.f 170 [] []),(.i .u8 67,.f 170 [] []),(.i .u8 68,.f 170 [] []),(.i .u8 69,.f 170 [] []),(.i .u8 70,.f 170 [] []),(.i .u8 71,.f 170 [] []),(.i .u8 72,.f 170 [] []),(.i .u8 73,.f 170 [] []),(.i .u8 74,.f 170 [] []),(.i .u8 75,.f 170 [] []),(.i .u8 76,.f 170 [] []),(.i .u8 77,.f 170 [] []),(.i .u8 78,.f 170 [] []),(.i .u8 79,.f 170 [] []),(.i .u8 80,.f 170 [] []),(.i .u8 81,.f 170 [] []),(.i .u8 82,.f 170 [] []),(.i .u8 83,.f 170 [] []),(.i .u8 84,.f 170 [] []),(.i .u8 85,.f 170 [] []),(.i .u8 86,.f 170 [] []),(.i .u8 87,.f 170 [] []),(.i .u8 88,.f 170 [] []),(.i .u8 89,.f 170 [] []),(.i .u8 90,.f 170 [] []),(.i .u8 95,.f 170 [] []),(.i .u8 97,.f 170 [] []),(.i .u8 98,.f 170 [] []),(.i .u8 99,.f 170 [] []),(.i .u8 100,.f 170 [] []),(.i .u8 101,.f 170 [] []),(.i .u8 102,.f 170 [] []),(.i .u8 103,.f 170 [] []),(.i .u8 104,.f 170 [] []),(.i .u8 105,.f 170 [] []),(.i .u8 106,.f 170 [] []),(.i .u8 107,.f 170 [] []),(.i .u8 108,.f 170 [] []),(.i .u8 109,.f 170 [] []),(.i .u8 110,.f 170 [] []),(.i .u8 111,.f 170 [] []),(.i .u8 112,.f 170 [] []),(.i .u8 113,.f 170 [] []),(.i .u8 114,.f 170 [] []),(.i .u8 115,.f 170 [] []),(.i .u8 116,.f 170 [] []),(.i .u8 117,.f 170 [] []),(.i .u8 118,.f 170 [] []),(.i .u8 119,.f 170 [] []),(.i .u8 120,.f 170 [] []),(.i .u8 121,.f 170 [] []),(.i .u8 122,.f 170 [] [])],.cells [.i .u8 3] 5,.cells [.i .u8 4] 5,.cells [.i .u8 5] 5,.cells [.i .u8 6] 5,.cells [.i .u8 7] 5,.cells [.i .u8 8] 5,.cells [.i .u8 9] 5,.cells [.i .u8 10] 5,.cells [.i .u8 11] 5,.cells [.i .u8 12] 5,.cells [.i .u8 13] 5]
def akw:(bN (xV Zl (kY Zl 100000) 150 [] ⟨.nil,0⟩) none λp=>bN (readAll p.2.t 0 p.2.n) none λL=>some (p.1,L))=some (ap.m 0,Zm):=by kernel_rfl
noncomputable def Qk:lk:=λg vs m=>bX (Nat.beq g 214) (match vs with
 |[.s l,.i .u8 (.ofNat k)]=>bX (Nat.blt k 256) (some (.i .i64 (KX l k 0),m)) none| _=>none) (bX (Nat.beq g 200) (match vs with
 |[v]=>some (v,m)| _=>none) (bX (Nat.beq g 150) (match vs with
 |[]=>Qc (.m 0) Zm m| _=>none) (bX (Nat.beq g 178) (Qg m vs) none)))
noncomputable def uQ:gm:=⟨Tryz.prog,lH,KW,Qk⟩
def akx:x3 uQ:=by
 intro g vs m v m' h D I M us hu hm;change Qk g vs m=some (v,m')at h;unfold Qk at h;rw[jS]at h;cases U:Nat.beq g 214 with
 |true=>
  rw[U,bt]at h;obtain rfl:=dD U;split at h
  ·rename_i l k;rw[jS]at h;cases af:Nat.blt k 256 with
   |false=>rw[af]at h;cases h
   |true=>
    rw[af,bt]at h;have kV:k<256:=Nat.blt_eq ▸ af;cases h;simp only[bD,aS]at hu;obtain⟨x,xs,rfl,⟨y,vL,rfl,rfl,rfl⟩,rfl⟩:=hu;have qT:(UInt8.ofNat k).toNat=k:=by simp;omega
    have:=T0 (I:=I) (M:=M) ⟨l.toArray⟩ (UInt8.ofNat k);rw[qT]at this;refine Spec.iM this ?_;rintro r I' M'⟨rfl,rfl,rfl⟩;refine⟨D,bF.ox,?_,hm⟩;simp only[aS];have:=Zi (UInt8.ofNat k) l 0;rw[qT]at this;rw[this];split;·rename_i e;simp[e]
    ·simp
  ·cases h
 |false=>
 rw[U,bz,jS]at h;cases ab:Nat.beq g 200 with
 |true=>
  rw[ab,bt]at h;obtain rfl:=dD ab;split at h;·cases h;simp only[bD]at hu;obtain⟨x,xs,hu,rfl,rfl⟩:=hu;refine Spec.iM (MQ _) ?_;rintro r I' M'⟨rfl,rfl,rfl⟩;exact⟨D,bF.ox,hu,hm⟩
  ·cases h
 |false=>
 rw[ab,bz,jS]at h;cases ak:Nat.beq g 150 with
 |true=>
  rw[ak,bt]at h;obtain rfl:=dD ak;split at h;·obtain⟨⟨wC,kX⟩,aL,bm⟩:=ct akw;obtain⟨L,b5,fw⟩:=ct bm;cases fw;exact akm (Y:=uQ) aI Zj Zk aL b5 (λD us h=>by simpa only[bD]using h) h hu hm
  ·cases h
 |false=>
 rw[ak,bz,jS]at h;cases aL:Nat.beq g 178 with
 |true=>rw[aL,bt]at h;obtain rfl:=dD aL;exact akt rfl rfl h hu hm
 |false=>
 rw[aL,bz]at h;cases h
def aky(bA:fr I cG){m':bi}{v:ap}(h:xV uQ (kY uQ f) g args ⟨.nil,0⟩=some (v,m'))(hu:bD (λ_=>none) args us) :
  Spec Tryz.prog g us I [] λr J mj=>mj=[]/\(∀ b o,I b=some o->J b=some o)/\∃ I' M' bp,aS bp v r/\c2 uQ bp m' I' M'/\mE I' M' J:=by
 have hm:c2 uQ (λ_=>none) ⟨.nil,0⟩ I []:=⟨λid e a h aG=>(by cases aG),λid ir e c0 a ch h U aG=>(by cases aG),λid a h=>(by cases h),akv bA⟩;refine Spec.iM (reckon (Y:=uQ) aI Zj akx Zk h hu hm).gE ?_;rintro r J mj⟨rfl,U,I',M',⟨bp,-,ab,ak⟩,aL⟩;exact⟨rfl,U,I',M',bp,ab,ak,aL⟩
def akz:∀ {l:List Int} (h:0<l.length),l.headD 0=l[0]
 |a::l,_=>rfl
def nL(aa:List aH)(xs:List aM):Bool:=aa.any λd=>decide (d.k=6)&&(decide (d.hi=-1)&&(xs.getD (d.kids.headD 0).toNat bw).z)
def akA(p:α->Bool)(l:List α)(x:α):(l++[x]).any p=(l.any p||p x):=by simp
def akB{p:α->Bool}{l:List α}{i:Nat}(h:(l.take i).any p=true):l.any p=true:=by rw[Bx]at h |-;obtain⟨x,ae,aN⟩:=h;exact⟨x,Ft ae,aN⟩
def akC{t:bx}(aq:t.ok I)(ag:right t=true){xa:Option Addr}{xc:Nat}{xs:List aM}(ae:hW I M0 xa t.n xs):Spec Tryz.prog 72 [t.val,.slice xa t.n xc] I M0 λv I' M'=>v=.bool (nL t.aa xs)/\I'=I/\M'=M0:=by
 refine bn [] aI Tryz.func72 rfl rfl rfl ?_;intro B av;have g7:=aq.n;have gk:=aq.aJ.cap;have fU:=ae.n;refine bu.inv (ι:=Nat) (λi=>{ a4:=[(1,.val (.slice xa t.n xc)),(8,.val (.slice t.a t.n t.c)),(9,.val (.int .i64 t.n)),(10,.val (.int .i64 i))],br:=I,bO:=M0 }) (λi=>i<=t.n/\(t.aa.take i).any (λd=>decide (d.k=6)&&(decide (d.hi=-1)&&(xs.getD (d.kids.headD 0).toNat bw).z))=false) (λi=>t.n-i) ?_ ?_
 ·exact⟨0,⟨bQ _,rfl⟩,.refl,cI,.nil⟩
 rintro i⟨hi,cm⟩;refine aB.mk (λh=>?_) (λh=>?_)
 rotate_left
 ·have bS:i=t.n:=by have:¬ (i:Int)<(t.n:Int):=cR h;omega
  rw[dX (by omega)]at cm;refine⟨_,_,.refl,?_,rfl,rfl⟩;rw[nL,cm]
 have ax:i<t.n:=by have:(i:Int)<(t.n:Int):=cq h;omega
 have bo:i<t.aa.length:=by omega
 obtain⟨ad,ba,a3⟩:=aq.aJ.row aH.bI ax bo;have al:=aq.aa _ (bJ bo);have kT:=tM ag bo;have fC:=h1 ag i bo;have eR:=al.aZ;have eG:(t.aa.take (i+1)).any (λd=>decide (d.k=6)&&(decide (d.hi=-1)&&(xs.getD (d.kids.headD 0).toNat bw).z))=(decide (t.aa[i].k=6)&&(decide (t.aa[i].hi=-1)&&(xs.getD (t.aa[i].kids.headD 0).toNat bw).z)):=by rw[er bo,akA,cm,mL]
 generalize t.aa[i]=d at a3 al kT fC eR eG;refine aW.mk ad i ba rfl ax ?_;refine aE.mk _ (a3 _) ?_;refine a9.mk (λb5=>?_) (λb5=>?_)
 rotate_left
 ·have zI:decide (d.k=6)=false:=b5;rw[zI]at eG;refine aQ.mk _ (bl (i:=i) (by omega)) ?_;exact⟨i+1,⟨⟨ax,eG⟩,by omega⟩,.refl,cI,.nil⟩
 have zI:decide (d.k=6)=true:=b5;have ary:d.k=6:=cq zI;rw[zI,kj]at eG;refine a9.mk (λU=>?_) (λU=>?_)
 rotate_left
 ·have jL:decide (d.hi=-1)=false:=U;rw[jL]at eG;refine aQ.mk _ (bl (i:=i) (by omega)) ?_;exact⟨i+1,⟨⟨ax,eG⟩,by omega⟩,.refl,cI,.nil⟩
 have jL:decide (d.hi=-1)=true:=U;rw[jL,kj]at eG;have gT:0<d.kids.length:=by have:=JI al.k.1 kT (by omega);omega
 obtain⟨eU,eO,eB⟩:=al.aJ.one (j:=0) (by omega) gT;have ai:=fC _ (bJ gT);have cj:d.kids.headD 0=d.kids[0]:=akz gT;rw[cj]at eG;have ee:d.kids[0].toNat<xs.length:=by omega
 obtain⟨Ql,Qm,qd⟩:=ae.rd _ ee;have ao:xs.getD d.kids[0].toNat bw=xs[d.kids[0].toNat]:=by simp[bV,ee]
 rw[ao]at eG;refine aW.mk eU 0 eO rfl (by omega) ?_;refine aE.mk _ (eB _) ?_;refine aW.mk Ql d.kids[0].toNat Qm (by omega) (by omega) ?_;refine aE.mk _ (qd.part (k:=0) (m:=1) (by decide)) ?_;refine aB.mk (λa2=>?_) (λa2=>?_)
 ·have fW:xs[d.kids[0].toNat].z=true:=a2;refine⟨_,_,.refl,?_,rfl,rfl⟩;rw[nL,akB (i:=i+1) (by rw[eG,fW])]
 ·have fW:xs[d.kids[0].toNat].z=false:=a2;rw[fW]at eG;refine aQ.mk _ (bl (i:=i) (by omega)) ?_;exact⟨i+1,⟨⟨ax,eG⟩,by omega⟩,.refl,cI,.nil⟩
def dA.mark(s:dA)(i k:Nat):dA:=⟨s.n,s.m.set i (s.m.getD i 0 ||| kW k),s.w⟩
def kc(b:Nat)(s:dA):aD:=⟨b,.cells s.cells.toArray 86 (0,0)⟩
def dA.bI(s:dA):s.cells.length=66:=by simp[dA.cells,td]
def akD{b:Nat}{s:dA}(aV:kc b s∈M)(aj:j<64):bq I M (((⟨b,0,none⟩:Addr).add 1).add (j*1)) 1 [ou (s.m.getD j 0)]:=by rw[dF (⟨b,0,none⟩:Addr) rfl,dF _ rfl];refine⟨rfl,_,_,_,.inr ⟨_,aV,rfl,rfl⟩,?_,rfl⟩;simp only[cM,fh];show(s.cells.drop (1+j)).take 1=_;rw[dA.cells,Cn 1 j,Gx,WG (by rw[td];omega),dv (by rw[td];exact aj),oO,nq,mi];simp[kw]
def akE{s:dA}(ar:s.m.length=64){i k:Nat}(hi:i<64):bG s.cells (0+1+i*1) [ou (s.m.getD i 0 ||| kW k)]=(s.mark i k).cells:=by
 unfold dA.cells dA.mark;simp only;have aF:bG (Value.int .i64 s.n::(kw s.m++[ou s.w])) (0+1+i*1) [ou (s.m.getD i 0 ||| kW k)]=Value.int .i64 s.n::(bG (kw s.m) (0+i*1) [ou (s.m.getD i 0 ||| kW k)]++[ou s.w]):=by have h:=XH [Value.int .i64 s.n] (kw s.m) [ou s.w] i [ou (s.m.getD i 0 ||| kW k)] (by rw[td];show i+1<=64;omega);simp only[On,Db,cS,dI,cM,fh]at h |-;exact h
 rw[aF,XS s.m ar i hi]
def cu.akF{b x y:Nat}{vs:List Value}{K:List aD->Prop}(pre post:List aD)(cs:List Value)(T:Nat)(aV:M=pre++⟨b,.cells cs.toArray T (0,0)⟩::post)(ah:0+x+y+vs.length<=cs.length)(U:gh vs=true)
  (cs':List Value) (he:bG cs (0+x+y) vs=cs') (h:K (pre++⟨b,.cells cs'.toArray T (0,0)⟩::post)):cu M (((⟨b,0,none⟩:Addr).add x).add y) vs K:=by
 rw[dF (⟨b,0,none⟩:Addr) rfl,dF _ rfl];exact cu.kU pre post cs.toArray T aV rfl (by rw[FW];simpa using ah) U cs' he h
def akG{M1:List aD}{g:bP}(ao:g.ok I){nm:ByteArray}{k:Nat}(af:cy nm g.ds 0=k)(akH:k<64){b6 b7 i:Nat}(hi:i<64){s:dA}(ar:s.m.length=64)(U:(⟨b1,.cells #[.slice g.a g.n g.c] 24 (0,0)⟩:aD)∈M1)(fw:(⟨b7,.cells #[.int .i64 i] 3 (0,0)⟩:aD)∈M1) :
  Spec Tryz.prog 70 [.string nm,ptr b1,ptr b6,ptr b7] I (kc b6 s::M1) λv I' M'=>I'=I/\M'=kc b6 (s.mark i k)::M1:=by
 refine bn [] aI Tryz.func70 rfl rfl rfl ?_;intro B av;refine aE.mk [.slice g.a g.n g.c] ⟨rfl,_,_,_,.inr ⟨_,.tail _ U,rfl,rfl⟩,rfl,rfl⟩ ?_;have au:Spec Tryz.prog 71 [g.val,.string nm] I (kc b6 s::M1) λv I' M'=>v=.int .i64 k/\I'=I/\M'=kc b6 s::M1:=by refine Spec.iM (Spec.frame (UB ao nm)) ?_;rintro v J M⟨M',rfl,-,-,rfl,rfl,rfl⟩;rw[af];exact⟨rfl,rfl,rfl⟩
 refine aU.whole _ au ?_;rintro v J N -⟨rfl,bg,cH⟩;subst J;subst N;refine aB.mk (λ_=>?_) (λh=>?_)
 rotate_left
 ·have:¬ (0:Int)<=(k:Int):=cR h;omega
 refine cr.draw aI rfl rfl rfl ?_;refine aE.mk [.int .i64 i] ⟨rfl,_,_,_,.inr ⟨_,.tail _ fw,rfl,rfl⟩,rfl,rfl⟩ ?_;refine eb.mk i rfl hi ?_;refine aE.mk _ (akD (.head _) hi) ?_;refine wW.mk k rfl ?_;refine aQ.mk _ (Pm akH) ?_;refine eb.mk i rfl hi ?_;refine cu.akF [] M1 s.cells _ rfl ?_ rfl (s.mark i k).cells ?_ ?_
 ·rw[dA.bI];show 0+1+i*1+1<=66;omega
 ·show bG s.cells (0+1+i*1) [Value.int .u64 (DR (s.m.getD i 0).toNat (kW k).toNat)]=_;rw[Kv];exact akE ar hi
 exact⟨_,_,.refl,rfl,rfl⟩
def cY.ints(w:cY):∀ x∈[(w.a.toNat:Int),(w.b.toNat:Int),(w.c.toNat:Int),(w.d.toNat:Int)],e5 x:=by
 have U:=w.a.isLt;have ab:=w.b.isLt;have ak:=w.c.isLt;have aL:=w.d.isLt;intro x ae;simp only[ea,M3,or_false]at ae;unfold e5;rcases ae with rfl | rfl | rfl | rfl<;>omega
def Zn{t:bx}(aq:t.ok I)(au:Fit t W){r:Bool}(ag:right t=r):Spec Tryz.prog 90 [t.val] I M0 λv I' M'=>v=.bool r/\I'=I/\M'=M0:=by refine Spec.iM (Spec.frame (xF aq W au.w au.b)) ?_;rintro v J M⟨M',rfl,-,-,rfl,rfl,rfl⟩;rw[ag];exact⟨rfl,rfl,rfl⟩
def akI{t:bx}(aq:t.ok I)(ag:right t=true)(au:Fit t W){node:Nat}(az:node<t.n):Spec Tryz.prog 138 [t.val,.int .i64 node] I M0 λv I' M'=>(∀ b o,I b=some o->I' b=some o)/\M'=M0/\∃ bh:bx,v=.tuple #[bh.val,.bool true]/\bh.ok I'/\qZ t node bh:=by refine Spec.iM (Spec.frame (agf aq ag W au.w au.b au.n az)) ?_;rintro v J M⟨M',rfl,-,-,U,rfl,bh,rfl,ab,ak,aL,-⟩;exact⟨U,rfl,bh,rfl,ab,⟨ak,aL⟩⟩
def Zo{t:bx}(ag:right t=true)(au:Fit t W)(aq:t.ok I)(aj:j<t.aa.length){bh:bx}(h:qZ t j bh)(D7:bh.ok I'):Fit bh W:=by
 have ay:=Ov ag aj h;have ar:=y5 ag t.aa.length j aj (by omega);have az:=aq.n;have yx:=D7.n;have hle:bh.n<=t.n:=by omega
 refine⟨λd al=>?_,k5 (rl W hle) au.b,k5 hle au.n⟩;obtain⟨d0,av,ks,e,af⟩:=WI ag aj h d al;have a7:d.kids=ks:=by have:=congrArg aH.kids e;exact this
 have U:=(D7.aa d al).aZ;have ab:=(aq.aa d0 av).aZ;have ak:=au.w d0 av;rw[a7]at U;omega
def Zp{pl:List (ByteArray×Int)}{t:bx}(ag:right t=true)(az:lT pl t.aa=true)(aj:j<t.aa.length){bh:bx}(h:qZ t j bh):lT pl bh.aa=true:=by
 refine et.2 λd al=>?_;obtain⟨d0,av,ks,e,af⟩:=WI ag aj h d al;have aF:d.k=d0.k:=by have:=congrArg aH.k e;exact this
 have a7:d.t=d0.t:=by have:=congrArg aH.t e;exact this
 rw[aF,a7];exact et.1 az d0 av
def Zq{t:bx}(aq:t.ok I)(ag:right t=true)(au:Fit t W):Spec Tryz.prog 115 [t.val] I M0 λv I' M'=>v=((nodeAt t.aa t.root.toNat).m6 []).val/\I'=I/\M'=M0:=by
 refine bn [] aI Tryz.func115 rfl rfl rfl ?_;intro B av;have g7:=aq.n;obtain⟨g3,gI⟩:=lK ag;obtain⟨r,lD⟩:=en g3;have dp:r<t.aa.length:=by omega
 obtain⟨ad,ba,a3⟩:=aq.aJ.row aH.bI (show r<t.n by omega) dp;have qU:nodeAt t.aa t.root.toNat=t.aa[r]:=by rw[lD];exact jO dp
 rw[qU];generalize t.aa[r]=d at a3;refine aU.whole _ (Zn aq au ag) ?_;rintro v J N -⟨rfl,bg,cH⟩;subst J;subst N;refine aB.mk (λh=>absurd h (by simp)) (λ_=>?_);refine aW.mk ad r ba lD (by omega) ?_;refine aE.mk _ (a3 _) ?_;exact⟨_,_,.refl,rfl,rfl,rfl⟩
structure akJ(I:aT)(t:bx)(d:aH)(x:Nat×aY×List bx×aT):Prop where
 i:x.1<=d.aZ
 os:x.2.1.ok 2 (x.2.2.1.flatMap bx.cells)
 len:x.2.2.1.length=x.1
 le:∀ b o,I b=some o->x.2.2.2 b=some o
 all:∀ q (h:q<x.2.2.1.length),(x.2.2.1[q]).ok x.2.2.2/\qZ t (d.kids.getD q 0) x.2.2.1[q]
set_option maxRecDepth 100000 in
def Zr{t:bx}(aq:t.ok I)(ag:right t=true)(au:Fit t W):Spec Tryz.prog 116 [t.val] I M0 λv I' M'=>(∀ b o,I b=some o->I' b=some o)/\∃ (os:aY) (L:List bx),os.ok 2 (L.flatMap bx.cells)/\v=os.val/\M'=os.aw 46++M0 /\
  L.length=(nodeAt t.aa t.root.toNat).kids.length/\∀ q (h:q<L.length),(L[q]).ok I'/\qZ t ((nodeAt t.aa t.root.toNat).kids.getD q 0) L[q]:=by
 refine bn [] aI Tryz.func116 rfl rfl rfl ?_;intro B av;have g7:=aq.n;obtain⟨g3,gI⟩:=lK ag;obtain⟨r,lD⟩:=en g3;have dp:r<t.aa.length:=by omega
 obtain⟨ad,ba,a3⟩:=aq.aJ.row aH.bI (show r<t.n by omega) dp;have qU:nodeAt t.aa t.root.toNat=t.aa[r]:=by rw[lD];exact jO dp
 have cN:=bJ dp;have al:=aq.aa _ cN;have akK:=au.w _ cN;have fC:=h1 ag r dp;have Qn:t.aa[r].kids.length<=t.aa.length:=by
  have U:=vP ag dp;have ab:=y5 ag t.aa.length r dp (by omega);have ak:t.aa[r].kids.length<=eV (g' t.aa) t.aa[r].kids:=y6 ag λk af=>by have:=fC k af;omega
  omega
 rw[qU];generalize t.aa[r]=d at a3 al akK fC Qn;have eR:=al.aZ;have qT:=al.aJ.cap;have o7:=au.n;refine aU.whole _ (Zn aq au ag) ?_;rintro v J N -⟨rfl,bg,cH⟩;subst J;subst N;refine aB.mk (λh=>absurd h (by simp)) (λ_=>?_);refine aW.mk ad r ba lD (by omega) ?_;refine aE.mk _ ((a3 _).part (k:=8) (m:=1) (by decide)) ?_;refine bu.inv (ι:=Nat×aY×List bx×aT) (λx=>{ a4:=[(1,.ref 1 0),(3,.val x.2.1.val),(4,.val (.slice d.eA d.aZ d.ej)),(5,.val (.int .i64 x.1))],cl:=[(1,t.cells)],br:=x.2.2.2,bO:=x.2.1.aw 46++M0 }) (akJ I t d) (λx=>d.aZ-x.1) ?_ ?_
 ·exact⟨(0,fs,[],I),⟨bQ _,fT 2,rfl,λ_ _ h=>h,λq h=>absurd h (qb _)⟩,.refl,cI,.cons rfl (.nil)⟩
 rintro⟨i,os,L,K⟩⟨hi,bf,cL,cb,eg⟩;simp only at hi bf cL cb eg;have Zs:os.n=i:=by have:=bf.len;rw[gd bx.cells 2 (λ_=>rfl)]at this;omega
 refine aB.mk (λh=>?_) (λh=>?_)
 rotate_left
 ·have bS:i=d.aZ:=by have:¬ (i:Int)<(d.aZ:Int):=cR h;omega
  exact⟨_,_,.refl,cb,os,L,bf,rfl,rfl,by omega,eg⟩
 have ax:i<d.aZ:=by have:(i:Int)<(d.aZ:Int):=cq h;omega
 have cd:i<d.kids.length:=by omega
 obtain⟨eU,eO,eB⟩:=(al.aJ.mono cb).one ax cd;have a0:=fC _ (bJ cd);have Aw:d.kids.getD i 0=d.kids[i]:=by simp[bV,cd]
 generalize d.kids[i]=Jc at eB a0 Aw;obtain⟨q,rfl⟩:=en a0.1;have kl:∀ {M:List aD},Spec Tryz.prog 138 [t.val,.int .i64 q] K M λv I' M'=>(∀ b o,K b=some o->I' b=some o)/\M'=M/\∃ bh:bx,v=.tuple #[bh.val,.bool true]/\bh.ok I'/\qZ t q bh:=fun {M}=>akI (aq.mono cb) ag au (by omega);refine cr.IC aI rfl rfl rfl (ι:=Nat×aT×bx) (λs=>{ a4:=[(1,.ref 1 0),(3,.val os.val),(4,.val (.slice d.eA d.aZ d.ej)),(5,.val (.int .i64 i)),(6,.val (ptr s.1))],cl:=[(1,t.cells)],br:=s.2.1,bO:=⟨s.1,.cells s.2.2.cells.toArray 46 (0,0)⟩::(os.aw 46++M0) }) (λs=>(∀ b o,K b=some o->s.2.1 b=some o)/\s.2.2.ok s.2.1/\qZ t q s.2.2) ?_ ?_
 ·refine aW.mk eU i eO rfl ax ?_;refine aE.mk _ (eB _) ?_;refine⟨?_,?_⟩
  ·refine aU.whole _ kl ?_;rintro v hh ew -⟨jr,rfl,bh,rfl,U,ab⟩;refine bL.mk λs ar akL=>?_;refine cu.kU [] _ _ _ rfl rfl rfl rfl bh.cells rfl ?_;exact⟨(s,hh,bh),⟨jr,U,ab⟩,.refl,ec,.cons rfl (.nil)⟩
  ·refine bL.mk λs ar akL=>?_;refine e7.whole _ kl (λv I' M' h x ae=>by rw[h.2.1];exact ae) ?_;rintro v hh ew -⟨jr,rfl,bh,rfl,U,ab⟩;refine cu.kU [] _ _ _ rfl rfl rfl rfl bh.cells rfl ?_;exact⟨(s,hh,bh),⟨jr,U,ab⟩,.refl,ec,.cons rfl (.nil)⟩
 rintro⟨akM,hh,bh⟩⟨jr,U,ab⟩;simp only at jr U ab;refine aE.mk bh.cells ⟨rfl,_,_,_,.inr ⟨_,.head _,rfl,rfl⟩,rfl,rfl⟩ ?_;refine bL.mk λbT h3 iF=>?_;refine bk.nF aI rfl (by simp) (e:=46) rfl rfl rfl os bf rfl (cs:=bh.cells) rfl rfl rfl [⟨akM,.cells bh.cells.toArray 46 (0,0)⟩] M0 rfl (by omega) (by show(os.n+1)*32<=_;omega) ?_;intro gL h8 ed eX;refine aQ.mk _ (bl (i:=i) (by omega)) ?_;refine⟨(i+1,gL,L++[bh],hh),⟨⟨ax,?_,by simp[cL],λb o h=>jr _ _ (cb _ _ h),λp aN=>?_⟩,by simp only;omega⟩,.sub (.cons _ (.refl _)) .refl,cI,.cons rfl (.nil)⟩
 ·simp only;rw[jF];simpa using eX
 ·simp only at aN |-;by_cases e:p<L.length
  ·rw[C9 e];obtain⟨a6,bb⟩:=eg p e;exact⟨a6.mono jr,bb⟩
  ·have rW:p=L.length:=by simp at aN;omega
   subst rW;rw[NB rfl,cL,Aw];exact⟨U,ab⟩
end Go.V
