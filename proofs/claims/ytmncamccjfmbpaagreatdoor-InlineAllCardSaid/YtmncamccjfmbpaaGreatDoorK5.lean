/- Part 5 of what the proofs of this seat share: the executor, data in memory, walks.
-/
import Derived.Test.YtmncamccjfmbpaaGreatDoorK4
import Derived.Test.YtmncamccjfmbpaaGreatDoorK2
import Derived.Laws.IdiomStrings
import Derived.Test.YtmncamccjfmbpaaGreatDoorK3
set_option linter.all false
set_option maxHeartbeats 8000000
set_option maxRecDepth 100000
namespace Go.V
open Go Go.Proofs
def pK:=@List.flatMap_singleton
def pL:=@List.length_singleton
def rL:=@List.singleton_append
def rM:=@List.pairwise_append
def u0:=@List.drop_of_length_le
def xT:=@List.length_flatMap
def xU:=@List.reverse_append
def wj:=@List.length_range
def D5:=@List.getElem_append_right
def BX:=@Nat.ble_eq_true_of_le
def BY:=@List.filter_append
def BZ:=@BitVec.getLsbD_or
def Hu:=@List.pairwise_flatMap
def D6:=@Int.natCast_nonneg
def Hv:=@List.drop_succ_cons
def PW:=@List.drop_append_of_le_length
def KW:=@List.getElem?_of_mem
def PX:=@List.pairwise_iff_getElem
def Hw:=@List.take_append
def PY:=@List.getElem?_replicate
def PZ:=@BitVec.eq_of_getLsbD_eq
def KX:=@BitVec.toNat_ofNat
def zH:=@Nat.add_eq
def D7:=@Bool.or_true
def KY:=@decide_eq_decide
def P0:=@BitVec.getLsbD_and
def KZ:=@List.foldl_nil
def D8:=@Nat.mul_eq
def D9:=@Nat.sub_eq
def P1:=@Nat.mod_eq_of_lt
def K0:=@List.all_map
variable{I:aI}{M M0 M':List aD}{aw:List Int}{g:cx}{t f src dst c' off sz:Nat}{α R:Type}{vs args xs:List Value}{K:Value->Prop}{y s pM:Operand}{c7:Option dD}{aF K1:dD}{aS:Addr}{foot:List Nat}{P:Program}{E:Env}{eZ:IntKind}{O:Prop}{os:aX}{w:Value}
def lT.mono{I':aI}{a:Option Addr}{n:Nat}{ks:List aU}(h:lT I M a n ks)(bt:∀ b o,I b=some o->I' b=some o):lT I' M a n ks:=
 ⟨h.n,λj ai=>by
  obtain⟨aS,aa,ab⟩:=h.rd j ai;exact⟨aS,aa,ab.mono bt⟩⟩
def lT.sub{I:aI}{M M':List aD}{a:Option Addr}{n:Nat}{ks:List aU}(h:lT I M a n ks)(a':∀ x∈M,x∈M'):lT I M' a n ks:=
 ⟨h.n,λj ai=>by
  obtain⟨aS,aa,ab⟩:=h.rd j ai;exact⟨aS,aa,ab.sub a'⟩⟩
def K2{b:Nat}{l:List aU}(a':fN b l∈M):lT I M (some ⟨b,0,none⟩) l.length l:=
 ⟨rfl,λj ai=>⟨_,rfl,D1 a' ai⟩⟩
def zI(g:cx)(bj:List aU)(t:bR):Option (List aU):=bif decide (bj.length=g.n)&&(right t&&wi (bD g.ds) t.ns)then some (eo (bD g.ds) bj t.ns [])else none
def ajq(bs:fQ I aw)(au:g.ok I){t:bR}(av:t.ok I){ly:Option Addr}{ln lc:Nat}{bj:List aU}(mZ:lT I M0 ly ln bj) :
  Spec Tryz.prog 159 [g.val,.slice ly ln lc,t.val] I M0 λv I' M'=>(∀ b o,I b=some o->I' b=some o) /\
   ((zI g bj t=none/\v=.tuple #[.slice none 0 0,.bool false]/\M'=M0)\/∃ r b,zI g bj t=some r/\v=.tuple #[.slice (some ⟨b,0,none⟩) t.n t.n,.bool true]/\M'=fN b r::M0):=by
 refine bZ [] a5 Tryz.func159 rfl rfl rfl ?_;intro B az;have fM:=au.n;have ic:=av.n;have ju:=av.a0.cap;have XG:=mZ.n;refine cq.mk (λh=>?_) (λh=>?_)
 rotate_left
 ·refine⟨_,_,.refl,λ_ _ h=>h,.inl ⟨?_,rfl,rfl⟩⟩;have bn:¬ (ln:Int)=(g.n:Int):=by simpa using h
  have:decide (bj.length=g.n)=false:=eB (by omega);simp[zI,this]
 have rN:ln=g.n:=by
  have:(ln:Int)=(g.n:Int):=by simpa using h
  omega
 have g8:decide (bj.length=g.n)=true:=fu (by omega);refine bc.mk [] M0 _ (.refl _) (qm bs.c av) ?_;rintro v I1 M1 -⟨rfl,rfl,rfl⟩;refine aZ.mk (λh=>?_) (λh=>?_)
 ·refine⟨_,_,.refl,λ_ _ h=>h,.inl ⟨?_,rfl,rfl⟩⟩;have:right t=false:=by simpa using h
  simp[zI,this]
 have af:right t=true:=by simpa using h
 refine bc.mk [] M0 _ (.refl _) (Xo au) ?_;rintro v dv df -⟨en,rfl,hN,rfl,D'⟩;have sy:=av.mono en;refine de.inv (ι:=Nat) (λx=>{ bj:=[(1,.val (.slice ly ln lc)),(3,.ref 3 0),(5,.ref 5 0),(8,.val (.map (some hN))),(27,.val (.slice t.a t.n t.c)),(28,.val (.int .i64 t.n)),(29,.val (.int .i64 x))],cl:=[(3,[.slice g.a g.n g.c]),(5,t.cells)],cI:=dv,c1:=M0 }) (λx=>x<=t.n/\∀ d∈t.ns.take x,(!decide (d.k=3)||(ev d.t (bD g.ds)).isSome)=true) (λx=>t.n-x) ?_ ?_
 ·exact⟨0,⟨dz _,λd aj=>by simp at aj⟩,.refl,p',.cons rfl (.cons rfl .nil)⟩
 rintro i⟨hi,h9⟩;refine aZ.mk (λh=>?_) (λh=>?_)
 ·have aV:i<t.n:=by have:(i:Int)<(t.n:Int):=dh h;omega
  have ch:i<t.ns.length:=by omega
  obtain⟨aS,bH,bl⟩:=sy.a0.row an.cS aV ch;have mR:t.ns.take (i+1)=t.ns.take i++[t.ns[i]]:=fZ ch;have e6:=bx ch;have next:(!decide (t.ns[i].k=3)||(ev t.ns[i].t (bD g.ds)).isSome)=true->∀ d∈t.ns.take (i+1),(!decide (d.k=3)||(ev d.t (bD g.ds)).isSome)=true:=λh d aj=>by
   rw[mR]at aj;rcases cE.1 aj with aj | aj;·exact h9 d aj
   ·simp only[ek]at aj;rw[aj];exact h
  refine bf.mk aS i bH rfl aV ?_;refine aO.mk _ (bl _) ?_;refine aZ.mk (λak=>?_) (λak=>?_);·refine bg.mk _ (cK (i:=i) (by omega)) ?_;refine⟨i+1,⟨⟨by omega,next ?_⟩,by omega⟩,.refl,p',.cons rfl (.cons rfl .nil)⟩;rw[show(!decide (t.ns[i].k=3))=true from ak];rfl
  ·refine bw.Xn a5 rfl (by simp) rfl rfl rfl rfl (λw=>G3 w) (l:=bD g.ds) (g:=hN) rfl rfl (.inl D') ?_;refine aZ.mk (λaJ=>?_) (λaJ=>?_)
   ·refine⟨_,_,.refl,en,.inl ⟨?_,rfl,rfl⟩⟩;have bB:wi (bD g.ds) t.ns=false:=by
     rw[wi,J6];refine⟨_,e6,?_⟩;have b5:(ev t.ns[i].t (bD g.ds)).isSome=false:=by simpa using aJ
     rw[b5,show(!decide (t.ns[i].k=3))=false from ak];simp
    simp[zI,bB]
   ·refine bg.mk _ (cK (i:=i) (by omega)) ?_;refine⟨i+1,⟨⟨by omega,next ?_⟩,by omega⟩,.refl,p',.cons rfl (.cons rfl .nil)⟩;have b5:(ev t.ns[i].t (bD g.ds)).isSome=true:=by simpa using aJ
    rw[b5];simp
 have cA:i=t.n:=by have:¬ (i:Int)<(t.n:Int):=dO h;omega
 rw[ft (by omega)]at h9;have dY:wi (bD g.ds) t.ns=true:=fx.2 h9;have Ea:=XE dY;rw[fM,<-rN]at Ea;refine bc.mk M0 [] _ perm_nil (Xu sy af D' (mZ.mono en) Ea) ?_;rintro v hW sh -⟨rfl,b,rfl,rfl⟩;rw[ef];exact⟨_,_,.refl,en,.inr ⟨_,b,by rw[zI,g8,af,dY];rfl,rfl,rfl⟩⟩
structure wk(g:cx):Prop where
 n:g.ds.length=g.n
 right:∀ d∈g.ds,right d.t=true
 named:∀ d∈g.ds,wi (bD g.ds) d.t.ns=true
def K3(aB:g.ds.length=g.n)(h:dm aw g=0):wk g:=by refine⟨aB,λd aj=>?_,ajo h⟩;have:=fx.1 (ajp h) d aj;simp only[normal,cB]at this;exact this.2.1
def ofM(b6 hN eQ gG b1:Nat)(g:cx)(l:List aU):List aD:=[⟨b6,.cells #[.map (some hN)] 102 (0,0)⟩,⟨eQ,.cells #[.slice (some ⟨gG,0,none⟩) g.n g.n] 223 (0,0)⟩,fN gG l,⟨b1,.cells #[.slice g.a g.n g.c] 24 (0,0)⟩]
def Hx(a b c d:α):[a,b,c,d].Perm ([c]++[a,b,d]):=mv (l₁:=[a,b]) (l₂:=[d])
def ajr(x a b c d:α):[x,a,b,c,d].Perm ([c]++[x,a,b,d]):=mv (l₁:=[x,a,b]) (l₂:=[d])
def K4{b:Nat}{f:aU}(a':(⟨b,.cells f.cells.toArray 270 (0,0)⟩:aD)∈M):cM I M (⟨b,0,none⟩:Addr) 3 f.cells:=⟨rfl,_,_,_,.inr ⟨_,a',rfl,rfl⟩,rfl,rfl⟩
def XH{l:List aU}{i:Nat}(hi:i<l.length){x:aU}:Nat.ble (0+i*3+x.cells.length) (l.flatMap aU.cells).length=true:=by rw[nE,BU,aU.cS];omega
def b2.rO{a:Addr}{K:List aD->Prop}(a9 post:List aD)(cs:Array Value)(T:Nat)(a':M=a9++⟨a.block,.cells cs T (0,0)⟩::post)(ar:a.spot=none)(ag:Nat.ble (a.off+vs.length) cs.size=true)(aa:gm vs=true)(cs':List Value)(he:ck cs.toList a.off vs=cs')(k:K (a9++⟨a.block,.cells cs'.toArray T (0,0)⟩::post)):b2 M a vs K:=
 ⟨a9,post,cs,T,a',ar,bJ ag,aa,by rw[he];exact k⟩
def ajs(au:g.ok I)(hm:wk g){b6 hN eQ gG b1:Nat}(D':I hN=some (jz (bD g.ds))){fq:List aU}(A0:oX g.ds fq) :
  Spec Tryz.prog 198 [ptr b1,ptr b6,ptr eQ] I (ofM b6 hN eQ gG b1 g fq) λv I' M'=>v=.bool (decide (nG (bD g.ds) 0 g.ds fq≠fq))/\I'=I/\M'=ofM b6 hN eQ gG b1 g (nG (bD g.ds) 0 g.ds fq):=by
 refine bZ [] a5 Tryz.func198 rfl rfl rfl ?_;intro B az;have fM:=au.n;have ju:=au.a0.cap;have P2:∀ {M:List aD},(⟨b1,.cells #[.slice g.a g.n g.c] 24 (0,0)⟩:aD)∈M->cM I M ((⟨b1,0,none⟩:Addr).add 0) 1 [.slice g.a g.n g.c]:=λa'=>c4 (cs:=[.slice g.a g.n g.c]) (k:=0) (n:=1) a' (by simp);have ajt:∀ {M:List aD},(⟨b6,.cells #[.map (some hN)] 102 (0,0)⟩:aD)∈M->cM I M (⟨b6,0,none⟩:Addr) 1 [.map (some hN)]:=λa'=>⟨rfl,_,_,_,.inr ⟨_,a',rfl,rfl⟩,rfl,rfl⟩;have zy:∀ {M:List aD},(⟨eQ,.cells #[.slice (some ⟨gG,0,none⟩) g.n g.n] 223 (0,0)⟩:aD)∈M->cM I M (⟨eQ,0,none⟩:Addr) 1 [.slice (some ⟨gG,0,none⟩) g.n g.n]:=λa'=>⟨rfl,_,_,_,.inr ⟨_,a',rfl,rfl⟩,rfl,rfl⟩;refine aO.mk _ (P2 (by simp[ofM])) ?_;refine de.inv (ι:=Nat×List aU) (λx=>{ bj:=[(0,.val (ptr b1)),(1,.val (ptr b6)),(2,.val (ptr eQ)),(4,.val (.bool (decide (x.2≠fq)))),(9,.val (.slice g.a g.n g.c)),(10,.val (.int .i64 g.n)),(11,.val (.int .i64 x.1))],cI:=I,c1:=ofM b6 hN eQ gG b1 g x.2 }) (λx=>x.1<=g.n/\oX g.ds x.2/\ew fq x.2/\nG (bD g.ds) 0 g.ds fq=nG (bD g.ds) x.1 (g.ds.drop x.1) x.2) (λx=>g.n-x.1) ?_ ?_
 ·refine⟨(0,fq),⟨dz _,A0,ew.refl _,rfl⟩,.refl,.cons .refl (.cons .refl (.cons .refl (.cons ?_ (hG)))),.nil⟩;exact KV (by simp)
 rintro⟨i,l⟩⟨hi,oY,bp,et⟩;simp only at hi oY bp et;have hF:=oY.len;refine aZ.mk (λh=>?_) (λh=>?_)
 rotate_left
 ·have cA:i=g.n:=by have:¬ (i:Int)<(g.n:Int):=dO h;omega
  rw[jH (by omega),nG]at et;exact⟨_,_,.refl,by rw[et],rfl,by rw[et]⟩
 have aV:i<g.n:=by have:(i:Int)<(g.n:Int):=dh h;omega
 have ch:i<g.ds.length:=by omega
 have dI:i<l.length:=by omega
 obtain⟨aS,bH,bl⟩:=au.a0.row aQ.cS aV ch;have gr:=bx ch;have aj:=au.ds _ gr;have af:=hm.right _ gr;have Ea:=XE (hm.named _ gr);rw[show g.ds.length=l.length from hF.symm]at Ea;obtain⟨tI,kP⟩:=oY.step ch;have xV:nG (bD g.ds) 0 g.ds fq=nG (bD g.ds) (i+1) (g.ds.drop (i+1)) (l.set i (ie (bD g.ds) l g.ds[i])):=by rw[et,eR ch,nG]
 have Hy:ie (bD g.ds) l g.ds[i]=(eo (bD g.ds) l g.ds[i].t.ns []).getD g.ds[i].t.bA.toNat bY:=rfl;generalize ie (bD g.ds) l g.ds[i]=f at tI kP xV Hy;generalize g.ds[i]=d at bl aj af Ea Hy;have tl:=qo af;have ic:=aj.t.n;have nw:=Hp (bD g.ds) l d.t.ns [];simp only[fL,db]at nw;have fa:d.t.bA.toNat<(eo (bD g.ds) l d.t.ns []).length:=by omega
 have vI:(eo (bD g.ds) l d.t.ns [])[d.t.bA.toNat]=f:=by rw[Hy];simp[bz,fa]
 have P3:=Xu (M0:=[fN gG l]) (ln:=l.length) (lc:=g.n) aj.t af D' (K2 (I:=I) (ek.2 rfl)) Ea;rw[show l.length=g.n by omega]at P3;refine bf.mk aS i bH rfl aV ?_;refine aO.mk _ (bl _) ?_;have aju:l.getD i bY=l[i]:=by simp[bz,dI]
 have more:(!decide (f=l[i]))=true->decide (l.set i f≠fq)=true:=λh=>by
  have bn:f≠l[i]:=by simpa using h
  rw[hR];intro e;have a7:l.set i f=l:=by refine ew.antisymm ?_ kP;rw[e];exact bp
  have ak:=Ht l i i f dI;rw[a7,bQ rfl,aju]at ak;exact bn ak.symm
 have same:(!decide (f=l[i]))=false->l.set i f=l:=λh=>by
  have he:f=l[i]:=by simpa using h
  rw[he];exact List.set_getElem_self dI
 refine cY.draw a5 rfl rfl rfl ?_;refine aO.mk _ (ajt (by simp[ofM])) ?_;refine aO.mk _ (zy (by simp[ofM])) ?_;refine⟨?_,?_⟩
 ·refine eL.oz [fN gG l] [⟨b6,.cells #[.map (some hN)] 102 (0,0)⟩,⟨eQ,.cells #[.slice (some ⟨gG,0,none⟩) g.n g.n] 223 (0,0)⟩,⟨b1,.cells #[.slice g.a g.n g.c] 24 (0,0)⟩] _ (Hx ..) P3 (λv I' M' h x ad=>by obtain⟨-,b,-,rfl⟩:=h;exact .tail _ ad) ?_;rintro v dv df -⟨rfl,b,rfl,rfl⟩;refine bf.mk ⟨b,0,none⟩ d.t.bA.toNat rfl (by omega) (by omega) ?_;refine aO.mk _ (D1 (.head _) fa) ?_;rw[vI];refine bX.mk λb7 Hz K5=>?_;refine b2.rO [] [fN b (eo (bD g.ds) l d.t.ns []),fN gG l,⟨b6,.cells #[.map (some hN)] 102 (0,0)⟩,⟨eQ,.cells #[.slice (some ⟨gG,0,none⟩) g.n g.n] 223 (0,0)⟩,⟨b1,.cells #[.slice g.a g.n g.c] 24 (0,0)⟩] _ _ rfl rfl rfl rfl f.cells rfl ?_;refine cY.draw a5 rfl rfl rfl ?_;refine aO.mk f.cells (K4 (by simp)) ?_;refine aO.mk _ (zy (by simp)) ?_;refine bf.mk ⟨gG,0,none⟩ i rfl rfl aV ?_;refine aO.mk _ (D1 (by simp) dI) ?_;refine gn.Xi (p:=f) (q:=l[i]) ?_;refine aZ.mk (λh=>?_) (λh=>?_)
  ·refine aO.mk _ (zy (by simp)) ?_;refine aO.mk f.cells (K4 (by simp)) ?_;refine bf.mk ⟨gG,0,none⟩ i rfl rfl aV ?_;refine b2.ix [(⟨b7,.cells f.cells.toArray 270 (0,0)⟩:aD),fN b (eo (bD g.ds) l d.t.ns [])] [⟨b6,.cells #[.map (some hN)] 102 (0,0)⟩,⟨eQ,.cells #[.slice (some ⟨gG,0,none⟩) g.n g.n] 223 (0,0)⟩,⟨b1,.cells #[.slice g.a g.n g.c] 24 (0,0)⟩] (l.flatMap aU.cells) _ rfl (XH dI) rfl ((l.set i f).flatMap aU.cells) (by rw[db];exact PQ l i dI f) ?_;refine bg.mk _ (cK (i:=i) (by omega)) ?_;refine⟨(i+1,l.set i f),⟨⟨by simp only;omega,tI,bp.trans kP,xV⟩,by simp only;omega⟩,.sub (M1:=[fN gG (l.set i f),⟨b6,.cells #[.map (some hN)] 102 (0,0)⟩,⟨eQ,.cells #[.slice (some ⟨gG,0,none⟩) g.n g.n] 223 (0,0)⟩,⟨b1,.cells #[.slice g.a g.n g.c] 24 (0,0)⟩]) (by exact .cons _ (.cons _ (.refl _))) (.perm (Hx ..).symm .refl),.cons .refl (.cons .refl (.cons .refl (.cons (KV (more h).symm) (hG)))),.nil⟩
  ·have he:l.set i f=l:=same h;rw[he]at xV;refine bg.mk _ (cK (i:=i) (by omega)) ?_;exact⟨(i+1,l),⟨⟨by simp only;omega,oY,bp,xV⟩,by simp only;omega⟩,.sub (M1:=[fN gG l,⟨b6,.cells #[.map (some hN)] 102 (0,0)⟩,⟨eQ,.cells #[.slice (some ⟨gG,0,none⟩) g.n g.n] 223 (0,0)⟩,⟨b1,.cells #[.slice g.a g.n g.c] 24 (0,0)⟩]) (by exact .cons _ (.cons _ (.refl _))) (.perm (Hx ..).symm .refl),p',.nil⟩
 ·refine bX.mk λb7 Hz K5=>?_;refine eL.oz [fN gG l] [(⟨b7,.cells bY.cells.toArray 270 (0,0)⟩:aD),⟨b6,.cells #[.map (some hN)] 102 (0,0)⟩,⟨eQ,.cells #[.slice (some ⟨gG,0,none⟩) g.n g.n] 223 (0,0)⟩,⟨b1,.cells #[.slice g.a g.n g.c] 24 (0,0)⟩] _ (ajr ..) P3 (λv I' M' h x ad=>by obtain⟨-,b,-,rfl⟩:=h;exact .tail _ ad) ?_;rintro v dv df -⟨rfl,b,rfl,rfl⟩;refine bf.mk ⟨b,0,none⟩ d.t.bA.toNat rfl (by omega) (by omega) ?_;refine aO.mk _ (D1 (.head _) fa) ?_;rw[vI];refine b2.rO [fN b (eo (bD g.ds) l d.t.ns []),fN gG l] [⟨b6,.cells #[.map (some hN)] 102 (0,0)⟩,⟨eQ,.cells #[.slice (some ⟨gG,0,none⟩) g.n g.n] 223 (0,0)⟩,⟨b1,.cells #[.slice g.a g.n g.c] 24 (0,0)⟩] _ _ rfl rfl rfl rfl f.cells rfl ?_;refine cY.draw a5 rfl rfl rfl ?_;refine aO.mk f.cells (K4 (by simp)) ?_;refine aO.mk _ (zy (by simp)) ?_;refine bf.mk ⟨gG,0,none⟩ i rfl rfl aV ?_;refine aO.mk _ (D1 (by simp) dI) ?_;refine gn.Xi (p:=f) (q:=l[i]) ?_;refine aZ.mk (λh=>?_) (λh=>?_)
  ·refine aO.mk _ (zy (by simp)) ?_;refine aO.mk f.cells (K4 (by simp)) ?_;refine bf.mk ⟨gG,0,none⟩ i rfl rfl aV ?_;refine b2.ix [fN b (eo (bD g.ds) l d.t.ns [])] [(⟨b7,.cells f.cells.toArray 270 (0,0)⟩:aD),⟨b6,.cells #[.map (some hN)] 102 (0,0)⟩,⟨eQ,.cells #[.slice (some ⟨gG,0,none⟩) g.n g.n] 223 (0,0)⟩,⟨b1,.cells #[.slice g.a g.n g.c] 24 (0,0)⟩] (l.flatMap aU.cells) _ rfl (XH dI) rfl ((l.set i f).flatMap aU.cells) (by rw[db];exact PQ l i dI f) ?_;refine bg.mk _ (cK (i:=i) (by omega)) ?_;refine⟨(i+1,l.set i f),⟨⟨by simp only;omega,tI,bp.trans kP,xV⟩,by simp only;omega⟩,.sub (M1:=[fN gG (l.set i f),⟨b6,.cells #[.map (some hN)] 102 (0,0)⟩,⟨eQ,.cells #[.slice (some ⟨gG,0,none⟩) g.n g.n] 223 (0,0)⟩,⟨b1,.cells #[.slice g.a g.n g.c] 24 (0,0)⟩]) (by exact .cons _ (.cons_cons _ (.cons _ (.refl _)))) (.perm (Hx ..).symm .refl),.cons .refl (.cons .refl (.cons .refl (.cons (KV (more h).symm) (hG)))),.nil⟩
  ·have he:l.set i f=l:=same h;rw[he]at xV;refine bg.mk _ (cK (i:=i) (by omega)) ?_;exact⟨(i+1,l),⟨⟨by simp only;omega,oY,bp,xV⟩,by simp only;omega⟩,.sub (M1:=[fN gG l,⟨b6,.cells #[.map (some hN)] 102 (0,0)⟩,⟨eQ,.cells #[.slice (some ⟨gG,0,none⟩) g.n g.n] 223 (0,0)⟩,⟨b1,.cells #[.slice g.a g.n g.c] 24 (0,0)⟩]) (by exact .cons _ (.cons_cons _ (.cons _ (.refl _)))) (.perm (Hx ..).symm .refl),p',.nil⟩
def ajv(bs:fQ I aw)(au:g.ok I):Spec Tryz.prog 158 [g.val] I [] λv I' M'=>(∀ b o,I b=some o->I' b=some o) /\
  ((dm aw g≠0/\v=.tuple #[.slice none 0 0,.int .i64 (dm aw g)]/\M'=[])\/(dm aw g=0/\∃ b l,v=.tuple #[.slice (some ⟨b,0,none⟩) g.n g.n,.int .i64 0]/\M'=[fN b l]/\jM g.ds l)):=by
 refine bZ [1,5,6] a5 Tryz.func158 rfl rfl rfl ?_;intro B az;have fM:=au.n;have ju:=au.a0.cap;refine bX.mk λb1 hk P4=>?_;refine aO.mk [.slice g.a g.n g.c] ⟨rfl,_,_,_,.inr ⟨_,.head _,rfl,rfl⟩,rfl,rfl⟩ ?_;refine bc.mk [] [⟨b1,.cells #[.slice g.a g.n g.c] 24 (0,0)⟩] _ (.refl _) (G4 bs au) ?_;rintro v I1 M1 -⟨rfl,cn,rfl⟩;refine aZ.mk (λh=>?_) (λh=>?_)
 ·have hm:dm aw g≠0:=by simpa using h
  exact⟨_,_,.sub (fp _) .refl,cn,.inl ⟨hm,rfl,rfl⟩⟩
 have hm:dm aw g=0:=by simpa using h
 have a':=K3 fM hm;refine aO.mk _ (c4 (b:=b1) (cs:=[.slice g.a g.n g.c]) (k:=0) (n:=1) (T:=24) (.head _) (by simp)) ?_;refine mG.mk g.n g.n rfl rfl (cc _) (by show 3*g.n<=_;omega) (by omega) ?_;refine bX.mk λgG mO auy=>?_;have e:rowOf bY.cells (g.n*3)=(List.replicate g.ds.length bY).flatMap aU.cells:=by rw[fM];exact Xt g.n
 refine bX.mk λeQ zv DN=>?_;refine b2.rO [] _ _ _ rfl rfl rfl rfl [.slice (some ⟨gG,0,none⟩) g.n g.n] rfl ?_;refine aO.mk [.slice g.a g.n g.c] ⟨rfl,_,_,_,.inr ⟨_,.tail _ (.tail _ (.head _)),rfl,rfl⟩,rfl,rfl⟩ ?_;refine bc.mk [] _ _ (.refl _) (Xo (au.mono cn)) ?_;rintro v dv df -⟨en,rfl,hN,rfl,D'⟩;refine bX.mk λb6 BF O6=>?_;refine b2.rO [] _ _ _ rfl rfl rfl rfl [.map (some hN)] rfl ?_;refine de.inv (ι:=List aU) (λl=>{ bj:=[(5,.val (ptr eQ)),(7,.val (.func (.func 198) #[] #[ptr b1,ptr b6,ptr eQ]))],cI:=dv,c1:=ofM b6 hN eQ gG b1 g l }) (oX g.ds) zG ?_ ?_
 ·refine⟨List.replicate g.ds.length bY,.start g.ds,?_,xl,.nil⟩;simp only[ofM,fN];rw[<-e];exact .refl
 intro l ay;refine bc.mk (ofM b6 hN eQ gG b1 g l) [] _ (.refl _) (ajs ((au.mono cn).mono en) a' D' ay) ?_;rintro v hW sh -⟨rfl,rfl,rfl⟩;obtain⟨iO,n3,-⟩:=PT g.ds [] rfl ay;refine aZ.mk (λh=>?_) (λh=>?_)
 ·exact⟨_,⟨iO,ajm n3 (dh h)⟩,.refl,xl,.nil⟩
 ·have aA:nG (bD g.ds) 0 g.ds l=l:=by have:=dO h;exact Classical.not_not.1 this
  rw[aA];refine aO.mk [.slice (some ⟨gG,0,none⟩) g.n g.n] ⟨rfl,_,_,_,.inr ⟨_,.tail _ (.head _),rfl,rfl⟩,rfl,rfl⟩ ?_;refine⟨hW,[fN gG l],.sub (.cons _ (.cons _ (.cons_cons _ (fp _)))) .refl,λb o h=>en _ _ (cn _ _ h),.inr ⟨hm,gG,l,rfl,rfl,ay.done aA⟩⟩
def bR.a4(t:bR):bR:=⟨t.ns.map an.a4,none,t.n,0,t.bA⟩
def aQ.a4(d:aQ):aQ:=⟨d.name,d.t.a4⟩
def cx.a4(g:cx):cx:=⟨g.ds.map aQ.a4,none,g.n,0⟩
def XI:∀ (ds:List an) (i:Nat) (s:List Bool),jt i (ds.map an.a4) s=jt i ds s
 |[],i,s=>rfl| d::ds,i,s=>by have h:∀ b3,jt (i+1) (ds.map an.a4) b3=jt (i+1) ds b3:=λb3=>XI ds (i+1) b3;rw[cb,jt,jt];simp only[h];rfl
def xW(t:bR):right t.a4=right t:=by unfold right bR.a4;simp only[XI,bF]
def XJ(ns:List an)(k:Int):iB (ns.map an.a4) k=iB ns k:=by unfold iB;rw[gO];rfl
def XK(ns:List an)(kind:Int):∀ ks,kz (ns.map an.a4) kind ks=kz ns kind ks
 |[]=>rfl| k::ks=>by rw[kz,kz,XJ,XK ns kind ks]
def XL(ns:List an):∀ ds:List an,kY (ns.map an.a4) (ds.map an.a4)=kY ns ds
 |[]=>rfl| d::ds=>by have h:=XK ns d.k d.ax;rw[cb,kY,kY,XL ns ds];show(bif !decide (d.k=4) && !decide (d.k=5)then kY ns ds else bif kz (ns.map an.a4) d.k d.ax then kY ns ds else false)=_;rw[h]
def ajw(t:bR):normal t.a4=normal t:=by unfold normal;rw[xW];congr 1;exact XL t.ns t.ns
def XM:∀ (ds:List an) (i:Nat) (gX:List Int),vZ i (ds.map an.a4) gX=vZ i ds gX
 |[],i,gX=>rfl| d::ds,i,gX=>by rw[cb,vZ,vZ,XM ds];rfl
def ajx(t:bR):depth t.a4=depth t:=by unfold depth;rw[xW];simp only[bR.a4,XM,bF]
def ajy(t:bR):pA t.a4=pA t:=by unfold pA;rw[xW,ajx];rfl
def HA{α:Type}{z:α}{f g:an->(Int->α)->α}(h:∀ d q,f d.a4 q=g d q):∀ (ds:List an) (a6:List α),gC z f (ds.map an.a4) a6=gC z g ds a6
 |[],a6=>rfl| d::ds,a6=>by rw[cb,gC,gC,h,HA h ds]
def ajz(aw:List Int)(ns:List an)(k:Int):kW aw (ns.map an.a4) k=kW aw ns k:=by unfold kW mo;rw[HA (g:=DH aw ns) (λd q=>?_)];show rB aw d++(uM (DG d) (λk=>paren (hv d.k (iB (ns.map an.a4) k)) (q k)) false d.ax++pG d)=_;simp only[XJ];rfl
def ajA(aw:List Int)(t:bR):nB aw t.a4=nB aw t:=by unfold nB;rw[xW];have:kW aw t.a4.ns t.a4.bA=kW aw t.ns t.bA:=ajz aw t.ns t.bA;rw[this]
def ajB(aw:List Int)(d:aQ):qv aw d.a4=qv aw d:=by unfold qv;have:nB aw d.a4.t=nB aw d.t:=ajA aw d.t;rw[this];rfl
def XN(aw:List Int):∀ (ds:List aQ) (a6:List UInt8),qw aw (ds.map aQ.a4) a6=qw aw ds a6
 |[],a6=>rfl| d::ds,a6=>by rw[cb,qw,qw,ajB,XN aw ds]
def ajC(g:cx):uU g.a4=uU g:=by unfold uU cx.a4;rw[gO];congr 1;refine gM λd _=>?_;show sA d.t.a4=sA d.t;unfold sA;rw[xW];rfl
def XO{q:aQ->Bool}(h:∀ d,q d.a4=q d)(ds:List aQ):(ds.map aQ.a4).all q=ds.all q:=by rw[K0];congr 1;funext d;exact h d
def ajD(aw:List Int)(g:cx):oN aw g.a4=oN aw g:=by unfold oN;rw[ajC];have aa:(g.a4.ds.all λd=>pA d.t)=g.ds.all λd=>pA d.t:=XO (λd=>ajy d.t) g.ds;have ab:qw aw g.a4.ds []=qw aw g.ds []:=XN aw g.ds [];rw[aa,ab];rfl
def ajE(ds:List aQ):nF (ds.map aQ.a4)=nF ds:=XO (q:=λd=>ny d.name&&normal d.t) (λd=>by
 show(ny d.name&&normal d.t.a4)=_;rw[ajw]) ds
def XP:∀ (ds:List aQ) (a6:List (ByteArray×Int)) (i:Nat),lS a6 i (ds.map aQ.a4)=lS a6 i ds
 |[],a6,i=>rfl| d::ds,a6,i=>by rw[cb,lS,lS];show(bif (ev d.name a6).isSome then none else lS (a6++[(d.name,(i:Int))]) (i+1) (ds.map aQ.a4))=_;rw[XP ds]
def XQ:∀ (ds:List aQ) (i:Nat),qz i (ds.map aQ.a4)=(qz i ds).map λp=>(p.1,p.2.a4)
 |[],i=>rfl| d::ds,i=>by rw[cb,qz,qz,XQ ds,cP,gO];show(d.t.ns.map an.a4).map (λn=>(i,n))++_=_;rw[gO];rfl
def ajF(a6:List (ByteArray×Int))(ds:List aQ):rF a6 (ds.map aQ.a4)=rF a6 ds:=by unfold rF;rw[XQ,K0];rfl
def zJ(aw:List Int)(g:cx):dm aw g.a4=dm aw g:=by unfold dm;rw[ajD];have aa:nF g.a4.ds=nF g.ds:=ajE g.ds;have ab:lS [] 0 g.a4.ds=lS [] 0 g.ds:=XP g.ds [] 0;have ak:∀ a6,rF a6 g.a4.ds=rF a6 g.ds:=λa6=>ajF a6 g.ds;rw[aa,ab];simp only[ak];rfl
def XR(ns:List an)(j:Nat):(nodeAt (ns.map an.a4) j).a4=(nodeAt ns j).a4:=by
 unfold nodeAt;simp only[bz,iG];cases ns[j]?<;>rfl
def XS(ns:List an)(j:Nat):(nodeAt (ns.map an.a4) j).ax=(nodeAt ns j).ax:=by have h:=congrArg an.ax (XR ns j);exact h
def XT(ns:List an):∀ (f:Nat) (todo b:List Int),tB (ns.map an.a4) f todo b=tB ns f todo b
 |0,todo,b=>rfl
 |f+1,todo,b=>by
  unfold tB;cases todo.getLast? with
  |none=>rfl| some n=>simp only;rw[XS,XT ns f]
def XU(d:an)(l:List Int):d.a4.eC l=d.eC l:=rfl
def ajG(ns:List an):BT (ns.map an.a4)=BT ns:=by funext aY b;unfold BT;rw[XS,<-XU (nodeAt (ns.map an.a4) b.toNat),XR,XU]
def XV(ns:List an)(node:Int):rI (ns.map an.a4) node=rI ns node:=by unfold rI zE;rw[ajG,XT,bF]
def XW(pl:List (ByteArray×Int))(bj:List aU):∀ (ds:List an) (a6:List aU),eo pl bj (ds.map an.a4) a6=eo pl bj ds a6
 |[],a6=>rfl| d::ds,a6=>by rw[cb,eo,eo,XW pl bj ds];rfl
def XX:∀ (ds:List aQ) (a6:List (ByteArray×Int)) (i:Nat),n4 a6 i (ds.map aQ.a4)=n4 a6 i ds
 |[],a6,i=>rfl| d::ds,a6,i=>by rw[cb,n4,n4,XX ds];rfl
def Eb(ds:List aQ):bD (ds.map aQ.a4)=bD ds:=XX ds [] 0
def K6(pl:List (ByteArray×Int))(bj:List aU)(d:aQ):ie pl bj d.a4=ie pl bj d:=by unfold ie;have:eo pl bj d.a4.t.ns []=eo pl bj d.t.ns []:=XW pl bj d.t.ns [];rw[this];rfl
def ajH{ds:List aQ}{l:List aU}(h:jM ds l):jM (ds.map aQ.a4) l:=by
 refine⟨by rw[h.len,bF],λi hi=>?_,λm hm ap=>?_⟩
 ·have cX:i<ds.length:=by simpa using hi
  rw[Eb,g7,K6];exact h.fix i cX
 ·refine h.least m (by rw[hm,bF]) λi hi=>?_;have:=ap i (by simpa using hi);rwa [Eb,g7,K6]at this
def my(l:List an):bR:=⟨l,none,l.length,0,(l.length:Int)-1⟩
structure XY(I:aI)(t:bR)(l:List an):Prop where
 ok:t.ok I
 a4:t.ns.map an.a4=l
 bA:t.bA=(l.length:Int)-1
def XY.len{t:bR}{l:List an}(h:XY I t l):t.n=l.length:=by rw[<-h.ok.n,<-h.a4,bF]
def eO(ns:List an):List Int:=ns.flatMap (·.ax)
def hO(l:List Int):Prop:=l.Pairwise (·≠·)
def Ec(s:List Bool)(l:List Int):Prop:=∀ j,s.getD j false=true ↔ ((j:Int)∈l/\j<s.length)
def XZ{i:Nat}:∀ {ks seen:List Int} {s:List Bool},i<=s.length->Ec s seen->hO seen -> ((∃ b3,kU i ks s=some b3) ↔ ((∀ k∈ks,0<=k/\k<i)/\hO (seen++ks)))/\∀ b3,kU i ks s=some b3->b3.length=s.length/\Ec b3 (seen++ks)
 |[],seen,s,hi,hm,aj=>by refine⟨⟨λ_=>⟨λk ae=>by(cases ae),by simpa using aj⟩,λ_=>⟨s,rfl⟩⟩,λb3 h=>?_⟩;simp only[kU,kk]at h;subst h;exact⟨rfl,by simpa using hm⟩
 |k::ks,seen,s,hi,hm,aj=>by
  unfold kU;cases ag:decide (k<0)||(decide ((i:Int)<=k)||s.getD k.toNat false)with
  |true=>
   refine⟨⟨λ⟨b3,h⟩=>(by cases h),λ⟨aa,ab⟩=>?_⟩,λb3 h=>by cases h⟩;exfalso;have ak:=aa k (.head _);simp only[kQ,hR]at ag;rcases ag with ag | ag | ag;·omega
   ·omega
   ·have:=(hm _).1 ag;rw[ze ak.1]at this;exact(rM.1 ab).2.2 k this.1 k (.head _) rfl
  |false=>
   simp only[sq,sb]at ag;obtain⟨b1,b0,cD⟩:=ag;have ae:k.toNat<s.length:=by omega
   have eW:k ∉ seen:=λh=>by have:=(hm k.toNat).2 ⟨by rw[ze (by omega)];exact h,ae⟩;rw[cD]at this;cases this
   have sf:Ec (s.set k.toNat true) (seen++[k]):=λj=>by
    have:=hm j;simp only[bz,ia,oP,cE,ek]at this |-;by_cases e:k.toNat=j;·subst e;rw[bQ rfl,bQ ae];simp only[jV,true_iff];exact⟨.inr (by omega),ae⟩
    ·rw[bU e,this];constructor
     ·rintro⟨aa,ab⟩;exact⟨.inl aa,ab⟩
     ·rintro⟨aa | aa,ab⟩
      ·exact⟨aa,ab⟩
      ·omega
   have fy:hO (seen++[k]):=rM.2 ⟨aj,by simp,λa a2 b ag e=>by
    simp only[ek]at ag;subst ag;subst e;exact eW a2⟩
   have aN:=XZ (i:=i) (ks:=ks) (seen:=seen++[k]) (s:=s.set k.toNat true) (by simpa using hi) sf fy;simp only[b'];rw[dT,rL]at aN;refine⟨aN.1.trans ⟨λ⟨aa,ab⟩=>⟨λx ad=>?_,ab⟩,λ⟨aa,ab⟩=>⟨λx ad=>aa x (.tail _ ad),ab⟩⟩,λb3 h=>?_⟩
   ·rcases ee.1 ad with rfl | ad
    ·omega
    ·exact aa x ad
   ·have:=aN.2 b3 h;simpa using this
def X0:∀ {ds:List an} {i:Nat} {seen:List Int} {s:List Bool},i+ds.length<=s.length->Ec s seen->hO seen -> ((∃ b3,jt i ds s=some b3) ↔ ((∀ j (h:j<ds.length),fits ds[j] ds[j].ax.length=true/\∀ k∈ds[j].ax,0<=k/\k<i+j)/\hO (seen++eO ds)))/\∀ b3,jt i ds s=some b3->b3.length=s.length/\Ec b3 (seen++eO ds)
 |[],i,seen,s,hi,hm,aj=>by refine⟨⟨λ_=>⟨λj ai=>by simp at ai,by simpa[eO]using aj⟩,λ_=>⟨s,rfl⟩⟩,λb3 h=>?_⟩;simp only[jt,kk]at h;subst h;exact⟨rfl,by simpa[eO]using hm⟩
 |d::ds,i,seen,s,hi,hm,aj=>by
  unfold jt;have ae:=XZ (i:=i) (ks:=d.ax) (by simp at hi;omega) hm aj;have gq:eO (d::ds)=d.ax++eO ds:=rfl;cases aA:fits d d.ax.length with
  |false=>refine⟨⟨λ⟨b3,h⟩=>(by cases h),λ⟨aa,ab⟩=>?_⟩,λb3 h=>by cases h⟩;have:=(aa 0 (by simp)).1;simp only[uq]at this;rw[aA]at this;cases this
  |true=>
   simp only[ca];cases aP:kU i d.ax s with
   |none=>
    refine⟨⟨λ⟨b3,h⟩=>(by cases h),λ⟨aa,ab⟩=>?_⟩,λb3 h=>by cases h⟩;exfalso;have:∃ b3,kU i d.ax s=some b3:=ae.1.2 ⟨λk ae=>by
     have:=(aa 0 (by simp)).2 k ae;omega,by
     rw[gq,<-dT]at ab;exact(rM.1 ab).1⟩
    obtain⟨b3,h⟩:=this;rw[aP]at h;cases h
   |some s1=>
    obtain⟨ajI,c5⟩:=ae.2 s1 aP;obtain⟨iO,d1⟩:=ae.1.1 ⟨s1,aP⟩;have aN:=X0 (ds:=ds) (i:=i+1) (seen:=seen++d.ax) (s:=s1) (by simp at hi;omega) c5 d1;rw[dT,<-gq]at aN;simp only;refine⟨aN.1.trans ⟨λ⟨aa,ab⟩=>⟨λj ai=>?_,ab⟩,λ⟨aa,ab⟩=>⟨λj ai=>?_,ab⟩⟩,λb3 h=>?_⟩
    ·cases j with
     |zero=>exact⟨aA,λk ae=>by have:=iO k ae;omega⟩| succ j=>have:=aa j (by simpa using ai);refine⟨this.1,λk ae=>?_⟩;have:=this.2 k ae;omega
    ·have:=aa (j+1) (by simpa using ai);refine⟨this.1,λk ae=>?_⟩;have:=this.2 k ae;omega
    ·have:=aN.2 b3 h;exact⟨this.1.trans ajI,this.2⟩
def ajJ(n:Nat):Ec (List.replicate n false) []:=λj=>by
 by_cases h:j<n<;>simp[bz,PY,h]
structure hP(t:bR):Prop where
 bA:0<=t.bA/\t.bA<t.ns.length
 fits:∀ j (h:j<t.ns.length),fits t.ns[j] t.ns[j].ax.length=true
 ax:∀ j (h:j<t.ns.length),∀ k∈t.ns[j].ax,0<=k/\k<j
 diff:hO (eO t.ns)
 all:∀ j:Nat,j<t.ns.length->((j:Int)∈eO t.ns ↔ (j:Int)≠t.bA)
def oZ{t:bR}:right t=true ↔ hP t:=by
 have h:=X0 (ds:=t.ns) (i:=0) (seen:=[]) (s:=List.replicate t.ns.length false) (by simp) (ajJ _) (by simp[hO]);simp only[iq,db,sm]at h;unfold right;constructor
 ·intro af;simp only[cB,hR]at af;obtain⟨iO,n3,qD⟩:=af;split at qD
  ·rename_i s ar;obtain⟨dG,eI⟩:=h.1.1 ⟨s,ar⟩;obtain⟨c5,m2⟩:=h.2 s ar;refine⟨⟨iO,n3⟩,λj ai=>(dG j ai).1,λj ai k ae=>(by have:=(dG j ai).2 k ae;omega),eI,λj ai=>?_⟩;have ag:(s.getD j false == decide (((0+j:Nat):Int)=t.bA))=false:=by
    cases ag:(s.getD j false == decide (((0+j:Nat):Int)=t.bA))with
    |false=>rfl| true=>have:=PG (by omega) ag;rw[this]at qD;cases qD
   rw[db]at ag;have hm:=m2 j;constructor;·intro ad e;have:=hm.2 ⟨ad,by omega⟩;rw[this,fu e]at ag;cases ag
   ·intro bn;rw[eB bn]at ag;have:s.getD j false=true:=by
     revert ag;cases s.getD j false<;>simp
    exact(hm.1 this).1
  ·cases qD
 ·intro af;obtain⟨s,ar⟩:=h.1.2 ⟨λj ai=>⟨af.fits j ai,λk ae=>by have:=af.ax j ai k ae;omega⟩,af.diff⟩;obtain⟨c5,m2⟩:=h.2 s ar;rw[ar];simp only[cB,hR];refine⟨af.bA.1,af.bA.2,W8 λj ai=>?_⟩;rw[db];have a2:=af.all j (by omega);have hm:=m2 j;by_cases e:(j:Int)=t.bA
  ·have aA:s.getD j false=false:=by
    cases ag:s.getD j false with
    |false=>rfl| true=>exact absurd e (a2.1 (hm.1 ag).1)
   rw[aA,fu e];rfl
  ·have:=hm.2 ⟨a2.2 e,by omega⟩;rw[this,eB e];rfl
def hP.node{t:bR}(af:hP t){j:Nat}(ai:j<t.ns.length){k:Int}(ae:k∈(nodeAt t.ns j).ax):0<=k/\k<j:=by rw[gD ai]at ae;exact af.ax j ai k ae
def hP.two{t:bR}(af:hP t){i j:Nat}(hi:i<t.ns.length)(ai:j<t.ns.length)(bn:i≠j){k:Int}(aa:k∈(nodeAt t.ns i).ax)(ab:k∈(nodeAt t.ns j).ax):False:=by
 rw[gD hi]at aa;rw[gD ai]at ab;have:=(Hu.1 af.diff).2;rw[PX]at this;rcases Nat.lt_or_gt_of_ne bn with h | h
 ·exact this i j hi ai h k aa k ab rfl
 ·exact this j i ai hi h k ab k aa rfl
def hP.ajK{t:bR}(af:hP t){j:Nat}(ai:j<t.ns.length):hO (nodeAt t.ns j).ax:=by rw[gD ai];exact(Hu.1 af.diff).1 _ (bx ai)
def Ed(ns:List an):Nat->Int->List Int
 |0,_=>[]| f+1,n=>(nodeAt ns n.toNat).ax.flatMap (Ed ns f)++[n]
def jN(ns:List an)(n:Int):List Int:=Ed ns (n.toNat+1) n
def rP{α β:Type}{f g:α->List β}:∀ {l:List α},(∀ x∈l,f x=g x)->l.flatMap f=l.flatMap g
 |[],_=>rfl| a::l,h=>by rw[kr,kr,h a (.head _),rP λx ad=>h x (.tail _ ad)]
section
variable{t:bR}(af:hP t)
include af
theorem ajL:∀ (f j:Nat),j<t.ns.length->j<f->Ed t.ns f j=jN t.ns j:=by
 intro f
 induction f using Nat.strongRecOn with
 |_ f aN=>
  intro j ai aA
  match f,aA,aN with
  |f+1,aA,aN=>unfold jN;rw[Ed,Ed];congr 1;refine rP λk ae=>?_;obtain⟨az,aa⟩:=af.node ai ae;obtain⟨k,rfl⟩:=eA az;have aG:=aN f (by omega) k (by omega) (by omega);have a7:=aN j (by omega) k (by omega) (by omega);exact aG.trans a7.symm
theorem pN{j:Nat}(ai:j<t.ns.length):jN t.ns j=(nodeAt t.ns j).ax.flatMap (jN t.ns)++[(j:Int)]:=by unfold jN;rw[Ed];congr 1;refine rP λk ae=>?_;obtain⟨az,aa⟩:=af.node ai ae;obtain⟨k,rfl⟩:=eA az;exact ajL af _ k (by omega) (by omega)
theorem B0:∀ (j:Nat),j<t.ns.length->∀ x∈jN t.ns j,(0<=x/\x<=j)/\(x=j\/∃ y:Nat,(y:Int)∈jN t.ns j/\y<t.ns.length/\x∈(nodeAt t.ns y).ax):=by
 intro j
 induction j using Nat.strongRecOn with
 |_ j aN=>
  intro ai x ad;rw[pN af ai]at ad;rcases cE.1 ad with ad | ad
  ·obtain⟨k,ae,ad⟩:=hy.1 ad;obtain⟨az,aa⟩:=af.node ai ae;obtain⟨k,rfl⟩:=eA az;obtain⟨b,c⟩:=aN k (by omega) (by omega) x ad;refine⟨by omega,.inr ?_⟩;rcases c with rfl | ⟨y,aE,Ke,P5⟩
   ·exact⟨j,by rw[pN af ai];simp,ai,ae⟩
   ·exact⟨y,by rw[pN af ai];exact cE.2 (.inl (hy.2 ⟨k,ae,aE⟩)),Ke,P5⟩
  ·simp only[ek]at ad;subst ad;exact⟨by omega,.inl rfl⟩
theorem ajM{j:Nat}(ai:j<t.ns.length){a b:Nat}(a2:(a:Int)∈(nodeAt t.ns j).ax)(ag:(b:Int)∈(nodeAt t.ns j).ax)(bn:a≠b):∀ (m:Nat) (x:Int),x∈jN t.ns a->x∈jN t.ns b->t.ns.length-x.toNat<=m->False:=by
 have aa:=af.node ai a2;have ab:=af.node ai ag;intro m
 induction m with
 |zero=>intro x P6 ky hm;have:=(B0 af a (by omega) x P6).1;omega
 |succ m aN=>
  intro x P6 ky hm;obtain⟨auz,ajN⟩:=B0 af a (by omega) x P6;obtain⟨auA,X1⟩:=B0 af b (by omega) x ky;rcases ajN with rQ | ⟨Ee,X2,P7,P8⟩
  ·rcases X1 with K7 | ⟨P9,gZ,P',Qa⟩
   ·omega
   ·have:=(B0 af b (by omega) P9 gZ).1;subst rQ;exact af.two ai P' (by omega) a2 Qa
  ·rcases X1 with K7 | ⟨P9,gZ,P',Qa⟩
   ·have:=(B0 af a (by omega) Ee X2).1;subst K7;exact af.two ai P7 (by omega) ag P8
   ·by_cases e:Ee=P9
    ·subst e;have:=af.node P7 P8;exact aN Ee X2 gZ (by omega)
    ·exact af.two P7 P' e P8 Qa
theorem ajO:∀ (j:Nat),j<t.ns.length->hO (jN t.ns j):=by
 intro j
 induction j using Nat.strongRecOn with
 |_ j aN=>
  intro ai;rw[pN af ai];have cO:=af.ajK ai;refine rM.2 ⟨Hu.2 ⟨λk ae=>?_,?_⟩,by simp,λx ad y aE=>?_⟩;·obtain⟨az,aa⟩:=af.node ai ae;obtain⟨k,rfl⟩:=eA az;exact aN k (by omega) (by omega)
  ·refine cO.imp_of_mem ?_;intro a b a2 ag bn x ad y aE e;subst e;obtain⟨az,aa⟩:=af.node ai a2;obtain⟨ab,ak⟩:=af.node ai ag;obtain⟨a,rfl⟩:=eA az;obtain⟨b,rfl⟩:=eA ab;exact ajM af ai a2 ag (by intro e;subst e;exact bn rfl) _ x ad aE (cc _)
  ·simp only[ek]at aE;subst aE;obtain⟨k,ae,ad⟩:=hy.1 ad;obtain⟨az,aa⟩:=af.node ai ae;obtain⟨k,rfl⟩:=eA az;have:=(B0 af k (by omega) x ad).1;omega
def pO(ns:List an)(l:List Int):Prop:=∀ i (h:i<l.length),∀ k∈(nodeAt ns (l[i]).toNat).ax,k∈l.take i
omit af in
theorem pO.append{ns:List an}{l m:List Int}(h:pO ns l)(bd:pO ns m):pO ns (l++m):=by
 intro i hi k ae;by_cases ay:i<l.length
 ·rw[zt ay]at ae;rw[A9 (by omega)];exact h i ay k ae
 ·rw[D5 (by omega)]at ae;have:=bd (i-l.length) (by simp at hi;omega) k ae;rw[Hw,ft (by omega)];exact cE.2 (.inr this)
omit af in
theorem pO.flat{ns:List an}{f:Int->List Int}:∀ {ks:List Int},(∀ k∈ks,pO ns (f k))->pO ns (ks.flatMap f)
 |[],_=>λi h=>by simp at h
 |k::ks,h=>by rw[kr];exact(h k (.head _)).append (pO.flat λx ad=>h x (.tail _ ad))
theorem ajP{j:Nat}(ai:j<t.ns.length):(j:Int)∈jN t.ns j:=by rw[pN af ai];simp
theorem ajQ:∀ (j:Nat),j<t.ns.length->pO t.ns (jN t.ns j):=by
 intro j
 induction j using Nat.strongRecOn with
 |_ j aN=>
  intro ai;have ae:∀ k∈(nodeAt t.ns j).ax,∃ q:Nat,k=q/\q<j:=λk ae=>by obtain⟨az,aa⟩:=af.node ai ae;exact⟨k.toNat,by omega,by omega⟩
  have aa:pO t.ns ((nodeAt t.ns j).ax.flatMap (jN t.ns)):=pO.flat λk iP=>by obtain⟨q,rfl,aP⟩:=ae k iP;exact aN q aP (by omega)
  rw[pN af ai];intro i hi k pP;by_cases ay:i<((nodeAt t.ns j).ax.flatMap (jN t.ns)).length;·rw[zt ay]at pP;rw[A9 (by omega)];exact aa i ay k pP
  ·rw[D5 (by omega)]at pP;have e:i-((nodeAt t.ns j).ax.flatMap (jN t.ns)).length=0:=by simp only[cm,dx,fL]at hi;omega
   simp only[e,uq,gl]at pP;rw[Hw,ft (by omega)];refine cE.2 (.inl (hy.2 ⟨k,pP,?_⟩));obtain⟨q,rfl,aP⟩:=ae k pP;exact ajP af (by omega)
theorem ajR:∀ (j:Nat),j<t.ns.length->(jN t.ns j).length=m3 t.ns j:=by
 intro j
 induction j using Nat.strongRecOn with
 |_ j aN=>
  intro ai;rw[pN af ai,Hm (oZ.2 af) ai,<-gD ai];simp only[cm,xT,dx,fL,gY];have:(nodeAt t.ns j).ax.map (λa=>(jN t.ns a).length)=(nodeAt t.ns j).ax.map (m3 t.ns):=gM λk ae=>by obtain⟨az,aa⟩:=af.node ai ae;obtain⟨k,rfl⟩:=eA az;exact aN k (by omega) (by omega)
  rw[this];omega
theorem X3:∀ (f:Nat) (todo b:List Int),(∀ k∈todo,0<=k/\k<t.ns.length)->(todo.map λn=>(jN t.ns n).length).sum<=f->tB t.ns f todo b=b++todo.reverse.flatMap (λn=>(jN t.ns n).reverse)
 |0,todo,b,ah,aA=>by
  rcases vY todo with h | ⟨r,p,h⟩;·subst h;simp[tB]
  ·subst h;obtain⟨az,aa⟩:=ah p (by simp);obtain⟨p,rfl⟩:=eA az;have:=congrArg List.length (pN af (j:=p) (by omega));simp at aA this;have ab:(jN t.ns (p:Int)).length=0:=by rw[aA.2];rfl
   omega
 |f+1,todo,b,ah,aA=>by
  rcases vY todo with h | ⟨r,p,h⟩;·subst h;rw[Xe];simp
  ·rw[List.concat_eq_append]at h;subst h;obtain⟨az,aa⟩:=ah p (by simp);obtain⟨p,rfl⟩:=eA az;have aC:p<t.ns.length:=by omega
   have he:=pN af aC;have ay:=congrArg List.length he;simp only[cm,xT,dx,fL]at ay;have jZ:∀ k∈r++(nodeAt t.ns p).ax,0<=k/\k<t.ns.length:=λk ae=>by
    rcases cE.1 ae with ae | ae;·exact ah k (by simp[ae])
    ·have:=af.node aC ae;omega
   have vT:((r++(nodeAt t.ns p).ax).map λn=>(jN t.ns n).length).sum<=f:=by simp only[cP,uD,cb,hr,jK,Dy]at aA |-;omega
   rw[Xf,gl,X3 f _ _ jZ vT];rw[xU,xU,hd,hd,zd,pK,he,xU,dT];congr 1;rw[<-dT];congr 1;simp[List.reverse_flatMap];rfl
theorem ajS{j:Nat}(ai:j<t.ns.length):(zE t.ns j).reverse=jN t.ns j:=by unfold zE;have aa:=ajR af j ai;have ab:=PH (oZ.2 af) t.ns.length j ai (by omega);rw[X3 af _ _ _ (λk ae=>by simp only[ek]at ae;omega) (by simp;omega)];simp
def u1(rb:List Int)(k:Int):Int:=(rb.idxOf k:Nat)
def zK(ns:List an)(rb:List Int)(b:Int):an:=(nodeAt ns b.toNat).eC ((nodeAt ns b.toNat).ax.map (u1 rb))
omit af in
theorem hO.idx{l:List Int}(h:hO l){i:Nat}(hi:i<l.length):l.idxOf l[i]=i:=by
 have aa:=List.idxOf_lt_length_of_mem (bx hi);have ab:=List.getElem_idxOf aa;have ak:=PX.1 h;rcases Nat.lt_trichotomy (l.idxOf l[i]) i with aJ | aJ | aJ
 ·exact absurd ab (ak _ _ aa hi aJ)
 ·exact aJ
 ·exact absurd ab.symm (ak _ _ hi aa aJ)
omit af in
theorem hO.nodup{l:List Int}(h:hO l){i j:Nat}(hi:i<l.length)(ai:j<l.length)(e:l[i]=l[j]):i=j:=by rw[<-h.idx hi,<-h.idx ai,e]
omit af in
theorem sub_fold{rb:List Int}(aj:hO rb)(aC:pO t.ns rb)(ah:∀ k∈rb,0<=k/\k<t.ns.length):∀ i,i<=rb.length->∃ P:List Int,(rb.take i).foldl (BT t.ns) (List.replicate t.ns.length 0,[])=(P,(rb.take i).map (zK t.ns rb))/\P.length=t.ns.length/\∀ q (h:q<rb.length),q<i->P.getD rb[q].toNat 0=(q:Int)
 |0,_=>⟨List.replicate t.ns.length 0,rfl,by simp,λq h aP=>by omega⟩
 |i+1,hi=>by
  obtain⟨P,aa,ab,ak⟩:=sub_fold aj aC ah i (by omega);have dI:i<rb.length:=by omega
  have auB:=ah _ (bx dI);have key:∀ q (h:q<rb.length),q<i+1->(P.set rb[i].toNat (i:Nat)).getD rb[q].toNat 0=(q:Int):=λq h aP=>by
   have Bg:=ah _ (bx h);by_cases e:q=i;·subst e;simp[bz,ia,show rb[q].toNat<P.length by omega]
   ·have bn:rb[i].toNat≠rb[q].toNat:=λcW=>e (aj.nodup h dI (by omega));have:=ak q h (by omega);simp only[bz,ia]at this |-;rw[bU bn];exact this
  refine⟨P.set rb[i].toNat (i:Nat),?_,by simpa using ab,key⟩;rw[fZ dI,rE,aa,cP];simp only[jn,KZ,BT,bF,hU,ud (Nat.le_of_lt dI),cb,hr];have:zK t.ns rb rb[i]=(nodeAt t.ns rb[i].toNat).eC ((nodeAt t.ns rb[i].toNat).ax.map λk=>(P.set rb[i].toNat (i:Nat)).getD k.toNat 0):=by unfold zK;congr 1;refine gM λk ae=>?_;have hm:=aC i dI k ae;obtain⟨q,aP,e⟩:=j9 hm;rw[hU]at aP;rw[List.getElem_take]at e;rw[<-e,key q (by omega) (by omega)];unfold u1;rw[aj.idx]
  rw[this]
theorem ajT{j:Nat}(ai:j<t.ns.length):rI t.ns j=(jN t.ns j).map (zK t.ns (jN t.ns j)):=by obtain⟨P,aa,-,-⟩:=sub_fold (ajO af j ai) (ajQ af j ai) (λk ae=>by have:=(B0 af j ai k ae).1;omega) (jN t.ns j).length (cc _);rw[Dh]at aa;unfold rI;rw[ajS af ai,aa]
end
structure eH where
 a:BitVec 64
 b:BitVec 64
 c:BitVec 64
 d:BitVec 64
 deriving DecidableEq
def eH.zero:eH:=⟨0,0,0,0⟩
def eH.or(x y:eH):eH:=⟨x.a ||| y.a,x.b ||| y.b,x.c ||| y.c,x.d ||| y.d⟩
def eH.and(x y:eH):eH:=⟨x.a &&& y.a,x.b &&& y.b,x.c &&& y.c,x.d &&& y.d⟩
def eH.sub(x y:eH):Bool:=decide (x.and y=x)
def eH.cells(x:eH):List Value:=[.int .u64 x.a.toNat,.int .u64 x.b.toNat,.int .u64 x.c.toNat,.int .u64 x.d.toNat]
structure lz where
 w:eH
 f:Bool
 deriving DecidableEq
def lz.cells(x:lz):List Value:=[.int .u64 x.w.a.toNat,.int .u64 x.w.b.toNat,.int .u64 x.w.c.toNat,.int .u64 x.w.d.toNat,.bool x.f]
def Qb:lz:=⟨.zero,false⟩
def eH.ext'{x y:eH}(aa:x.a=y.a)(ab:x.b=y.b)(ak:x.c=y.c)(aJ:x.d=y.d):x=y:=by obtain⟨a,b,c,d⟩:=x;obtain⟨bM,iI,c',ig⟩:=y;simp only at aa ab ak aJ;subst aa ab ak aJ;rfl
def eH.or_assoc(x y z:eH):(x.or y).or z=x.or (y.or z):=by simp only[eH.or,BitVec.or_assoc]
def eH.or_comm(x y:eH):x.or y=y.or x:=by simp only[eH.or,BitVec.or_comm]
def eH.or_self(x:eH):x.or x=x:=by simp[eH.or]
def eH.zero_or(x:eH):eH.zero.or x=x:=by simp[eH.or,eH.zero]
def zL{x y:BitVec 64}:x &&& y=x ↔ x ||| y=y:=by
 constructor
 ·intro h;apply BitVec.eq_of_getElem_eq;intro i hi;have:=congrArg (λw:BitVec 64=>w[i]) h;simp only[BitVec.getElem_and,BitVec.getElem_or]at this |-;revert this;cases x[i]<;>cases y[i]<;>simp
 ·intro h;apply BitVec.eq_of_getElem_eq;intro i hi;have:=congrArg (λw:BitVec 64=>w[i]) h;simp only[BitVec.getElem_and,BitVec.getElem_or]at this |-;revert this;cases x[i]<;>cases y[i]<;>simp
def eH.K8{x y:eH}:x.sub y=true ↔ x.or y=y:=by
 unfold eH.sub;rw[hR];constructor
 ·intro h;have aa:=congrArg eH.a h;have ab:=congrArg eH.b h;have ak:=congrArg eH.c h;have aJ:=congrArg eH.d h;exact eH.ext' (zL.1 aa) (zL.1 ab) (zL.1 ak) (zL.1 aJ)
 ·intro h;have aa:=congrArg eH.a h;have ab:=congrArg eH.b h;have ak:=congrArg eH.c h;have aJ:=congrArg eH.d h;exact eH.ext' (zL.2 aa) (zL.2 ab) (zL.2 ak) (zL.2 aJ)
def eH.ajU(x:eH):x.sub x=true:=eH.K8.2 x.or_self
def eH.ajV{x y z:eH}(h:x.sub y=true)(bd:y.sub z=true):x.sub z=true:=by rw[eH.K8]at h bd |-;rw[<-bd,<-eH.or_assoc,h]
def eH.ajW{x y:eH}(h:x.sub y=true)(bd:y.sub x=true):x=y:=by rw[eH.K8]at h bd;exact bd.symm.trans ((eH.or_comm y x).trans h)
def eH.zero_sub(x:eH):eH.zero.sub x=true:=by rw[eH.K8,eH.zero_or]
structure lz.le(a b:lz):Prop where
 w:a.w.sub b.w=true
 f:a.f=true->b.f=true
def lz.le_refl(a:lz):a.le a:=⟨eH.ajU _,id⟩
def lz.le.trans{a b c:lz}(h:a.le b)(bd:b.le c):a.le c:=⟨eH.ajV h.w bd.w,λx=>bd.f (h.f x)⟩
def lz.le.antisymm{a b:lz}(h:a.le b)(bd:b.le a):a=b:=by
 have aa:=eH.ajW h.w bd.w;obtain⟨auC,ajX⟩:=a;obtain⟨auD,tJ⟩:=b;simp only at aa;subst aa;have aA:=h.f;have vT:=bd.f;cases ajX<;>cases tJ<;>simp_all
def lz.qF(a:lz):Qb.le a:=⟨eH.zero_sub _,λh=>by cases h⟩
def K9(x:BitVec 64):BitVec.ofInt 64 (x.toNat:Int)=x:=by rw[BitVec.ofInt_natCast,BitVec.ofNat_toNat,BitVec.setWidth_eq]
def X4(x:BitVec 64):IntKind.u64.wrap (x.toNat:Int)=(x.toNat:Int):=by have:=x.isLt;unfold IntKind.wrap;simp only[IntKind.bits,IntKind.signed];simp;omega
def ajY{x y:BitVec 64}:((x.toNat:Int) == (y.toNat:Int))=decide (x=y):=by rw[r6];simp[BitVec.toNat_eq];omega
structure Qc(α:Type) where
 le:α->α->Prop
 qF:α
 refl:∀ a,le a a
 trans:∀ {a b c},le a b->le b c->le a c
 X5:∀ {a b},le a b->le b a->a=b
 low:∀ a,le qF a
structure B1{α:Type}(O:Qc α)(l m:List α):Prop where
 len:l.length=m.length
 at':∀ i,O.le (l.getD i O.qF) (m.getD i O.qF)
section
variable{α:Type}{O:Qc α}
def B1.trans{a b c:List α}(h:B1 O a b)(bd:B1 O b c):B1 O a c:=⟨h.len.trans bd.len,λi=>O.trans (h.at' i) (bd.at' i)⟩
def B1.of{a b:List α}(ay:a.length=b.length)(h:∀ i,i<a.length->O.le (a.getD i O.qF) (b.getD i O.qF)):B1 O a b:=⟨ay,λi=>by
 by_cases hi:i<a.length
 ·exact h i hi
 ·have e:a.getD i O.qF=O.qF:=by simp[bz,qa (Nat.le_of_not_lt hi)]
  rw[e];exact O.low _⟩
section
end
end
def X6{α:Type}{p q:α->Bool}:∀ {l:List α},(∀ x∈l,p x=true->q x=true)->l.countP q<=l.countP p->∀ x∈l,q x=true->p x=true
 |[],_,_,x,ad,_=>by cases ad
 |y::l,h,bp,x,ad,aP=>by
  have hm:=List.countP_mono_left (p:=p) (q:=q) (l:=l) (λx ad=>h x (.tail _ ad));rw[List.countP_cons,List.countP_cons]at bp;have aE:=h y (.head _);have key:(q y=true->p y=true)/\l.countP q<=l.countP p:=by cases aC:p y<;>cases auE:q y<;>simp_all<;>omega
  rcases ee.1 ad with rfl | ad;·exact key.1 aP
  ·exact X6 (λx ad=>h x (.tail _ ad)) key.2 x ad aP
def HB(x:BitVec 64):Nat:=(List.range 64).countP λi=>!x.getLsbD i
def ajZ{x y:BitVec 64}(h:x &&& y=x):HB y<=HB x/\(HB x<=HB y->x=y):=by
 have ag:∀ i,x.getLsbD i=true->y.getLsbD i=true:=λi ad=>by have:=congrArg (λw:BitVec 64=>w.getLsbD i) h;simp only[P0,ad,nW]at this;exact this
 have aC:∀ i∈List.range 64,(!y.getLsbD i)=true->(!x.getLsbD i)=true:=λi _ hi=>by
  have aa:=ag i;cases ad:x.getLsbD i with
  |false=>rfl| true=>rw[aa ad]at hi;cases hi
 refine⟨List.countP_mono_left aC,λbp=>?_⟩;have:=X6 aC bp;apply PZ;intro i hi;have aa:=ag i;have ab:=this i (g'.2 hi);cases ad:x.getLsbD i<;>cases aE:y.getLsbD i<;>simp_all
def X7:Qc lz:=⟨lz.le,Qb,lz.le_refl,λh bd=>h.trans bd,λh bd=>h.antisymm bd,lz.qF⟩
def auF.map{f g:α->lz}{l:List α}(h:∀ x∈l,(f x).le (g x)):B1 X7 (l.map f) (l.map g):=.of (by simp) λi hi=>by
 have cX:i<l.length:=by simpa using hi
 have:=h _ (bx cX);simpa[bz,cX]using(show X7.le _ _ from this)
structure Ef(x:aU)(k:lz):Prop where
 z:x.z=true->k.f=true
 s:x.s=true->k.w≠.zero
def Ef.none(k:lz):Ef bY k:=⟨λh=>(by cases h),λh=>(by cases h)⟩
inductive zM:List aU->List lz->Prop
 |nil:zM [] []| cons {x k l m} (h:Ef x k) (t:zM l m):zM (x::l) (k::m)
def zM.head{l:List aU}{m:List lz}(h:zM l m):Ef (l.headD bY) (m.headD Qb):=by
 cases h with
 |nil=>exact Ef.none _| cons h t=>exact h
def zM.map{α:Type}{f:α->aU}{g:α->lz}:∀ {l:List α},(∀ x∈l,Ef (f x) (g x))->zM (l.map f) (l.map g)
 |[],_=>.nil| x::l,h=>.cons (h x (.head _)) (zM.map λy aE=>h y (.tail _ aE))
structure K'(t:bR)(k:Int)(bm:bR):Prop where
 a4:bm.ns.map an.a4=rI t.ns k
 bA:bm.bA=(bm.ns.length:Int)-1
def jO:List (aU×List Nat)->List Nat
 |[]=>[]| x::xs=>x.2++bif x.1.z then jO xs else []
def kb(pl:List (ByteArray×Int))(d:an)(xs:List (aU×List Nat)):List Nat:=
 bif decide (d.k=3)then [((ev d.t pl).getD 0).toNat]else
 bif decide (d.k=4)then jO xs else
 bif decide (d.k=6)&&decide (d.hi=0)then []else xs.flatMap (·.2)
def qG(pl:List (ByteArray×Int))(F:List aU)(d:an)(xs:List (aU×List Nat)):aU×List Nat:=
 (gP d (xs.map (·.1)++bif decide (d.k=3)then [F.getD ((ev d.t pl).getD 0).toNat bY]else []),kb pl d xs)
def ga(pl:List (ByteArray×Int))(F:List aU)(ns:List an)(j:Int):aU×List Nat:=mo (bY,[]) (λd g=>qG pl F d (d.ax.map g)) ns j
def Qd{pl:List (ByteArray×Int)}{F:List aU}{t:bR}(af:right t=true){j:Nat}(ai:j<t.ns.length):ga pl F t.ns j=qG pl F t.ns[j] (t.ns[j].ax.map (ga pl F t.ns)):=
 Dz (λd g dJ h=>by rw[gM h]) af ai
def aj0(pl:List (ByteArray×Int))(F:List aU)(ns:List an)(j:Int):ga pl F (ns.map an.a4) j=ga pl F ns j:=by unfold ga mo;rw[HA (f:=λd g=>qG pl F d (d.ax.map g)) (g:=λd g=>qG pl F d (d.ax.map g)) (λd q=>rfl)]
def X8(a6:List (aU×List Nat))(i:Nat):(a6.getD i (bY,[])).1=(a6.map (·.1)).getD i bY:=by
 simp only[bz,iG];cases a6[i]?<;>rfl
def X9(pl:List (ByteArray×Int))(F:List aU):∀ (ds:List an) (a6:List (aU×List Nat)),(gC (bY,[]) (λd g=>qG pl F d (d.ax.map g)) ds a6).map (·.1)=eo pl F ds (a6.map (·.1))
 |[],a6=>rfl
 |d::ds,a6=>by
  have aG:(qG pl F d (d.ax.map λk=>a6.getD k.toNat (bY,[]))).1=gP d (sG pl F (a6.map (·.1)) d):=by unfold qG sG;simp only[gO,Function.comp_def,X8]
  have aa:=X9 pl F ds (a6++[qG pl F d (d.ax.map λk=>a6.getD k.toNat (bY,[]))]);rw[cP,cb,hr,aG]at aa;rw[gC,aa,eo]
def Qe(pl:List (ByteArray×Int))(F:List aU)(ns:List an)(j:Int):(ga pl F ns j).1=(eo pl F ns []).getD j.toNat bY:=by have h:=X9 pl F ns [];unfold ga mo;rw[X8,h];rfl
abbrev dt:=BitVec 64
def lA(k:Nat):dt:=1#64 <<< k
def La{k i:Nat}(hi:i<64):(lA k).getLsbD i=decide (i=k):=by
 unfold lA;rw[BitVec.getLsbD_shiftLeft];simp only[hi,Ks,nW];by_cases h:i<k
 ·have bn:¬ i=k:=by omega
  simp[h,bn]
 ·simp only[h,decide_false,Bool.not_false,nW];by_cases e:i=k
  ·subst e;simp
  ·rw[eB e];have ab:0<i-k:=by omega
   rw[BitVec.getLsbD_one];simp;omega
def aj1(l:List Nat):∀ (w:dt) {i:Nat},i<64->(l.foldl (λw k=>w ||| lA k) w).getLsbD i=(w.getLsbD i||l.contains i):=by
 induction l with
 |nil=>intro w i hi;simp| cons k l aN=>intro w i hi;rw[jn,aN _ hi,BZ,La hi,List.contains_cons,Bool.or_assoc];rfl
def m4(m:List dt):Nat->Nat->dt->dt
 |_,0,w=>w| k,f+1,w=>m4 m (k+1) f (bif w.getLsbD k then w ||| m.getD k 0 else w)
def rR(m:List dt):List dt:=(List.range 64).map λi=>m4 m 0 64 (m.getD i 0)
inductive qH(m:List dt):Nat->Nat->Prop
 |one{i k}(ae:k<64)(h:(m.getD i 0).getLsbD k=true):qH m i k| step {i j k} (h:(m.getD i 0).getLsbD j=true) (ai:j<64) (t:qH m j k):qH m i k
def qH.trans{m:List dt}{i j k:Nat}(h:qH m i j)(bd:qH m j k):qH m i k:=by
 induction h with
 |one ae h=>exact .step h ae bd| step h ai t aN=>exact .step h ai (aN bd)
def jP(x y:dt):Prop:=∀ i,i<64->x.getLsbD i=true->y.getLsbD i=true
def jP.refl(x:dt):jP x x:=λ_ _ h=>h
def jP.trans{x y z:dt}(h:jP x y)(bd:jP y z):jP x z:=λi hi ad=>bd i hi (h i hi ad)
def jP.or(x y:dt):jP x (x ||| y):=λi hi h=>by rw[BZ,h];rfl
def jP.or'(x y:dt):jP y (x ||| y):=λi hi h=>by rw[BZ,h,D7]
def jP.X5{x y:dt}(h:jP x y)(bd:jP y x):x=y:=PZ λi hi=>by
 have aa:=h i hi;have ab:=bd i hi;cases ad:x.getLsbD i<;>cases aE:y.getLsbD i<;>simp_all
def jP.and{x y:dt}(h:jP x y):x &&& y=x:=PZ λi hi=>by
 have aa:=h i hi;rw[P0];cases ad:x.getLsbD i<;>simp_all
def HC(m:List dt):∀ (f k:Nat) (w:dt),jP w (m4 m k f w)
 |0,k,w=>jP.refl w
 |f+1,k,w=>by
  rw[m4];cases w.getLsbD k with
  |true=>exact(jP.or _ _).trans (HC m f (k+1) _)| false=>exact HC m f (k+1) _
def Qf{m:List dt}{P:Nat->Prop}(hm:∀ j,P j->∀ x,x<64->(m.getD j 0).getLsbD x=true->P x):∀ (f k:Nat) (w:dt),k+f<=64->(∀ x,x<64->w.getLsbD x=true->P x)->∀ x,x<64->(m4 m k f w).getLsbD x=true->P x
 |0,k,w,_,hw=>hw
 |f+1,k,w,ae,hw=>by
  rw[m4];cases ag:w.getLsbD k with
  |true=>
   refine Qf hm f (k+1) _ (by omega) λx ad h=>?_;rw[ca,BZ,kQ]at h;rcases h with h | h;·exact hw x ad h
   ·exact hm k (hw k (by omega) ag) x ad h
  |false=>exact Qf hm f (k+1) _ (by omega) hw
def Qg{m:List dt}:∀ (f k:Nat) {w:dt},m4 m k f w=w->∀ j,k<=j->j<k+f->w.getLsbD j=true->jP (m.getD j 0) w
 |0,k,w,_,j,aa,ab,_=>by omega
 |f+1,k,w,h,j,aa,ab,ai=>by
  rw[m4]at h;cases ag:w.getLsbD k with
  |true=>
   rw[ag,ca]at h;have e:w ||| m.getD k 0=w:=by refine jP.X5 ?_ (jP.or _ _);have:=HC m f (k+1) (w ||| m.getD k 0);rwa [h]at this
   by_cases Qh:j=k;·subst Qh;have:=jP.or' w (m.getD j 0);rwa [e]at this
   ·rw[e]at h;exact Qg f (k+1) h j (by omega) (by omega) ai
  |false=>
   rw[ag,b']at h;by_cases Qh:j=k;·subst Qh;rw[ag]at ai;cases ai
   ·exact Qg f (k+1) h j (by omega) (by omega) ai
def X'(m:List dt):(rR m).length=64:=by simp[rR]
def Lb(m:List dt){i:Nat}(h:i<64):(rR m).getD i 0=m4 m 0 64 (m.getD i 0):=by simp[rR,bz,h]
structure zN(jh m:List dt):Prop where
 len:m.length=64
 le:∀ i,i<64->jP (jh.getD i 0) (m.getD i 0)
 ok:∀ i,i<64->∀ k,k<64->(m.getD i 0).getLsbD k=true->qH jh i k
def zN.start{jh:List dt}(h:jh.length=64):zN jh jh:=⟨h,λi _=>jP.refl _,λi _ k ae ag=>.one ae ag⟩
def zN.next{jh m:List dt}(h:zN jh m):zN jh (rR m):=by
 refine⟨X' m,λi hi=>?_,λi hi k ae ag=>?_⟩
 ·rw[Lb m hi];exact(h.le i hi).trans (HC m 64 0 _)
 ·rw[Lb m hi]at ag;refine Qf (P:=λx=>x<64/\qH jh i x) (λj ai x ad ag=>⟨ad,ai.2.trans (h.ok j ai.1 x ad ag)⟩) 64 0 _ (cc _) (λx ad ag=>⟨ad,h.ok i hi x ad ag⟩) k ae ag |>.2
def zN.done{jh m:List dt}(h:zN jh m)(aA:rR m=m){i k:Nat}(hi:i<64)(ae:k<64):(m.getD i 0).getLsbD k=true ↔ qH jh i k:=by
 refine⟨h.ok i hi k ae,λap=>?_⟩;have d':∀ i,i<64->∀ j,j<64->(m.getD i 0).getLsbD j=true->jP (m.getD j 0) (m.getD i 0):=λi hi j ai ag=>by have:=Lb m hi;rw[aA]at this;exact Qg 64 0 this.symm j (dz _) (by omega) ag
 revert hi
 induction ap with
 |one iP ag=>exact λhi=>h.le _ hi _ iP ag
 |step ag ai t aN=>exact λhi=>d' _ hi _ ai (h.le _ hi _ ai ag) _ ae (aN ae ai)
def zO(m:List dt):Nat:=(m.map HB).sum
def Ya:∀ {m n:List dt},m.length=n.length->(∀ i,i<m.length->jP (m.getD i 0) (n.getD i 0))->zO n<=zO m/\(zO m<=zO n->m=n)
 |[],[],_,_=>⟨cc _,λ_=>rfl⟩| [],_::_,h,_=>by simp at h
 |_::_,[],h,_=>by simp at h
 |a::m,b::n,h,ar=>by
  have az:jP a b:=by simpa using ar 0 (by simp)
  obtain⟨aa,ab⟩:=ajZ az.and;obtain⟨t1,t2⟩:=Ya (m:=m) (n:=n) (by simpa using h) λi hi=>by simpa using ar (i+1) (by simpa using hi)
  simp only[zO,cb,jK]at t1 t2 |-;refine⟨by omega,λbp=>?_⟩;rw[ab (by omega),t2 (by omega)]
def aj2{m:List dt}(ay:m.length=64)(h:rR m≠m):zO (rR m)<zO m:=by
 have ar:=Ya (m:=m) (n:=rR m) (by rw[ay,X']) λi hi=>by rw[Lb m (by omega)];exact HC m 64 0 _
 refine Nat.lt_of_le_of_ne ar.1 λe=>h (ar.2 (by omega)).symm
def Qi(m:List dt):dt:=(List.range 64).foldl (λw i=>w ||| ((m.getD i 0) &&& lA i)) 0
def Yb(m:List dt):∀ (l:List Nat) (w:dt) {i:Nat},i<64->(∀ k∈l,k<64)->(l.foldl (λw i=>w ||| ((m.getD i 0) &&& lA i)) w).getLsbD i=(w.getLsbD i||(l.contains i&&(m.getD i 0).getLsbD i))
 |[],w,i,hi,_=>by simp
 |k::l,w,i,hi,ay=>by
  rw[jn,Yb m l _ hi λk ae=>ay k (.tail _ ae),BZ,P0,La hi,List.contains_cons];by_cases e:i=k
  ·subst e;simp;cases w.getLsbD i<;>cases(m.getD i 0).getLsbD i<;>simp
  ·have cW:(i == k)=false:=by simpa using e
   rw[eB e,cW];simp
def aj3(m:List dt){i:Nat}(hi:i<64):(Qi m).getLsbD i=(m.getD i 0).getLsbD i:=by
 unfold Qi;rw[Yb m _ _ hi λk ae=>g'.1 ae];have:(List.range 64).contains i=true:=by simpa using hi
 rw[this];simp
def bitsOf(w:dt)(n:Nat):List Nat:=(List.range n).filter λi=>w.getLsbD i
def Yc(w:dt)(n:Nat):bitsOf w (n+1)=bitsOf w n++(bif w.getLsbD n then [n]else []):=by
 unfold bitsOf;rw[BJ,BY];cases h:w.getLsbD n<;>simp[h]
def aj4(w:dt)(n:Nat):(bitsOf w n).length<=n:=by unfold bitsOf;have:=Ba (λi=>w.getLsbD i) (List.range n);simpa using this
section
variable{X:cV}{o:Oper}{F:Fr}{C:dB}{I:aI}{M:List aD}{K:gd}
def bw.aj5(aM:cU X.P X.E){x:Operand}{e:Nat}(aH:o.op=.convert src dst x)(aj:∀ d,o.dst=some d->d<X.n)
 {c7:dD} (av:X.E src=some c7) (dR:c7.bL=.slice e) (he:X.E e=some aF) (kw:aF.bL=.int .u8) (j4:X.E dst=some K1) (gi:K1.bL=.string)
 {n c:Nat} {l:List UInt8} (ad:bE F x=.val (.slice (some aS) n c)) (aB:l.length=n) (bl:cM I M aS n (l.map λb=>.int .u8 b.toNat))
  (h:K (put o.dst (.val (.string ⟨l.toArray⟩)) F) C I M):bw X o F C I M K:=by
 subst aB;refine⟨λa w Q ⟨β,aW⟩=>?_⟩;obtain⟨ar,cs,T,al,ae,ah,ay⟩:=bl;have au:=ae.heap aW.holds;obtain⟨d,fF,fi⟩:=(aM _ _ av).fl;have aa:d=.slice e:=by rw[dR]at fi;cases d<;>simp_all[fk]
 subst aa;obtain⟨d2,Qj,qy⟩:=(aM _ _ he).fl;have ab:d2=.int .u8:=by rw[kw]at qy;cases d2<;>simp_all[fk]
 subst ab;obtain⟨d3,Qk,zw⟩:=(aM _ _ j4).fl;have ak:d3=.string:=by rw[gi]at zw;cases d3<;>simp_all[fk]
 subst ak;have ap:∀ j (ai:j<l.length),w.cell? (aS.add j)=some (.int .u8 (l[j].toNat:Int)):=by
  intro j ai;rw[eP aS ar,s7 au];have im:(l.map λb=>Value.int .u8 b.toNat)[j]?=some (.int .u8 (l[j].toNat:Int)):=by simp[ai]
  rw[<-ah,k6,bQ ai,nj]at im;simpa using im
 have ex:=dc aW.al ad;refine vG aW aj (by rw[aH];simp) ?_ h;unfold execOp;simp only[aH,cj,c0,ex,run_convert_bytes_back w src dst e aS c l fF Qj Qk ap,bV]
end
section
variable{X:cV}{F:Fr}{C:dB}{I:aI}{M:List aD}{o:Oper}{K:gd}
def bw.aj6(aM:cU X.P X.E){x:Operand}{e:Nat}(aH:o.op=.convert src dst x)(aj:∀ d,o.dst=some d->d<X.n)
 {c7:dD} (av:X.E src=some c7) (dR:c7.bL=.slice e) (he:X.E e=some aF) (kw:aF.bL=.int .u8) (j4:X.E dst=some K1) (gi:K1.bL=.string)
  {c:Nat} (ad:bE F x=.val (.slice none 0 c))
  (h:K (put o.dst (.val (.string ⟨#[]⟩)) F) C I M):bw X o F C I M K:=by
 refine⟨λa w Q ⟨β,aW⟩=>?_⟩;obtain⟨d,fF,fi⟩:=(aM _ _ av).fl;have aa:d=.slice e:=by rw[dR]at fi;cases d<;>simp_all[fk]
 subst aa;obtain⟨d2,Qj,qy⟩:=(aM _ _ he).fl;have ab:d2=.int .u8:=by rw[kw]at qy;cases d2<;>simp_all[fk]
 subst ab;obtain⟨d3,Qk,zw⟩:=(aM _ _ j4).fl;have ak:d3=.string:=by rw[gi]at zw;cases d3<;>simp_all[fk]
 subst ak;have ex:=dc aW.al ad;refine vG aW aj (by rw[aH];simp) ?_ h;unfold execOp;have e9:(convert src dst (.slice none 0 c)).run X.P w=.ok (.string ⟨#[]⟩) w:=by rw[run_convert_bytes_string w src dst e none 0 c fF Qj Qk];rfl
 simp only[aH,cj,c0,ex,e9,bV]
end
def bc.whole{K:Value->aI->List aD->Prop}(post:Value->aI->List aD->Prop)(ar:Spec P f args I M post)(k:∀ v I' M',(∀ b o,I b=some o->I' b=some o)->post v I' M'->K v I' M'):bc foot P f args I M K:=
 .mk M [] post (by simp) ar λv I' M' aa ab=>by rw[ef];exact k v I' M' aa ab
def eL.whole{soft:Bool}{K:Value->aI->List aD->Prop}(post:Value->aI->List aD->Prop)(ar:Spec P f args I M post)(nr:∀ v I' M',post v I' M'->∀ x∈M,x∈M')(k:∀ v I' M',(∀ b o,I b=some o->I' b=some o)->post v I' M'->K v I' M'):eL soft foot P f args I M K:=
 .oz M [] post (by simp) ar nr λv I' M' aa ab=>by rw[ef];exact k v I' M' aa ab
section
variable{X:cV}{β:Nat->Nat}{a:Act}{w:World}{F:Fr}{C:dB}{I:aI}{M:List aD}{o:Oper}{K:gd}
def h7.n5(h:M=M'):h7 foot I M I M':=by subst h;exact .refl
def bw.hS(h:bw X o F C I M λF C I M=>∃ I' M',h7 X.foot I M I' M'/\K F C I' M'):bw X o F C I M K:=by obtain⟨h⟩:=h;refine⟨λa w Q aW=>sZ ?_ (h a w Q aW)⟩;rintro bM w'⟨dk,C',I',M',⟨β,af⟩,dv,df,hw,ae⟩;exact⟨dk,C',dv,df,⟨β,af.hS hw⟩,ae⟩
def bw.o0(aM:cU X.P X.E){x:Operand}(aH:o.op=.call { callee:=.builtin .append,args:=#[s,x],argTypes:=#[t,t] })(aj:∀ d,o.dst=some d->d<X.n)
  {e:Nat} {c7:dD} (av:X.E t=some c7) (dR:c7.bL=.slice e) (he:X.E e=some aF)
  (os:aX) (bu:os.ok aF.size xs) (ar:bE F s=.val os.val)
  {b9:Nat} {cs:List Value} (ad:bE F x=.val (.slice (some ⟨b9,0,none⟩) 1 c')) (ay:cs.length=aF.size) (aa:gm cs=true)
  (a9 post:List aD) (a':M=⟨b9,.cells cs.toArray e (0,0)⟩::(a9++(os.aq e++post))) (b1:os.n+1<=9223372036854775807) (b0:(os.n+1)*aF.bytes<=140737488355328)
  (k:∀ br:aX,br.n=os.n+1->(∀ g,br.a=some g->I g=none)->br.ok aF.size (xs++cs)->K (put o.dst (.val br.val) F) C I (a9++(br.aq e++post))):bw X o F C I M K:=by
 refine .hS (.Gt aM aH aj av dR he os bu ar (m:=1) (b8:=cs) ad (by decide) ?_ aa (Mr:=⟨b9,.cells cs.toArray e (0,0)⟩::(a9++post)) ?_ (by unfold maxLen;exact b1) b0 ?_)
 ·rw[oy];refine⟨rfl,_,_,_,.inr ⟨⟨b9,.cells cs.toArray e (0,0)⟩,by rw[a'];exact .head _,rfl,rfl⟩,?_,ay⟩;simp only[vM];exact ft (by omega)
 ·rw[a'];have ab:(⟨b9,.cells cs.toArray e (0,0)⟩::(a9++(os.aq e++post)):List aD).Perm (⟨b9,.cells cs.toArray e (0,0)⟩::(os.aq e++(a9++post))):=.cons _ (BI _ _ _);exact ab.trans mv.symm
 ·intro g c aR bt dG eI eG iA;refine⟨I,a9++((⟨some g,os.n+1,c,aR⟩:aX).aq e++post),.sub (M1:=⟨g,.cells aR.toArray e (0,0)⟩::(a9++post)) (.cons_cons _ (.cons _ (.refl _))) (.perm ?_ .refl),k ⟨some g,os.n+1,c,aR⟩ rfl (λdJ au=>by cases au;exact bt) ⟨?_,(λh=>by cases h),λdJ au=>?_⟩⟩
  ·exact mv.symm
  ·rw[cm,bu.len,ay,lL,oy]
  ·cases au;exact⟨dG,eI,eG,iA⟩
def bw.Eg(aM:cU X.P X.E){x:Operand}(aH:o.op=.call { callee:=.builtin .append,args:=#[s,x],argTypes:=#[t,t] })(aj:∀ d,o.dst=some d->d<X.n)
  {e:Nat} {c7:dD} (av:X.E t=some c7) (dR:c7.bL=.slice e) (he:X.E e=some aF)
  (os:aX) (bu:os.ok aF.size xs) (ar:bE F s=.val os.val)
  {sa:Option Addr} {m:Nat} {b8:List Value} (ad:bE F x=.val (.slice sa m c')) (ay:b8.length=m*aF.size) (aB:0<m->∃ aS,sa=some aS/\cM I M aS (m*aF.size) b8) (aa:gm b8=true)
  (a9 post:List aD) (a':M=a9++(os.aq e++post)) (b1:os.n+m<=9223372036854775807) (b0:(os.n+m)*aF.bytes<=140737488355328)
  (k:∀ br:aX,br.n=os.n+m->(0<m->∀ g,br.a=some g->I g=none)->br.ok aF.size (xs++b8)->K (put o.dst (.val br.val) F) C I (a9++(br.aq e++post))):bw X o F C I M K:=by
 by_cases az:m=0
 ·subst az;have oB:b8=[]:=iK (by simpa using ay);subst oB;refine .OO aM aH aj av dR av (λk=>by rw[dR];simp) he (sa:=os.a.map λg=>⟨g,0,none⟩) (n:=os.n) (c:=os.c) ar ?_ ad (.inl ⟨_,_,rfl⟩) ?_
  ·cases a2:os.a with
   |none=>obtain⟨dG,eI⟩:=bu.nil a2;omega
   |some g=>exact(bu.cap g a2).2.1
  ·have:=k os rfl (λh=>by omega) (by rw[ef];exact bu);rw[a'];exact this
 obtain⟨aS,rfl,bl⟩:=aB (by omega);refine .hS (.Gt aM aH aj av dR he os bu ar (m:=m) (b8:=b8) ad (by omega) bl aa (Mr:=a9++post) ?_ (by unfold maxLen;exact b1) b0 ?_)
 ·rw[a'];exact(BI _ _ _)
 ·intro g c aR bt dG eI eG iA;refine⟨I,a9++((⟨some g,os.n+m,c,aR⟩:aX).aq e++post),.perm ?_ .refl,k ⟨some g,os.n+m,c,aR⟩ rfl (λ_ dJ au=>by cases au;exact bt) ⟨?_,(λh=>by cases h),λdJ au=>?_⟩⟩
  ·exact mv.symm
  ·rw[cm,bu.len,ay,lL]
  ·cases au;exact⟨dG,eI,eG,iA⟩
end
noncomputable section
inductive be(α:Type) where
 |nil| node (x:Option α) (l r:be α)
def bW{α:Type}(b:Bool)(x y:α):α:=@Bool.rec (λ_=>α) y x b
def bq{α R:Type}(o:Option α)(x:R)(f:α->R):R:=@Option.rec α (λ_=>R) x f o
section
variable{α R:Type}
def be.get(t:be α):Nat->Option α:=@be.rec α (λ_=>Nat->Option α) (λ_=>none) (λx _ _ aj7 Eh k=>bW (Nat.beq k 0) x (bW (Nat.beq (Nat.mod k 2) 1) (aj7 (Nat.div k 2)) (Eh (Nat.sub (Nat.div k 2) 1)))) t
def be.nH(v:Option α)(t:be α):Nat->(be α->R)->R:=@be.rec α (λ_=>Nat->(be α->R)->R) (λk K=>bW (Nat.beq k 0) (K (.node v .nil .nil)) (K .nil)) (λx l r sl aj8 k K=>bW (Nat.beq k 0) (K (.node v l r)) (bW (Nat.beq (Nat.mod k 2) 1) (sl (Nat.div k 2) λl=>K (.node x l r)) (aj8 (Nat.sub (Nat.div k 2) 1) λr=>K (.node x l r)))) t
def be.Ei(t:be α)(off n:Nat):(List α->Option R)->Option R:=@Nat.rec (λ_=>Nat->(List α->Option R)->Option R) (λ_ K=>K []) (λ_ aN off K=>bq (t.get off) none λv=>aN (Nat.add off 1) λl=>K (v::l)) n off
def be.xX(l:List α)(t:be α)(off:Nat)(K:be α->R):R:=@List.rec α (λ_=>be α->Nat->R) (λt _=>K t) (λv _ aN t off=>t.nH (some v) off λt=>aN t (Nat.add off 1)) l t off
def be.bare:Nat->be α
 |0=>.nil| n+1=>.node none (be.bare n) (be.bare n)
end
inductive ao where
 |b(x:Bool) | i (k:IntKind) (n:Int) | s (l:List UInt8)| pn | p (id off:Nat) | g (n off:Nat)| sn | sl (id off n c:Nat) | sx (id off e n:Nat) | gs (g off n c:Nat) | so| mn | m (id:Nat)| f (g:Nat) (l r:List ao) | y (id:Nat) | fn| ni | HD (t:Nat) (v:ao)| t (l:List ao) | a (l:List ao)
def ao.cells:ao->List ao
 | .a l=>l| v=>[v]
def ao.one:ao->Bool
 | .a _ | .t _=>false| _=>true
def HE:Value->Option ao
 | .bool x=>some (.b x)| .int k n=>some (.i k n)| .string q=>some (.s q.data.toList)| .pointer none=>some .pn| .slice none 0 0=>some .sn| .map none=>some .mn| .nilFunc=>some .fn| .nilIface=>some .ni| _=>none
def xY:List Value->Option (List ao)
 |[]=>some []
 |v::vs=>match HE v,xY vs with
  |some x,some l=>some (x::l)| _,_=>none
def Ej:Value->Option ao
 | .agg cs=>match xY cs.toList with
  |some l=>some (.a l)| none=>none
 |v=>HE v
def ao.nat:ao->Option Nat
 | .i _ (.ofNat n)=>some n| _=>none
inductive fG where
 |cells(cs:be ao)(T fH:Nat)| map (es:List (ao×ao))| loop (busy:Bool) (n:Nat) (al:be ao) (ps:List Nat) (fe body:Code)| done (c:Code) (n:Nat) (al:be ao) (ps:List Nat) (fe body:Code)
structure bo where
 t:be fG
 n:Nat
def sH:Int->Int->Bool
 | .ofNat a,.ofNat b=>Nat.beq a b| .negSucc a,.negSucc b=>Nat.beq a b| _,_=>false
def B2:Int->Int->Bool
 | .ofNat a,.ofNat b=>Nat.ble a b| .negSucc a,.negSucc b=>Nat.ble b a| .negSucc _,.ofNat _=>true| .ofNat _,.negSucc _=>false
def C9(a b:Int):Bool:=!B2 b a
def Ql(op:BinOp)(x y:Int):Option Bool:=match op with
 | .eql=>some (sH x y)| .neq=>some (!sH x y)| .lss=>some (C9 x y)| .leq=>some (B2 x y)| .gtr=>some (C9 y x)| .geq=>some (B2 y x)| _=>none
def Lc:IntKind->Nat
 | .i8=>127 | .i16=>32767 | .i32=>2147483647 | .i64=>9223372036854775807| .u8=>255 | .u16=>65535 | .u32=>4294967295 | .u64=>18446744073709551615
def wm(k:IntKind):Int->Int
 | .ofNat n=>bif Nat.ble n (Lc k)then .ofNat n else k.wrap (.ofNat n)| n=>k.wrap n
def Yd:Int->Int->Int
 | .ofNat a,.ofNat b=>.ofNat (Nat.add a b)| a,b=>a+b
def Qm:Int->Int->Int
 | .ofNat a,.ofNat b=>bif Nat.ble b a then .ofNat (Nat.sub a b)else(.ofNat a:Int) - .ofNat b| a,b=>a-b
def Ye:Int->Int->Int
 | .ofNat a,.ofNat b=>.ofNat (Nat.mul a b)| a,b=>a*b
def Yf:Int->Int->Int
 | .ofNat a,.ofNat b=>.ofNat (Nat.div a b)| a,b=>a.tdiv b
def Yg:Int->Int->Int
 | .ofNat a,.ofNat b=>.ofNat (Nat.mod a b)| a,b=>a.tmod b
def Yh:Int->Nat->Int
 | .ofNat a,j=>.ofNat (Nat.mul a (Nat.pow 2 j))| a,j=>a*2^j
def Yi:Int->Nat->Int
 | .ofNat a,j=>.ofNat (Nat.div a (Nat.pow 2 j))| a,j=>a.fdiv (2^j)
def Ek(op:BinOp)(k:IntKind)(x y:Int):Option Int:=
 match k,x,y with
 | .u64,.ofNat a,.ofNat b=>
  bif Nat.ble a 18446744073709551615&&Nat.ble b 18446744073709551615 then
   (match op with
   | .and=>some (.ofNat (Nat.land a b))| .or=>some (.ofNat (Nat.lor a b))| .xor=>some (.ofNat (Nat.xor a b))| .andNot=>some (.ofNat (Nat.land a (Nat.sub 18446744073709551615 b)))| _=>none)
  else none
 |_,_,_=>ug op k x y
def Qn(a b:UInt8):Bool:=Nat.beq a.toNat b.toNat
def u2:List UInt8->List UInt8->Bool
 |[],[]=>true| a::l,b::m=>bif Qn a b then u2 l m else false| _,_=>false
def El:ao->ao->Option Bool
 | .b x,.b w=>some (x == w)| .i k x,.i l w=>bW (IntKind.mI k l) (some (sH x w)) none| .s x,.s w=>some (u2 x w)| _,_=>none
def Yj:List ao->List ao->Option Bool
 |[],[]=>some true
 |x::l,w::m=>match El x w with
  |some true=>Yj l m
  |some false=>(match Yj l m with
   |some _=>some false| none=>none)
  |none=>none
 |_,_=>none
def auG:ao->ao->Option Bool
 | .pn,.pn=>some true| .pn,.p _ _=>some false| .p _ _,.pn=>some false| .pn,.g _ _=>some false| .g _ _,.pn=>some false| _,_=>none
def Qo(op:BinOp)(k eZ:IntKind)(a b:Int):Option ao:=match op with
 | .shl=>(match b with
  | .ofNat j=>some (.i k (wm k (Yh a (bW (Nat.ble j k.bits) j k.bits))))| _=>none)
 | .shr=>(match b with
  | .ofNat j=>some (.i k (Yi a (bW (Nat.ble j k.bits) j k.bits)))| _=>none)
 | .add=>bW (IntKind.mI k eZ) (some (.i k (wm k (Yd a b)))) none| .sub=>bW (IntKind.mI k eZ) (some (.i k (wm k (Qm a b)))) none| .mul=>bW (IntKind.mI k eZ) (some (.i k (wm k (Ye a b)))) none| .quo=>bW (IntKind.mI k eZ) (bW (sH b 0) none (some (.i k (wm k (Yf a b))))) none| .rem=>bW (IntKind.mI k eZ) (bW (sH b 0) none (some (.i k (Yg a b)))) none| .and=>bW (IntKind.mI k eZ) (bq (Ek .and k a b) none λr=>some (.i k r)) none| .or=>bW (IntKind.mI k eZ) (bq (Ek .or k a b) none λr=>some (.i k r)) none| .xor=>bW (IntKind.mI k eZ) (bq (Ek .xor k a b) none λr=>some (.i k r)) none| .andNot=>bW (IntKind.mI k eZ) (bq (Ek .andNot k a b) none λr=>some (.i k r)) none| op=>bW (IntKind.mI k eZ) (bq (Ql op a b) none λr=>some (.b r)) none
def Qp(op:BinOp)(a b:List UInt8):Option ao:=match op with
 | .eql=>some (.b (u2 a b))| .neq=>some (.b (bW (u2 a b) false true))| .add=>bW (Nat.ble (Nat.add a.length b.length) 9223372036854775807) (some (.s (a++b))) none| _=>none
def Qq(op:BinOp)(c7:Option dD)(a b:Bool):Option ao:=match c7 with
 |some { bL:=.bool,.. }=>
  (match op with
  | .eql=>some (.b (a == b))| .neq=>some (.b (!(a == b)))| _=>none)
 |_=>none
def Em(agg:Bool)(l:List ao):Option ao:=bif agg then some (.a l)else match l with
 |[v]=>some v| _=>none
def B3:Nat->List ao->Option (List ao)
 |0,_=>some []| _+1,[]=>none
 |n+1,v::l=>match B3 n l with
  |some r=>some (v::r)| none=>none
def B4{α:Type}:List α->Nat->List α
 |[],_=>[]| v::l,n=>bif Nat.beq n 0 then v::l else B4 l (Nat.sub n 1)
def zP(E:Env)(t o:Nat)(l:List ao):Option ao:=bq (E t) none λi=>bW (Nat.beq i.size 0) none <| bq (B3 i.size (B4 l o)) none λr=>Em i.bL.agg r
def B5(F:Nat->ao->ao->Option Bool)(E:Env)(l m:List ao):List (Nat×Nat)->Option Bool
 |[]=>some true|(t,o)::r=>bq (zP E t o l) none λx=>bq (zP E t o m) none λy=>bq (F t x y) none λb=>bW b (B5 F E l m r) (some false)
def Yk(P:Program)(t:Nat):Bool:=match P.underlying t with
 |some (.struct cN)=>!P.stoodInHeld t&&cN.toList.all λf=>decide (f.name ≠ "_")
 |_=>false
def xZ(P:Program)(E:Env):Nat->Nat->ao->ao->Option Bool
 |0,_,_,_=>none
 |d+1,t,x,y=>bq (E t) none λi=>match i.bL,x,y with
  | .bool,.b a,.b b=>some (a == b)| .int _,.i k a,.i eZ b=>bW (IntKind.mI k eZ) (some (sH a b)) none| .string,.s a,.s b=>some (u2 a b)| .struct cN,.a l,.a m=>bW (Yk P t) (B5 (xZ P E d) E l m cN) none| .array n e,.a l,.a m=>bq (E e) none λaF=>B5 (xZ P E d) E l m ((List.range n).map λi=>(e,i*aF.size))
  |_,_,_=>none
def HF(P:Program)(E:Env)(op:BinOp)(t:Nat)(l m:List ao):Option ao:=bW (P.eqGuardType P.depth t) none (bq (xZ P E 8 t (.a l) (.a m)) none λb=>match op with
 | .eql=>some (.b b)| .neq=>some (.b (!b))| _=>none)
def Qr:ao->Option Bool
 | .sn=>some true| .sl .. | .sx .. | .gs .. | .so=>some false| _=>none
def Qs:ao->Option Bool
 | .pn=>some true| .p .. | .g ..=>some false| _=>none
def Ld(op:BinOp)(b:Bool):Option ao:=match op with
 | .eql=>some (.b b)| .neq=>some (.b (!b))| _=>none
def Qt(P:Program)(E:Env)(op:BinOp)(t:Nat)(x y:ao):Option ao:=
 match x,y with
 | .i k a,.i eZ b=>Qo op k eZ a b| .s a,.s b=>Qp op a b| .b a,.b b=>Qq op (E t) a b| .a l,.a m=>HF P E op t l m
 |x,.sn=>bq (E t) none λi=>(match i.bL with
  | .slice _=>bq (Qr x) none λb=>Ld op b
  |_=>none)
 |x,.pn=>bq (E t) none λi=>(match i.bL with
  | .pointer _=>bq (Qs x) none λb=>Ld op b
  |_=>none)
 |_,_=>none
def wo{α:Type}:List α->Nat->Option α
 |[],_=>none| v::l,n=>bif Nat.beq n 0 then some v else wo l (Nat.sub n 1)
def x0:List ao->Nat->List ao->Option (List ao)
 |cs,0,[]=>some cs
 |_::cs,0,v::vs=>match x0 cs 0 vs with
  |some r=>some (v::r)| none=>none
 |c::cs,n+1,vs=>match x0 cs n vs with
  |some r=>some (c::r)| none=>none
 |[],_,_=>none
def zQ(place:Nat->Option (Nat×Nat)):List ao->List (Nat×ao)->Option (List ao)
 |cells,[]=>some cells
 |cells,(i,v)::bi=>match place i with
  |none=>none
  |some (off,size)=>bif Nat.beq v.cells.length size then(match x0 cells off v.cells with
   |some cs=>zQ place cs bi| none=>none)else none
def dg(al:be ao):Operand->Option ao
 | .tmp t=>al.get t| .const v=>Ej v| .global g=>some (.g g 0)| .func f=>some (.f f [] [])
def n6(al:be ao):List Operand->Option (List ao)
 |[]=>some []
 |x::xs=>match dg al x,n6 al xs with
  |some v,some l=>some (v::l)| _,_=>none
def En(al:be ao):List (Nat×Operand)->Option (List (Nat×ao))
 |[]=>some []
 |(i,x)::xs=>match dg al x,En al xs with
  |some v,some l=>some ((i,v)::l)| _,_=>none
abbrev GT:=Nat->Option (be ao)
def tK{R:Type}(G:GT)(m:be fG)(x:ao)(n:Nat)(K:List ao->Option R):Option R:=match x with
 | .p id off=>(match m.get id with
  |some (.cells cs _ fH)=>bif Nat.ble (Nat.add off n) fH then cs.Ei off n K else none| _=>none)
 | .g g off=>(match G g with
  |some cs=>cs.Ei off n K| none=>none)
 |_=>none
def HG(x:ao)(n:Nat):Option ao:=match x with
 | .p id off=>some (.p id (Nat.add off n))| .g g off=>some (.g g (Nat.add off n))| _=>none
def Le(x:ao)(j sz:Nat):Option ao:=match x with
 | .sl id off n _=>bif Nat.blt j n then some (.p id (Nat.add off (Nat.mul j sz)))else none| .sx id off _ n=>bif Nat.blt j n then some (.p id (Nat.add off (Nat.mul j sz)))else none| .gs g off n _=>bif Nat.blt j n then some (.g g (Nat.add off (Nat.mul j sz)))else none| _=>none
def wq:ao->Option Nat
 | .sn | .so=>some 0| .sl _ _ n _ | .sx _ _ _ n | .gs _ _ n _=>some n| _=>none
def sI(v:ao):Option Nat:=match v with
 | .s l=>some l.length| v=>wq v
def Qu(x:ao)(sz l:Nat)(h:Option Nat):Option ao:=match x with
 | .sn=>bif Nat.beq l 0&&Nat.beq (h.getD 0) 0 then some .sn else none
 | .sl id off n c=>let h:=h.getD n
  bif Nat.ble l h&&Nat.ble h c then bif Nat.beq c l then some (.sl id off (Nat.sub h l) 0)else some (.sl id (Nat.add off (Nat.mul l sz)) (Nat.sub h l) (Nat.sub c l))else none
 | .sx id off e n=>let h:=h.getD n
  bif Nat.ble l h&&Nat.ble h n then(bif Nat.beq l 0||Nat.blt l n then some (.sx id (Nat.add off (Nat.mul l sz)) (Nat.add e l) (Nat.sub h l))else some .so)else none
 |_=>none
def B6(o:Option (Option ao)):Option (Option Nat):=match o with
 |none=>some none
 |some (some v)=>(match v.nat with
  |some n=>some (some n)| none=>none)
 |some none=>none
def Qv(l:List UInt8)(lo hi:Nat):List UInt8:=(B4 l lo).take (Nat.sub hi lo)
def Yl(c a b:Option ao):Option ao:=match c,a,b with
 |some (.b c),some u,some v=>some (bW c u v)| _,_,_=>none
def Ym(op:UnOp)(x:Option ao):Option ao:=match op,x with
 | .not,some (.b b)=>some (.b (bW b false true))| .neg,some (.i k n)=>some (.i k (wm k (0-n)))| _,_=>none
def Yn(P:Program)(E:Env)(op:BinOp)(t:Nat)(x y:Option ao):Option ao:=bq x none λx=>bq y none λy=>Qt P E op t x y
def Yo(G:GT)(m:be fG)(i:Option dD)(x:Option ao):Option ao:=bq i none λi=>bq x none λx=>tK G m x i.size λl=>Em i.bL.agg l
def Yp(x:Option ao):Option ao:=match x with
 |some (.p id off)=>some (.p id off)| some (.g g off)=>some (.g g off)| _=>none
def Lf(E:Env)(t i:Nat):Option (Nat×dD):=match E t with
 |some { bL:=.struct cN,.. }=>(match wo cN i with
  |some (fm,off)=>(match E fm with
   |some hh=>some (off,hh)| none=>none)
  |none=>none)
 |_=>none
def Yq(r:Option (Nat×dD))(x:Option ao):Option ao:=bq r none λr=>bq x none λx=>bW (Nat.beq r.2.size 0) none (HG x r.1)
def Lg(aF:dD)(cs:List ao)(off:Nat):Option ao:=bW (Nat.beq aF.size 0) none <| bq (B3 aF.size (B4 cs off)) none λl=>Em aF.bL.agg l
def Yr(r:Option (Nat×dD))(x:Option ao):Option ao:=match r,x with
 |some (off,hh),some (.a cs)=>Lg hh cs off| _,_=>none
def Qw(E:Env)(t:Nat):Option (Option Nat×dD):=match E t with
 |some { bL:=.slice e,.. }=>(match E e with
  |some aF=>some (none,aF)| none=>none)
 |some { bL:=.array n e,.. }=>(match E e with
  |some aF=>some (some n,aF)| none=>none)
 |_=>none
def Ys(r:Option (Option Nat×dD))(x i:Option ao):Option ao:=bq r none λr=>bq x none λx=>bq i none λi=>bq i.nat none λj=>
 bq r.1 (Le x j r.2.size) λn=>bW (Nat.blt j n) (HG x (Nat.mul j r.2.size)) none
def Qx(l:List UInt8)(j:Nat):Option ao:=bq (wo l j) none λb=>some (.i .u8 (.ofNat b.toNat))
def Yt(cs:List ao)(j n:Nat)(aF:dD):Option ao:=bW (Nat.beq (Nat.mul n aF.size) cs.length&&Nat.blt j n) (Lg aF cs (Nat.mul j aF.size)) none
def HH(E:Env)(t:Nat)(x i:Option ao):Option ao:=match E t,x,i with
 |some { bL:=.string,.. },some (.s l),some i=>bq i.nat none λj=>Qx l j
 |some { bL:=.array n e,.. },some (.a cs),some i=>bq (E e) none λaF=>bq i.nat none λj=>Yt cs j n aF
 |_,_,_=>none
def HI(o:Option (List ao)):Option ao:=bq o none λl=>some (.a l)
def Yu(E:Env)(t:Nat)(ps:Option (List (Nat×ao))):Option ao:=match E t,ps with
 |some i,some vs=>bq (xY i.zero) none λz=>(match i.bL with
  | .struct cN=>bW (C7 E cN) (HI (zQ (places E cN) z vs)) none| .array _ e=>bq (E e) none λaF=>HI (zQ (λj=>some (j*aF.size,aF.size)) z vs)
  |_=>none)
 |_,_=>none
def Yv(f:Fn)(cN cs:Option (List ao)):Option ao:=match f,cN,cs with
 | .func g,some cN,some cs=>some (.f g cN cs)| _,_,_=>none
def Qy(aF:dD)(x:ao)(lo hi:Option Nat):Option ao:=match lo,hi with
 |none,none=>(match x with
  | .sn | .sl .. | .sx .. | .so=>some x| _=>none)
 |lo,hi=>Qu x aF.size (lo.getD 0) hi
def Qz(l:List UInt8)(lo hi:Option Nat):Option ao:=match lo,hi with
 |none,none=>some (.s l)| lo,hi=>bW (Nat.ble (lo.getD 0) (hi.getD l.length)&&Nat.ble (hi.getD l.length) l.length) (some (.s (Qv l (lo.getD 0) (hi.getD l.length)))) none
def HJ(E:Env)(t:Nat)(x:Option ao)(lo hi:Option (Option Nat)):Option ao:=match E t,x,lo,hi with
 |some { bL:=.slice e,.. },some x,some lo,some hi=>bq (E e) none λaF=>Qy aF x lo hi
 |some { bL:=.string,.. },some (.s l),some lo,some hi=>Qz l lo hi| _,_,_,_=>none
def Yw(x:Option ao)(i:Nat):Option ao:=match x with
 |some (.t vs)=>wo vs i| _=>none
def Yx(E:Env)(s d:Nat)(x:Option ao):Option ao:=match E s,E d,x with
 |some _,some { bL:=.int k,.. },some (.i _ n)=>some (.i k (wm k n))| _,_,_=>none
def Lh(o:Option Nat):Option ao:=bq o none λn=>some (.i .i64 (.ofNat n))
def Yy(E:Env)(fJ:List Nat)(l:Option (List ao)):Option ao:=match fJ,l with
 |[t],some [v]=>(match E t,v with
  |some { bL:=.slice _,.. },v=>Lh (wq v)| some { bL:=.string,.. },.s l=>Lh (some l.length)| some { bL:=.array n _,.. },_=>Lh (some n)| _,_=>none)
 |_,_=>none
def Yz(l:Option (List ao)):Option ao:=match l with
 |some [.i k a,.i _ b]=>some (.i k (bW (B2 a b) b a))| _=>none
def YA(l:Option (List ao)):Option ao:=match l with
 |some [.i k a,.i _ b]=>some (.i k (bW (B2 a b) a b))| _=>none
def YB(E:Env)(fJ:List Nat)(l:Option (List ao)):Option ao:=match fJ,l with
 |[t],some [.sl _ _ _ c]=>(match E t with
  |some { bL:=.slice _,.. }=>some (.i .i64 (.ofNat c))| _=>none)
 |_,_=>none
def YC(l:Option (List ao)):Option ao:=match l with
 |some [.sn]=>some .pn| some [.sl id off n c]=>bW (Nat.beq c 0) none (some (.p id off))| some [.sx id off e n]=>bW (Nat.beq n 0) none (some (.p id off))| _=>none
def QA(E:Env)(b:Builtin)(fJ:List Nat)(l:Option (List ao)):Option ao:=match b with
 | .len=>Yy E fJ l| .max=>Yz l| .min=>YA l| .cap=>YB E fJ l| .unsafeSliceData=>YC l| _=>none
def QB(P:Program)(E:Env)(G:GT)(m:be fG)(op:Op)(al:be ao):Option ao:=
 match op with
 | .move x=>dg al x| .assign x=>dg al x| .pick c a b=>Yl (dg al c) (dg al a) (dg al b)| .unOp op _ x=>Ym op (dg al x)| .binOp op t x y _=>Yn P E op t (dg al x) (dg al y)| .load t x=>Yo G m (E t) (dg al x)| .nilCheck x=>Yp (dg al x)| .fieldAddr t x i=>Yq (Lf E t i) (dg al x)| .field t x i=>Yr (Lf E t i) (dg al x)| .indexAddr t x i=>Ys (Qw E t) (dg al x) (dg al i)| .index t x i=>HH E t (dg al x) (dg al i)| .build t parts=>Yu E t (En al parts.toList)| .makeFunc f first captured=>Yv f (n6 al first.toList) (n6 al captured.toList)
 | .slice t x lo hi none=>HJ E t (dg al x) (B6 (lo.map (dg al))) (B6 (hi.map (dg al)))| .extract x i=>Yw (dg al x) i| .convert s d x=>Yx E s d (dg al x)| .call { callee:=.builtin b,args,argTypes }=>QA E b argTypes.toList (n6 al args.toList)| _=>none
def QC(E:Env)(t:Nat)(x hi mx:Option ao):Option ao:=match E t,x,hi,mx with
 |some { bL:=.slice e,.. },some (.sl id off n c),some (.i _ (.ofNat h)),some (.i _ (.ofNat k))=>bq (E e) none λaF=>
  bW (Nat.ble h k&&(Nat.ble k c&&Nat.blt 0 k)) (some (.sl id off h k)) none
 |some { bL:=.slice e,.. },some (.sx id off a7 n),some (.i _ (.ofNat h)),some (.i _ (.ofNat k))=>bq (E e) none λaF=>
  bW (Nat.ble h k&&(Nat.ble k n&&Nat.blt 0 k)) (some (.sl id off h k)) none
 |_,_,_,_=>none
def QD(E:Env)(t:Nat)(x lo hi mx:Option ao):Option ao:=match E t,x,lo,hi,mx with
 |some { bL:=.slice e,.. },some (.sl id off n c),some (.i _ (.ofNat l)),some (.i _ (.ofNat h)),some (.i _ (.ofNat k))=>bq (E e) none λaF=>
  bW (Nat.ble l h&&(Nat.ble h k&&(Nat.ble k c&&Nat.blt l k))) (some (.sl id (Nat.add off (Nat.mul l aF.size)) (Nat.sub h l) (Nat.sub k l))) none
 |_,_,_,_,_=>none
def QE(x:Option ao):Option ao:=match x with
 |some (.i .u64 n)=>some (.i .u64 (jv n))| _=>none
def u3(P:Program)(E:Env)(G:GT)(m:be fG)(op:Op)(al:be ao):Option ao:=
 match op with
 | .unOp .xor t x=>QE (dg al x)| .slice t x (some lo) (some hi) (some mx)=>QD E t (dg al x) (dg al lo) (dg al hi) (dg al mx)| .slice t x none (some hi) (some mx)=>QC E t (dg al x) (dg al hi) (dg al mx)| op=>QB P E G m op al
def rS{R:Type}(n:Nat)(K:Nat->R):R:=Nat.casesOn (Nat.add n 1) (K 0) K
def YD{R:Type}(n:Int)(K:Int->R):R:=match n with
 | .ofNat n=>rS n λn=>K (.ofNat n)
 | .negSucc n=>rS n λn=>K (.negSucc n)
def YE{R:Type}(b:Bool)(K:Bool->R):R:=bW b (K true) (K false)
def QF{R:Type}(v:ao)(K:ao->R):R:=match v with
 | .b x=>YE x λx=>K (.b x)
 | .i k n=>YD n λn=>K (.i k n)
 | .p id off=>rS off λoff=>K (.p id off)
 | .g id off=>rS off λoff=>K (.g id off)
 | .sl id off n c=>rS off λoff=>rS n λn=>rS c λc=>K (.sl id off n c)
 | .sx id off e n=>rS off λoff=>rS e λe=>rS n λn=>K (.sx id off e n)
 |v=>K v
def B7{R:Type}(m:bo)(e:fG)(K:Nat->bo->R):R:=rS m.n λn=>m.t.nH (some e) n λt=>K n ⟨t,Nat.add n 1⟩
def u4{R:Type}(m:bo)(l:List ao)(T:Nat)(K:Nat->bo->R):R:=be.xX l .nil 0 λcs=>B7 m (.cells cs T l.length) K
def x1{R:Type}(m:bo)(x:ao)(l:List ao)(K:bo->Option R):Option R:=match x with
 | .p id off=>(match m.t.get id with
  |some (.cells cs T fH)=>bif Nat.ble (Nat.add off l.length) fH&&l.all ao.one then be.xX l cs off λcs=>m.t.nH (some (.cells cs T fH)) id λt=>K ⟨t,m.n⟩else none
  |_=>none)
 |_=>none
def B8:Nat->List ao->List ao
 |0,_=>[]| n+1,z=>z++B8 n z
def Eo(i:Option dD):Bool:=match i with
 |some { bL:=.int .u8,.. }=>true| _=>false
def wu(u:Option dD)(aF:dD)(x:ao):Bool:=match u,x with
 |some { bL:=.slice _,.. },.sn=>true| some { bL:=.slice _,.. },.so=>true| some { bL:=.slice _,.. },.sl ..=>true| some { bL:=.slice _,.. },.sx ..=>true| some { bL:=.string,.. },.s _=>Nat.beq aF.size 1| _,_=>false
def Ep(G:GT)(m:be fG)(x:ao)(sz:Nat){R:Type}(K:List ao->Option R):Option R:=match x with
 | .sn | .so=>K []| .sl id off n _ | .sx id off _ n=>tK G m (.p id off) (Nat.mul n sz) K| .s l=>K (l.map λb=>.i .u8 (.ofNat b.toNat))| _=>none
def QG(G:GT)(m:bo)(id off n c:Nat)(l:List ao)(k sz T:Nat):Option (ao×bo):=
 bW (Nat.ble (Nat.add n k) c) (x1 m (.p id (Nat.add off (Nat.mul n sz))) l λm=>some (.sl id off (Nat.add n k) c,m)) (tK G m.t (.p id off) (Nat.mul n sz) λdE=>u4 m (dE++l) T λid m=>some (.sx id 0 0 (Nat.add n k),m))
def QH(m:bo)(id:Nat)(n:Nat)(cs:be ao)(fH:Nat)(l:List ao)(k sz T:Nat):Option (ao×bo):=
 bW (Nat.ble (Nat.mul n sz) fH) (m.t.nH none id λt=>be.xX l cs (Nat.mul n sz) λcs=>B7 ⟨t,m.n⟩ (.cells cs T (Nat.mul (Nat.add n k) sz)) λid m=>some (.sx id 0 0 (Nat.add n k),m)) none
def HK(G:GT)(m:bo)(s:ao)(l:List ao)(k sz bytes T:Nat):Option (ao×bo):=match s with
 | .sn=>bW (Nat.ble (Nat.mul k bytes) 140737488355328&&Nat.ble k 9223372036854775807) (u4 m l T λid m=>some (.sx id 0 0 k,m)) none| .sl id off n c=>bW (Nat.ble (Nat.mul (Nat.add n k) bytes) 140737488355328&&Nat.ble (Nat.add n k) 9223372036854775807) (QG G m id off n c l k sz T) none
 | .sx id off e n=>(match m.t.get id with
  |some (.cells cs l' fH)=>bW ((Nat.beq off 0&&Nat.beq e 0)&&(Nat.beq l' T&&(Nat.ble (Nat.mul (Nat.add n k) bytes) 140737488355328&&Nat.ble (Nat.add n k) 9223372036854775807))) (QH m id n cs fH l k sz T) none| _=>none)
 |_=>none
def Er:List ao->Option (List UInt8)
 |[]=>some []
 | .i .u8 (.ofNat n)::l=>bif Nat.ble n 255 then(match Er l with
  |some r=>some (UInt8.ofNat n::r)| none=>none)else none
 |_=>none
def HL:ao->List (ao×ao)->Option (Option ao)
 |_,[]=>some none
 |k,(x,v)::l=>match El k x with
  |some true=>some (some v)| some false=>HL k l| none=>none
def HM(k v:ao):List (ao×ao)->Option (List (ao×ao))
 |[]=>some [(k,v)]
 |(x,u)::l=>match El k x with
  |some true=>some ((k,v)::l)
  |some false=>(match HM k v l with
   |some r=>some ((x,u)::r)| none=>none)
  |none=>none
abbrev lU:=Nat->List ao->bo->Option (ao×bo)
structure gH where
 P:Program
 E:Env
 G:GT
 pr:lU
def YF(i:Option dD)(t:Nat)(x:Option ao):Option (List ao×Nat×Nat×(Nat->ao)):=bq i none λi=>bq x none λv=>bW (Nat.beq v.cells.length i.size) (some (v.cells,t,1,λid=>.p id 0)) none
def YG(i:Option dD)(t:Nat):Option (List ao×Nat×Nat×(Nat->ao)):=bq i none λi=>bq (xY i.zero) none λz=>some (z,t,1,λid=>.p id 0)
def YH(E:Env)(t len:Nat)(ps:Option (List (Nat×ao))):Option (List ao×Nat×Nat×(Nat->ao)):=match E t,ps with
 |some { bL:=.slice e,.. },some vs=>bq (E e) none λaF=>bq (xY aF.zero) none λz=>
  bW (Nat.ble (Nat.mul len aF.size) 16777216&&Nat.blt 0 (Nat.mul len aF.size)) (bq (zQ (λj=>some (j*aF.size,aF.size)) (B8 len z) vs) none λcs=>some (cs,e,len,λid=>.sl id 0 len len)) (bW (Nat.beq len 0&&vs.isEmpty) (some ([],e,0,λid=>.sl id 0 0 0)) none)
 |_,_=>none
def YI(E:Env)(t:Nat)(l c:Option ao):Option (List ao×Nat×Nat×(Nat->ao)):=match E t,l,c with
 |some { bL:=.slice e,.. },some l,some c=>bq (E e) none λaF=>bq l.nat none λn=>bq c.nat none λk=>bq (xY aF.zero) none λz=>
  bW (Nat.ble n k&&(Nat.ble (Nat.mul aF.bytes k) 140737488355328&&Nat.ble k 9223372036854775807)) (some (B8 k z,e,k,λid=>.sl id 0 n k)) none
 |_,_,_=>none
def B9(E:Env)(o:Oper)(al:be ao):Option (List ao×Nat×Nat×(Nat->ao)):=
 match o.op with
 | .box t x=>YF (E t) t (dg al x)| .alloc t=>YG (E t) t| .buildSlice t len parts=>YH E t len (En al parts.toList)| .makeSlice t l c=>YI E t (dg al l) (dg al c)| _=>none
def Li(i:Option dD)(m:bo)(x y:Option ao):Option (ao×bo):=bq i none λi=>bq x none λx=>bq y none λv=>bW (Nat.beq v.cells.length i.size) (x1 m x v.cells λm=>some (.t [],m)) none
def Lj(i:Option dD)(m:bo):Option (ao×bo):=match i with
 |some { bL:=.map k e,.. }=>B7 m (.map []) λid m=>some (.m id,m)
 |_=>none
def Lk(i:Option dD)(v:ao):Bool:=match i,v with
 |some { bL:=.int k,.. },.i eZ _=>IntKind.mI k eZ| some { bL:=.string,.. },.s _=>true| _,_=>false
def YJ(ok:Bool)(z:ao)(r:Option ao):ao:=bW ok (bq r (.t [z,.b false]) λv=>.t [v,.b true]) (bq r z λv=>v)
def QI(P:Program)(E:Env)(t:Nat)(m:bo)(x y:Option ao)(ok:Bool):Option (ao×bo):=match E t,x,y with
 |some { bL:=.map k e,.. },some (.m id),some y=>bW (Lk (E k) y) (match m.t.get id with
  |some (.map es)=>bq (HL y es) none λr=>bq (P.info? e) none λinf=>bq inf.zero none λz=>bq (Ej z) none λz=>some (YJ ok z r,m)
  |_=>none) none
 |_,_,_=>none
def HN(E:Env)(t:Nat)(m:bo)(x y z:Option ao):Option (ao×bo):=match E t,x,y,z with
 |some { bL:=.map k e,.. },some (.m id),some y,some v=>bW (Lk (E k) y) (match m.t.get id with
  |some (.map es)=>bq (HM y v es) none λes=>m.t.nH (some (.map es)) id λt=>some (.t [],⟨t,m.n⟩)
  |_=>none) none
 |_,_,_,_=>none
def Ll(G:GT)(m:bo)(id off n:Nat):Option (ao×bo):=tK G m.t (.p id off) n λl=>bq (Er l) none λl=>some (.s l,m)
def Lm(Y:gH)(m:bo)(s d:Nat)(x:Option ao):Option (ao×bo):=match Y.E s,Y.E d,x with
 |some { bL:=.slice e,.. },some { bL:=.string,.. },some (.sl id off n _)=>bW (Eo (Y.E e)) (Ll Y.G m id off n) none| some { bL:=.slice e,.. },some { bL:=.string,.. },some (.sx id off _ n)=>bW (Eo (Y.E e)) (Ll Y.G m id off n) none| some { bL:=.slice e,.. },some { bL:=.string,.. },some .sn=>bW (Eo (Y.E e)) (some (.s [],m)) none| _,_,_=>none
def Es:ao->Bool
 | .sn | .so | .sx ..=>true| .sl _ _ n c=>Nat.ble n c| _=>false
def QJ(Y:gH)(m:bo)(fJ:List Nat)(l:Option (List ao)):Option (ao×bo):=match fJ,l with
 |[t,u],some [s,x]=>(match Y.E t with
  |some { bL:=.slice e,.. }=>bq (Y.E e) none λaF=>bW (wu (Y.E u) aF x) (Ep Y.G m.t x aF.size λl=>bq (sI x) none λk=>
    bW (Nat.beq k 0) (bW (Es s) (some (s,m)) none) (bW (l.all ao.one) (HK Y.G m s l k aF.size aF.bytes e) none)) none
  |_=>none)
 |_,_=>none
def QK(Y:gH)(m:bo)(fJ:List Nat)(l:Option (List ao)):Option (ao×bo):=match fJ,l with
 |[t,u],some [.sl id off n c,.s q]=>(match Y.E t with
  |some { bL:=.slice e,.. }=>bq (Y.E e) none λaF=>bW (Nat.beq aF.size 1&&Nat.ble q.length n) (x1 m (.p id off) (q.map λb=>.i .u8 (.ofNat b.toNat)) λm=>some (.i .i64 (.ofNat q.length),m)) none
  |_=>none)
 |_,_=>none
def QL(Y:gH)(m:bo)(fJ:List Nat)(l:Option (List ao)):Option (ao×bo):=match fJ,l with
 |[uv,it],some [.pn,.i .i64 (.ofNat 0)]=>some (.s [],m)
 |[uv,it],some [.p id 0,.i .i64 (.ofNat n)]=>(match Y.E uv,m.t.get id with
  |some { bL:=.pointer e,.. },some (.cells cs T fH)=>bq (Y.E e) none λaF=>
   bW (Nat.beq aF.size 1&&(Nat.beq T e&&Nat.blt 0 n)) (tK Y.G m.t (.p id 0) n λl=>bq (Er l) none λl=>bW (Nat.ble n 9223372036854775807) (m.t.nH none id λt=>some (.s l,⟨t,m.n⟩)) none) none
  |_,_=>none)
 |_,_=>none
def YK(Y:gH)(m:bo)(b:Builtin)(fJ:List Nat)(l:Option (List ao)):Option (ao×bo):=match b with
 | .append=>QJ Y m fJ l| .copy=>QK Y m fJ l| .unsafeString=>QL Y m fJ l| _=>none
def QM(Y:gH)(m:bo)(o:Oper)(al:be ao):Option (ao×bo):=
 match o.op with
 | .store t x y=>bq o.dst (Li (Y.E t) m (dg al x) (dg al y)) λ_=>none
 | .makeMap t none=>Lj (Y.E t) m
 | .makeMap t (some x)=>(match dg al x with
  |some (.i _ _)=>Lj (Y.E t) m| _=>none)
 | .lookup t x y ok=>QI Y.P Y.E t m (dg al x) (dg al y) ok| .mapUpdate t x y z=>bq o.dst (HN Y.E t m (dg al x) (dg al y) (dg al z)) λ_=>none
 | .insert t x y z=>bq o.dst (HN Y.E t m (dg al x) (dg al y) (dg al z)) λ_=>none
 | .convert s d x=>Lm Y m s d (dg al x)| .call { callee:=.builtin b,args,argTypes }=>YK Y m b argTypes.toList (n6 al args.toList)| _=>none
def lB(E:Env)(op:Op):Nat:=match op with
 | .move _ | .assign _ | .pick .. | .binOp .. | .load .. | .nilCheck _ | .fieldAddr .. | .field .. | .indexAddr .. | .index .. | .build .. | .makeFunc .. | .extract .. | .unOp .. | .slice ..=>0| .alloc _ | .box .. | .buildSlice .. | .makeSlice ..=>1
 | .convert s d _=>(match E d with
  |some { bL:=.int _,.. }=>0| _=>2)
 | .call { callee:=.builtin .len,argTypes,.. }=>(match argTypes.toList with
  |[t]=>(match E t with
   |some { bL:=.map ..,.. }=>2| _=>0)
  |_=>2)
 | .call { callee:=.builtin .cap,.. }=>0| .call { callee:=.builtin .max,.. }=>0| .call { callee:=.builtin .min,.. }=>0| .call { callee:=.builtin .unsafeSliceData,.. }=>0| _=>2
def pQ{R:Type}(dst:Option Nat)(al:be ao)(v:ao)(K:be ao->Option R):Option R:=bq dst (K al) λd=>QF v λv=>al.nH (some v) d K
def YL{R:Type}(call:ao->List ao->bo->Option (ao×bo))(dst:Option Nat)(f:Option ao)(l:Option (List ao))(al:be ao)(m:bo)(K:be ao->bo->Option R):Option R:=
 bq f none λf=>bq l none λl=>bq (call f l m) none λr=>bW (Nat.ble m.n r.2.n) (pQ dst al r.1 λal=>K al r.2) none
def YM{R:Type}(dst:Option Nat)(r:Option (List ao×Nat×Nat×(Nat->ao)))(al:be ao)(m:bo)(K:be ao->bo->Option R):Option R:=
 bq dst none λd=>bq r none λr=>u4 m r.1 r.2.1 λid m=>pQ (some d) al (r.2.2.2 id) λal=>K al m
def YN{R:Type}(dst:Option Nat)(v:Option ao)(al:be ao)(m:bo)(K:be ao->bo->Option R):Option R:=
 bq v none λv=>pQ dst al v λal=>K al m
def YO{R:Type}(dst:Option Nat)(n:Nat)(r:Option (ao×bo))(al:be ao)(K:be ao->bo->Option R):Option R:=
 bq r none λr=>bW (Nat.ble n r.2.n) (pQ dst al r.1 λal=>K al r.2) none
def YP{R:Type}(Y:gH)(k:Nat)(o:Oper)(al:be ao)(m:bo)(K:be ao->bo->Option R):Option R:=match k with
 |0=>YN o.dst (u3 Y.P Y.E Y.G m.t o.op al) al m K| 1=>YM o.dst (B9 Y.E o al) al m K| _=>YO o.dst m.n (QM Y m o al) al K
def zR{R:Type}(Y:gH)(call:ao->List ao->bo->Option (ao×bo))(o:Oper)(al:be ao)(m:bo)(K:be ao->bo->Option R):Option R:=
 match o.op with
 | .call { callee:=.value f,args,.. }=>YL call o.dst (dg al f) (n6 al args.toList) al m K| op=>YP Y (lB Y.E op) o al m K
def B'{R:Type}(o:Oper)(al:be ao)(K:be ao->Option R):Option R:=match o.dst with
 |none=>K al| some d=>al.nH (some (.t [])) d K
def u5(ops:List Oper)(o:Oper)(al:be ao):Option Bool:=match o.guard with
 |none=>some true
 |some (j,b)=>match(wo ops j).bind (·.dst)with
  |none=>none
  |some d=>match al.get d with
   |some (.b c)=>some (c == b)| some (.t _)=>some false| _=>none
def Et(Y:gH)(call:ao->List ao->bo->Option (ao×bo))(ops:List Oper)(l:List Oper):be ao->bo->Option (be ao×bo):=
 @List.rec Oper (λ_=>be ao->bo->Option (be ao×bo)) (λal m=>some (al,m)) (λo _ aN al m=>bq (u5 ops o al) none λw=>bW w (zR Y call o al m aN) (B' o al λal=>aN al m)) l
def Ca(E:Env)(ops:List Oper)(i:Nat):Nat:=bq (wo ops i) 2 λo=>lB E o.op
def x2(E:Env)(ops:List Oper):List Nat:=(List.range ops.length).filter λi=>Nat.beq (Ca E ops i) 2
def Eu(es gV:List Nat)(i:Nat):Nat:=(es.filter λe=>(gV.getD i 0).testBit e).length
def qI(es gV:List Nat)(i:Nat):Nat:=(es.filter λe=>!(gV.getD e 0).testBit i).length
def YQ(E:Env)(ops:List Oper)(es gV:List Nat)(j:Nat):List (Nat×Nat):=((List.range ops.length).filter λi=>!Nat.beq (Ca E ops i) 2&&Nat.beq (Eu es gV i) j).map λi=>(i,Ca E ops i)
def YR(E:Env)(ops:List Oper)(es gV:List Nat):List Nat->Nat->List (Nat×Nat)
 |[],j=>YQ E ops es gV j| e::l,j=>YQ E ops es gV j++(e,2)::YR E ops es gV l (j+1)
def HO(E:Env)(ops:List Oper):List (Nat×Nat):=YR E ops (x2 E ops) (lh ops) (x2 E ops) 0
def wv(ops:List Oper):List (Nat×Nat)->Nat->Bool
 |[],k=>Nat.beq k (2^ops.length-1)
 |(i,_)::l,k=>!k.testBit i&&(match ops[i]? with
  |some o=>F9 o k&&wv ops l (k ||| 2^i)| none=>false)
def Ln(gV:List Nat):List Nat->Bool
 |[]=>true| x::l=>l.all (λy=>(gV.getD y 0).testBit x)&&Ln gV l
def YS(E:Env)(ops:List Oper):Bool:=Be ops&&(wv ops (HO E ops) 0&&(Ln (lh ops) (x2 E ops)&&(((HO E ops).filter λr=>Nat.beq r.2 2).map (·.1) == x2 E ops)))
mutual
def Ev:ao->ao->Bool
 | .b x,.b w=>x == w| .i k x,.i l w=>IntKind.mI k l&&sH x w| .s x,.s w=>u2 x w| .pn,.pn=>true| .p i x,.p j w=>Nat.beq i j&&Nat.beq x w| .g i x,.g j w=>Nat.beq i j&&Nat.beq x w| .sn,.sn=>true| .sl i x n c,.sl j w m d=>Nat.beq i j&&(Nat.beq x w&&(Nat.beq n m&&Nat.beq c d))| .sx i x n c,.sx j w m d=>Nat.beq i j&&(Nat.beq x w&&(Nat.beq n m&&Nat.beq c d))| .gs i x n c,.gs j w m d=>Nat.beq i j&&(Nat.beq x w&&(Nat.beq n m&&Nat.beq c d))| .mn,.mn=>true| .m i,.m j=>Nat.beq i j| .f g l r,.f h m s=>Nat.beq g h&&(wx l m&&wx r s)| .y i,.y j=>Nat.beq i j| .fn,.fn=>true| .ni,.ni=>true| .t l,.t m=>wx l m| .a l,.a m=>wx l m| _,_=>false
def wx:List ao->List ao->Bool
 |[],[]=>true| x::l,w::m=>Ev x w&&wx l m| _,_=>false
end
inductive qJ where
 |made(i id:Nat)(l:List ao)(T:Nat)| load (i:Nat) (o:Oper) (al:be ao) (v:ao)
def o1(Y:gH)(call:ao->List ao->bo->Option (ao×bo))(ops:List Oper):List (Nat×Nat)->be ao->bo->List bo->List qJ->Option (be ao×bo×List bo×List qJ)
 |[],al,m,S,A=>some (al,m,m::S,A)|(i,k)::bi,al,m,S,A=>bq (wo ops i) none λo=>bq (u5 ops o al) none λw=>bW (Nat.beq (lB Y.E o.op) k) (bW w (bW (Nat.beq k 0) (bq (u3 Y.P Y.E Y.G m.t o.op al) none λv=>pQ o.dst al v λc6=>o1 Y call ops bi c6 m S (bW (qc o.op) (.load i o al v::A) A)) (bW (Nat.beq k 1) (bq o.dst none λd=>bq (B9 Y.E o al) none λr=>u4 m r.1 r.2.1 λid m=>pQ (some d) al (r.2.2.2 id) λal=>o1 Y call ops bi al m S (.made i id r.1 r.2.1::A)) (zR Y call o al m λal m'=>o1 Y call ops bi al m' (m::S) A))) (B' o al λal=>o1 Y call ops bi al m (bW (Nat.beq k 2) (m::S) S) A)) none
def Ew(S:List bo)(lo hi:Nat)(p:bo->Bool):Bool:=((S.drop lo).take (hi+1-lo)).all p
def QN(Y:gH)(o:Oper)(al:be ao)(v:ao)(m:bo):Bool:=match u3 Y.P Y.E Y.G m.t o.op al with
 |some u=>Ev u v| none=>false
def QO(id:Nat)(l:List ao)(T:Nat)(m:bo):Bool:=Nat.blt id m.n&&(match m.t.get id with
 |some (.cells cs l' fH)=>Nat.beq l' T&&(Nat.beq fH l.length&&(match cs.Ei 0 l.length (λdL=>some dL)with
  |some dL=>wx l dL| none=>false))
 |_=>false)
def QP(Y:gH)(es gV:List Nat)(S:List bo):qJ->Bool
 | .made i id l T=>Ew S (Eu es gV i) (qI es gV i) (QO id l T)| .load i o al v=>Ew S (Eu es gV i) (qI es gV i) (QN Y o al v)
def QQ(Y:gH)(call:ao->List ao->bo->Option (ao×bo))(ops:List Oper)(al:be ao)(m:bo):Option (be ao×bo):=
 bW (YS Y.E ops) (match o1 Y call ops (HO Y.E ops) al m [] []with
  |none=>none| some (al,m,S,A)=>bW (A.all (QP Y (x2 Y.E ops) (lh ops) S.reverse)) (some (al,m)) none) none
def Ex{R:Type}:List Nat->List ao->be ao->(be ao->Option R)->Option R
 |[],[],al,K=>K al| t::ps,v::vs,al,K=>al.nH (some v) t λal=>Ex ps vs al K
 |_,_,_,_=>none
def zS(Y:gH)(al:be ao)(m:be fG):List ResultVar->Option (List ao)
 |[]=>some []
 | .tmp t::l=>(match al.get t,zS Y al m l with
  |some v,some vs=>some (v::vs)| _,_=>none)
 | .cell t ty::l=>(match al.get t,Y.E ty,zS Y al m l with
  |some x,some i,some vs=>(match tK Y.G m x i.size λl=>Em i.bL.agg l with
   |some v=>some (v::vs)| none=>none)
  |_,_,_=>none)
abbrev pR:=s'×be ao×bo
abbrev tL:=Bool->Nat->Code->be ao->bo->Option pR
def YT:List ao->ao
 |[v]=>v| vs=>.t vs
def Lo(Y:gH)(al:be ao)(m:bo)(a0:List ResultVar):Option (ao×bo):=bq (zS Y al m.t a0) none λvs=>some (YT vs,m)
def YU(Y:gH)(r:Option pR)(a0:List ResultVar):Option (ao×bo):=match r with
 |some (.normal,al,m)=>Lo Y al m a0| some (.ret,al,m)=>Lo Y al m a0| _=>none
def Lp(Y:gH)(rec:tL)(g:Nat)(args:List ao)(m:bo):Option (ao×bo):=
 bq (Y.P.funcs[g]?) none λfn=>bq fn.body none λc=>bW (Nat.ble args.length fn.ntmps) (be.xX args (be.bare 12) 0 λal=>YU Y (rec true fn.ntmps c al m) fn.results.toList) none
def zT(Y:gH)(rec:tL)(g:Nat)(args:List ao)(m:bo):Option (ao×bo):=bq (Y.pr g args m) (Lp Y rec g args m) some
def QR(l:Nat)(e:Option fG)(jump:Option Code)(m:bo):Option (ao×bo):=match e with
 |some (.loop true n m5 ps fe body)=>m.t.nH (some (bq jump (.loop false n m5 ps fe body) λc=>.done c n m5 ps fe body)) l λt=>some (.b jump.isNone,⟨t,m.n⟩)
 |_=>none
def YV(l:Nat)(r:Option pR):Option (ao×bo):=bq r none λr=>QR l (r.2.2.t.get l) (Dq r.1) r.2.2
def QS(rec:tL)(l n:Nat)(body:Code)(e:Option fG)(al:be ao)(m:bo):Option (ao×bo):=match e with
 |some (.loop false fT m5 ps fe QT)=>m.t.nH (some (.loop true fT m5 ps fe QT)) l λt=>YV l (rec false n body al ⟨t,m.n⟩)
 |_=>none
def YW(rec:tL)(l n:Nat)(body:Code)(r:Option pR):Option (ao×bo):=match r with
 |some (.normal,al,m)=>QS rec l n body (m.t.get l) al m| _=>none
def QU(rec:tL)(l:Nat)(args:List ao)(m:bo):Option (ao×bo):=match m.t.get l with
 |some (.loop false n m5 ps fe body)=>Ex ps args m5 λal=>YW rec l n body (rec false n fe al m)
 |_=>none
def Lq(Y:gH)(rec:tL)(f:ao)(args:List ao)(m:bo):Option (ao×bo):=match f with
 | .f g l r=>zT Y rec g (l++(args++r)) m| .y l=>QU rec l args m| _=>none
def QV:Code->Option s'
 | .exit id=>some (.exit id)| .goto l=>some (.goto l)| .ret=>some .ret| _=>none
def HP(r:Option pR)(k:be ao->bo->Option pR):Option pR:=match r with
 |some (.normal,al,m)=>k al m| r=>r
def YX(id:Nat)(r:Option pR):Option pR:=match r with
 |some (.exit j,al,m)=>bW (Nat.beq j id) (some (.normal,al,m)) (some (.exit j,al,m))| r=>r
def Lr(r:Option (be ao×bo)):Option pR:=bq r none λr=>some (.normal,r.1,r.2)
def YY(v:Option ao)(x y:Option pR):Option pR:=match v with
 |some (.b b)=>bW b x y| _=>none
def HQ(rec:tL)(gE:Bool)(n:Nat)(c:Code)(k:Nat):Code->be ao->bo->Option pR:=@Nat.rec (λ_=>Code->be ao->bo->Option pR) (λ_ _ _=>none)
 (λ_ aN x al m=>match rec gE n x al m with
  |some (.goto l,al,m)=>bq (findLabel c l) none λbi=>aN bi al m
  |r=>r) k
def YZ(l:Nat)(al:be ao)(r:Option (ao×bo)):Option pR:=bq r none λr=>match r.2.t.get l with
 |some (.loop false ..)=>r.2.t.nH none l λt=>some (.normal,al,⟨t,r.2.n⟩)
 |some (.done c ..)=>bq (QV c) none λex=>r.2.t.nH none l λt=>some (ex,al,⟨t,r.2.n⟩)
 |_=>none
def QW(Y:gH)(rec:tL)(gE:Bool)(n:Nat)(v:Option ao)(ps:List Nat)(fe body:Code)(al:be ao)(m:bo):Option pR:=match gE,v with
 |true,some (.f g [] r)=>B7 m (.loop false n al ps fe body) λl m=>YZ l al (Lp Y rec g (.y l::r) m)
 |_,_=>none
def QX(Y:gH)(f:Nat)(rec:tL):tL:=λgE n c al m=>match c with
 | .skip=>some (.normal,al,m)| .label _=>some (.normal,al,m)| .ret=>some (.ret,al,m)| .exit id=>some (.exit id,al,m)| .goto l=>some (.goto l,al,m)| .seq x y=>HP (rec gE n x al m) (rec gE n y)| .block id c=>YX id (rec gE n c al m)| .cond c x y=>YY (dg al c) (rec gE n x al m) (rec gE n y al m)| .loop c=>HP (rec gE n c al m) (rec gE n (.loop c))| .region _ ops false=>Lr (Et Y (Lq Y rec) ops.toList ops.toList al m)| .region _ ops true=>Lr (QQ Y (Lq Y rec) ops.toList al m)| .scope c=>HQ rec gE n c f c al m| .rangeFunc x ps fe body=>QW Y rec gE n (dg al x) ps.toList fe body al m| .refuse _=>none
def lV(Y:gH)(f:Nat):tL:=@Nat.rec (λ_=>tL) (λ_ _ _ _ _=>none) (λf aN=>QX Y f aN) f
end
section
variable{α R:Type}
def kD(b:Bool)(x y:α):bW b x y=bif b then x else y:=by cases b<;>rfl
def cp{o:Option α}{f:α->Option R}{r:R}(h:bq o none f=some r):∃ v,o=some v/\f v=some r:=by
 cases o with
 |none=>cases h| some v=>exact⟨v,rfl,h⟩
def fU{b:Bool}{x:Option α}{r:α}(h:bW b x none=some r):b=true/\x=some r:=by
 cases b with
 |true=>exact⟨rfl,h⟩| false=>cases h
def zU{b:Bool}{x:Option α}{r:α}(h:bW b none x=some r):b=false/\x=some r:=by
 cases b with
 |false=>exact⟨rfl,h⟩| true=>cases h
def be.HR(x:Option α)(l r:be α)(k:Nat):(be.node x l r).get k=bif Nat.beq k 0 then x else bif Nat.beq (k%2) 1 then l.get (k/2)else r.get (k/2-1):=by show bW _ _ (bW _ _ _)=_;rw[kD,kD];rfl
def be.o2(v:Option α):∀ (t:be α) (k:Nat),∃ bm:be α,(∀ {R:Type} (K:be α->R),t.nH v k K=K bm)/\∀ j x,bm.get j=some x->(j=k/\v=some x)\/(j≠k/\t.get j=some x)
 | .nil,k=>by
  cases ae:Nat.beq k 0 with
  |true=>
   have:=dQ ae;subst this;refine⟨.node v .nil .nil,λK=>rfl,λj x h=>?_⟩;rw[be.HR]at h;cases ai:Nat.beq j 0 with
   |true=>rw[ai]at h;exact .inl ⟨dQ ai,h⟩
   |false=>
    rw[ai]at h;cases hm:Nat.beq (j%2) 1<;>(rw[hm]at h;cases h)
  |false=>refine⟨.nil,λK=>?_,λj x h=>by cases h⟩;show bW _ _ _=_;rw[kD,ae];rfl
 | .node x l r,k=>by
  cases ae:Nat.beq k 0 with
  |true=>
   have:=dQ ae;subst this;refine⟨.node v l r,λK=>rfl,λj y h=>?_⟩;rw[be.HR]at h |-;cases ai:Nat.beq j 0 with
   |true=>rw[ai]at h;exact .inl ⟨dQ ai,h⟩| false=>rw[ai]at h;exact .inr ⟨(λe=>by subst e;cases ai),h⟩
  |false=>
   have lP:k≠0:=λe=>by subst e;cases ae
   cases hm:Nat.beq (k%2) 1 with
   |true=>
    have sf:=dQ hm;obtain⟨dL,aa,ab⟩:=be.o2 v l (k/2);refine⟨.node x dL r,λK=>?_,λj y h=>?_⟩;·show bW _ _ (bW _ _ _)=_;rw[kD,kD,ae];show(bif Nat.beq (k%2) 1 then _ else _)=_;rw[hm];exact aa _
    ·rw[be.HR]at h |-;cases ai:Nat.beq j 0 with
     |true=>rw[ai]at h;exact .inr ⟨λe=>by have:=dQ ai;omega,h⟩
     |false=>
      rw[ai]at h;have aj9:j≠0:=λe=>by subst e;cases ai
      cases qB:Nat.beq (j%2) 1 with
      |true=>
       have aka:=dQ qB;rw[qB]at h;rcases ab _ _ h with⟨e,ah⟩ | ⟨e,ah⟩;·exact .inl ⟨by omega,ah⟩
       ·exact .inr ⟨λcW=>e (by rw[cW]),ah⟩
      |false=>rw[qB]at h;exact .inr ⟨(λe=>by subst e;rw[hm]at qB;cases qB),h⟩
   |false=>
    have sf:k%2≠1:=λe=>by rw[e]at hm;cases hm
    obtain⟨r',aa,ab⟩:=be.o2 v r (k/2-1);refine⟨.node x l r',λK=>?_,λj y h=>?_⟩;·show bW _ _ (bW _ _ _)=_;rw[kD,kD,ae];show(bif Nat.beq (k%2) 1 then _ else _)=_;rw[hm];exact aa _
    ·rw[be.HR]at h |-;cases ai:Nat.beq j 0 with
     |true=>rw[ai]at h;exact .inr ⟨λe=>by have:=dQ ai;omega,h⟩
     |false=>
      rw[ai]at h;have aj9:j≠0:=λe=>by subst e;cases ai
      cases qB:Nat.beq (j%2) 1 with
      |true=>rw[qB]at h;exact .inr ⟨(λe=>by subst e;rw[hm]at qB;cases qB),h⟩
      |false=>
       have aka:j%2≠1:=λe=>by rw[e]at qB;cases qB
       rw[qB]at h;rcases ab _ _ h with⟨e,ah⟩ | ⟨e,ah⟩;·exact .inl ⟨by omega,ah⟩
       ·exact .inr ⟨λcW=>e (by rw[cW]),ah⟩
def be.Ey(t:be α):∀ (n off:Nat) (K:List α->Option R) (r:R),t.Ei off n K=some r->∃ l,l.length=n/\(∀ i,i<n->t.get (off+i)=l[i]?)/\K l=some r
 |0,off,K,r,h=>⟨[],rfl,λi hi=>by omega,h⟩
 |n+1,off,K,r,h=>by
  have bd:bq (t.get off) none (λv=>t.Ei (off+1) n λl=>K (v::l))=some r:=h;obtain⟨v,ah,bd⟩:=cp bd;obtain⟨l,aa,ab,ak⟩:=be.Ey t n (off+1) _ r bd;refine⟨v::l,by simp[aa],λi hi=>?_,ak⟩;cases i with
  |zero=>simpa using ah| succ i=>have:=ab i (by omega);rw[show off+(i+1)=off+1+i by omega,this];simp
def be.x3:∀ (l:List α) (t:be α) (off:Nat),∃ bm:be α,(∀ {R:Type} (K:be α->R),be.xX l t off K=K bm) /\ ∀ j x,bm.get j=some x->(off<=j/\l[j-off]?=some x)\/((j<off\/off+l.length<=j)/\t.get j=some x)
 |[],t,off=>⟨t,λK=>rfl,λj x h=>.inr ⟨by simp;omega,h⟩⟩
 |v::l,t,off=>by
  obtain⟨t1,aa,ab⟩:=be.o2 (some v) t off;obtain⟨t2,ak,aJ⟩:=be.x3 l t1 (off+1);refine⟨t2,λK=>(aa _).trans (ak K),λj x h=>?_⟩;rcases aJ j x h with⟨a8,ba⟩ | ⟨a8,ba⟩;·exact .inl ⟨by omega,by rw[show j-off=(j-(off+1))+1 by omega];simpa using ba⟩
  ·rcases ab j x ba with⟨rfl,e⟩ | ⟨e,bP⟩
   ·exact .inl ⟨cc _,by simp at e;simp[e]⟩
   ·exact .inr ⟨by simp only[dx];omega,bP⟩
end
def QY(n:Nat)(K:Nat->R):rS n K=K n:=rfl
def akb(n:Int)(K:Int->R):YD n K=K n:=by cases n<;>rfl
def akc(b:Bool)(K:Bool->R):YE b K=K b:=by cases b<;>rfl
def akd(v:ao)(K:ao->R):QF v K=K v:=by
 cases v with
 |b x=>exact akc x λx=>K (.b x)
 |i k n=>exact akb n λn=>K (.i k n)
 |_=>rfl
def QZ(a b:Nat):Nat.beq a b=decide (a=b):=by
 by_cases h:a=b
 ·subst h;simp
 ·rw[hp h];simp[h]
def Ls(a b:Nat):Nat.ble a b=decide (a<=b):=by
 by_cases h:a<=b
 ·rw[BX h];simp[h]
 ·cases ag:Nat.ble a b with
  |false=>simp[h]| true=>exact absurd (bJ ag) h
def Cb(a b:Int):sH a b=decide (a=b):=by
 cases a<;>cases b<;>simp only[sH,QZ]<;>simp
 omega
def Lt(a b:Int):B2 a b=decide (a<=b):=by
 cases a<;>cases b<;>simp only[B2]
 ·rw[Ls];simp only[KY];exact Int.ofNat_le.symm
 ·symm;simp only[sb];rename_i a b;have:=Int.negSucc_lt_zero b;have:(0:Int)<=Int.ofNat a:=D6 a;omega
 ·symm;simp only[hR];rename_i a b;have:=Int.negSucc_lt_zero a;have:(0:Int)<=Int.ofNat b:=D6 b;omega
 ·rw[Ls];simp only[KY,Int.negSucc_eq];omega
def ake(a b:Int):C9 a b=decide (a<b):=by
 unfold C9;rw[Lt];by_cases h:a<b
 ·simp[h]
 ·simp[h];omega
def akf(op:BinOp)(x y:Int):Ql op x y=w6 op x y:=by cases op<;>simp only[Ql,w6,Cb,ake,Lt]
def zV(k:IntKind)(n:Int):wm k n=k.wrap n:=by
 cases n with
 |negSucc n=>rfl
 |ofNat n=>
  simp only[wm];cases h:Nat.ble n (Lc k)with
  |false=>rfl
  |true=>
   have bd:=bJ h;simp only[ca];cases k<;>simp only[Lc]at bd<;>simp only[IntKind.wrap,IntKind.signed,IntKind.bits]<;>simp<;>omega
def akg(a b:Int):Yd a b=a+b:=by cases a<;>cases b<;>rfl
def akh(a b:Int):Qm a b=a-b:=by
 cases a<;>cases b<;>try rfl
 rename_i a b;simp only[Qm];cases h:Nat.ble b a with
 |false=>rfl| true=>have:=bJ h;show((a-b:Nat):Int)=(a:Int)-b;omega
def aki(a b:Int):Ye a b=a*b:=by cases a<;>cases b<;>rfl
def akj(a b:Int):Yf a b=a.tdiv b:=by cases a<;>cases b<;>rfl
def akk(a b:Int):Yg a b=a.tmod b:=by cases a<;>cases b<;>rfl
def akl(a:Int)(j:Nat):Yh a j=a*2^j:=by
 cases a with
 |negSucc a=>rfl| ofNat a=>show((a*2^j:Nat):Int)=(a:Int)*2^j;simp
def akm(a:Int)(j:Nat):Yi a j=a.fdiv (2^j):=by
 cases a with
 |negSucc a=>rfl| ofNat a=>show((a/2^j:Nat):Int)=(a:Int).fdiv (2^j);rw[show(2:Int)^j=((2^j:Nat):Int) by simp];rw[J3 _ (D6 _)];simp
def Y0(j b:Nat):(bif Nat.ble j b then j else b)=min j b:=by
 rw[Ls];by_cases h:j<=b
 ·simp[h,ud h]
 ·simp[h];omega
def zW{a:Nat}(h:a<=18446744073709551615):(BitVec.ofInt IntKind.u64.bits (Int.ofNat a)).toNat=a:=by show(BitVec.ofInt 64 (a:Int)).toNat=a;rw[BitVec.ofInt_natCast,KX];omega
def wrap64{a:Nat}(h:a<=18446744073709551615):IntKind.u64.wrap (a:Int)=Int.ofNat a:=by show IntKind.u64.wrap (.ofNat a)=_;rw[<-zV];simp only[wm,Lc,BX h,ca]
def Lu{op:BinOp}{k:IntKind}{x y r:Int}(h:Ek op k x y=some r):ug op k x y=some r:=by
 unfold Ek at h;split at h
 ·rename_i a b;cases ap:(Nat.ble a 18446744073709551615&&Nat.ble b 18446744073709551615)with
  |false=>rw[ap]at h;cases h
  |true=>
   rw[ap]at h;rw[cB]at ap;have a2:=bJ ap.1;have ag:=bJ ap.2;have HS:a<2^64:=by omega
   have Lv:b<2^64:=by omega
   simp only[ca]at h;split at h;·rw[<-h];simp only[ug,J7,zW a2,zW ag];rw[wrap64 (by have:=Nat.and_lt_two_pow a Lv;omega)];rfl
   ·rw[<-h];simp only[ug,BitVec.toNat_or,zW a2,zW ag];rw[wrap64 (by have:=Nat.or_lt_two_pow HS Lv;omega)];rfl
   ·rw[<-h];simp only[ug,BitVec.toNat_xor,zW a2,zW ag];rw[wrap64 (by have:=Nat.xor_lt_two_pow HS Lv;omega)];rfl
   ·rw[<-h];have aB:(~~~(BitVec.ofInt IntKind.u64.bits (Int.ofNat b))).toNat=18446744073709551615-b:=by rw[BitVec.toNat_not,zW ag];rfl
    simp only[ug,J7,zW a2,aB];rw[wrap64 (by have:=Nat.and_lt_two_pow a (show 18446744073709551615-b<2^64 by omega);omega)];rfl
   ·cases h
 ·exact h
def akn(a b:UInt8):Qn a b=decide (a=b):=by unfold Qn;rw[QZ];simp only[KY];exact UInt8.toNat_inj
def Ez:∀ (l m:List UInt8),u2 l m=decide (l=m)
 |[],[]=>by simp[u2]
 |[],_::_=>by simp[u2]
 |_::_,[]=>by simp[u2]
 |a::l,b::m=>by
  simp only[u2,akn,Ez l m];by_cases h:a=b;·subst h;simp
  ·simp[h]
def zX{α:Type}:∀ (l:List α) (n:Nat),wo l n=l[n]?
 |[],n=>by simp[wo]
 |v::l,n=>by
  unfold wo;cases n with
  |zero=>rfl| succ n=>exact(zX l n).trans (by simp)
def HT{α:Type}:∀ (l:List α) (n:Nat),B4 l n=l.drop n
 |[],n=>by simp[B4]
 |v::l,n=>by
  unfold B4;cases n with
  |zero=>rfl| succ n=>exact(HT l n).trans (by simp)
def Y1{n:Nat}{l r:List ao}(h:B3 n l=some r):r=l.take n/\r.length=n:=by
 induction n generalizing l r with
 |zero=>simp[B3]at h;subst h;simp
 |succ n aN=>
  cases l with
  |nil=>simp[B3]at h
  |cons v l=>
   simp only[B3]at h;split at h;·rename_i q aP;obtain⟨rfl,ab⟩:=aN aP;cases h;simp at ab |-;omega
   ·cases h
structure Loc where
 b:Nat
 o:Nat
 c:Nat
abbrev bO:=Nat->Option Loc
def bO.le(D bC:bO):Prop:=∀ i a,D i=some a->bC i=some a
mutual
def aT(D:bO):ao->Value->Prop
 | .b x,u=>u=.bool x| .i k n,u=>u=.int k n| .s l,u=>u=.string ⟨l.toArray⟩| .pn,u=>u=.pointer none| .p id off,u=>∃ a,D id=some a/\u=.pointer (some ⟨a.b,a.o+off,none⟩)| .g n off,u=>u=.pointer (some ⟨n,off,none⟩)| .sn,u=>u=.slice none 0 0| .sl id off n c,u=>∃ a,D id=some a/\u=.slice (some ⟨a.b,a.o+off,none⟩) n c| .sx id off e n,u=>∃ a,D id=some a/\e+n<=a.c/\u=.slice (some ⟨a.b,a.o+off,none⟩) n (a.c-e)| .gs n off k c,u=>u=.slice (some ⟨n,off,none⟩) k c| .so,u=>∃ a c,u=.slice (some a) 0 c| .mn,u=>u=.map none| .m id,u=>∃ a,D id=some a/\u=.map (some a.b)| .f g l r,u=>∃ vs ws,bN D l vs/\bN D r ws/\u=.func (.func g) vs.toArray ws.toArray| .y id,u=>∃ a,D id=some a/\u=.func (.yield a.b) #[] #[]| .fn,u=>u=.nilFunc| .ni,u=>u=.nilIface| .HD t v,u=>∃ x,aT D v x/\u=.iface t x| .t l,u=>∃ vs,bN D l vs/\u=.tuple vs.toArray| .a l,u=>∃ vs,bN D l vs/\u=.agg vs.toArray
def bN(D:bO):List ao->List Value->Prop
 |[],us=>us=[]| v::l,us=>∃ x xs,aT D v x/\bN D l xs/\us=x::xs
end
section
variable{D bC:bO}
mutual
def aT.mono(h:D.le bC):∀ {v:ao} {u:Value},aT D v u->aT bC v u
 | .b _,_,ah | .i _ _,_,ah | .s _,_,ah | .pn,_,ah | .g _ _,_,ah | .sn,_,ah | .gs ..,_,ah | .so,_,ah | .mn,_,ah | .fn,_,ah | .ni,_,ah=>by simpa only[aT]using ah
 | .p ..,_,ah | .sl ..,_,ah | .m _,_,ah | .y _,_,ah=>by simp only[aT]at ah |-;obtain⟨a,aa,ab⟩:=ah;exact⟨a,h _ _ aa,ab⟩
 | .sx ..,_,ah=>by simp only[aT]at ah |-;obtain⟨a,aa,ab⟩:=ah;exact⟨a,h _ _ aa,ab⟩
 | .f _ l r,_,ah=>by simp only[aT]at ah |-;obtain⟨vs,ws,aa,ab,ak⟩:=ah;exact⟨vs,ws,bN.mono h aa,bN.mono h ab,ak⟩
 | .HD _ v,_,ah=>by simp only[aT]at ah |-;obtain⟨x,aa,ab⟩:=ah;exact⟨x,aT.mono h aa,ab⟩
 | .t l,_,ah=>by simp only[aT]at ah |-;obtain⟨x,aa,ab⟩:=ah;exact⟨x,bN.mono h aa,ab⟩
 | .a l,_,ah=>by simp only[aT]at ah |-;obtain⟨x,aa,ab⟩:=ah;exact⟨x,bN.mono h aa,ab⟩
def bN.mono(h:D.le bC):∀ {l:List ao} {us:List Value},bN D l us->bN bC l us
 |[],_,ah=>by simpa only[bN]using ah
 |v::l,_,ah=>by simp only[bN]at ah |-;obtain⟨x,xs,aa,ab,ak⟩:=ah;exact⟨x,xs,aT.mono h aa,bN.mono h ab,ak⟩
end
def bN.nil:bN D [] []:=by simp[bN]
def bN.cons{v:ao}{l:List ao}{x:Value}{xs:List Value}(h:aT D v x)(k:bN D l xs):bN D (v::l) (x::xs):=by simp only[bN];exact⟨x,xs,h,k,rfl⟩
def bN.kE{v:ao}{l:List ao}{us:List Value}(h:bN D (v::l) us):∃ x xs,aT D v x/\bN D l xs/\us=x::xs:=by simpa only[bN]using h
def bN.nI{us:List Value}(h:bN D [] us):us=[]:=by simpa only[bN]using h
def bN.len:∀ {l:List ao} {us:List Value},bN D l us->us.length=l.length
 |[],_,h=>by rw[h.nI];rfl
 |v::l,_,h=>by obtain⟨x,xs,aa,ab,rfl⟩:=h.kE;simp[bN.len ab]
def bN.get:∀ {l:List ao} {us:List Value} {i:Nat} {v:ao},bN D l us->l[i]?=some v->∃ x,us[i]?=some x/\aT D v x
 |[],_,i,v,h,hi=>by simp at hi
 |w::l,_,i,v,h,hi=>by
  obtain⟨x,xs,aa,ab,rfl⟩:=h.kE;cases i with
  |zero=>simp at hi;subst hi;exact⟨x,rfl,aa⟩| succ i=>simpa using bN.get ab (by simpa using hi)
def bN.Q0:∀ {l:List ao} {us:List Value},us.length=l.length->(∀ (i:Nat) (v:ao),l[i]?=some v->∃ x,us[i]?=some x/\aT D v x)->bN D l us
 |[],us,ay,h=>by have:us=[]:=iK (by simpa using ay);subst this;exact .nil
 |w::l,us,ay,h=>by
  cases us with
  |nil=>simp at ay| cons x xs=>obtain⟨y,aE,aa⟩:=h 0 w rfl;simp at aE;subst aE;exact .cons aa (bN.Q0 (by simpa using ay) λi v hi=>by simpa using h (i+1) v (by simpa using hi))
def bN.append:∀ {l:List ao} {us:List Value} {m:List ao} {ws:List Value},bN D l us->bN D m ws->bN D (l++m) (us++ws)
 |[],_,m,ws,h,k=>by rw[h.nI];exact k
 |w::l,_,m,ws,h,k=>by obtain⟨x,xs,aa,ab,rfl⟩:=h.kE;exact .cons aa (bN.append ab k)
def bN.take:∀ {l:List ao} {us:List Value} (n:Nat),bN D l us->bN D (l.take n) (us.take n)
 |[],_,n,h=>by rw[h.nI];simpa using bN.nil
 |w::l,_,n,h=>by
  obtain⟨x,xs,aa,ab,rfl⟩:=h.kE;cases n with
  |zero=>simpa using bN.nil| succ n=>simpa using bN.cons aa (bN.take n ab)
def bN.drop:∀ {l:List ao} {us:List Value} (n:Nat),bN D l us->bN D (l.drop n) (us.drop n)
 |[],_,n,h=>by rw[h.nI];simpa using bN.nil
 |w::l,us,n,h=>by
  cases n with
  |zero=>simpa using h| succ n=>obtain⟨x,xs,aa,ab,rfl⟩:=h.kE;simpa using bN.drop n ab
def bN.GJ{l:List ao}{us:List Value}(h:bN D l us):∀ n,bN D (B8 n l) ((List.replicate n us).flatten)
 |0=>by simpa[B8]using bN.nil
 |n+1=>by rw[GZ,Pe];exact h.append (bN.GJ h n)
def aT.bool{x:Bool}{u:Value}(h:aT D (.b x) u):u=.bool x:=by simpa only[aT]using h
def aT.int{k:IntKind}{n:Int}{u:Value}(h:aT D (.i k n) u):u=.int k n:=by simpa only[aT]using h
def aT.str{l:List UInt8}{u:Value}(h:aT D (.s l) u):u=.string ⟨l.toArray⟩:=by simpa only[aT]using h
def aT.ptr{id off:Nat}{u:Value}(h:aT D (.p id off) u):∃ a,D id=some a/\u=.pointer (some ⟨a.b,a.o+off,none⟩):=by simpa only[aT]using h
def aT.qK{id off:Nat}{u:Value}(h:aT D (.g id off) u):u=.pointer (some ⟨id,off,none⟩):=by simpa only[aT]using h
def aT.sJ{id off n c:Nat}{u:Value}(h:aT D (.sl id off n c) u):∃ a,D id=some a/\u=.slice (some ⟨a.b,a.o+off,none⟩) n c:=by simpa only[aT]using h
def aT.u6{id off e n:Nat}{u:Value}(h:aT D (.sx id off e n) u):∃ a,D id=some a/\e+n<=a.c/\u=.slice (some ⟨a.b,a.o+off,none⟩) n (a.c-e):=by simpa only[aT]using h
def aT.Q1{id off n c:Nat}{u:Value}(h:aT D (.gs id off n c) u):u=.slice (some ⟨id,off,none⟩) n c:=by simpa only[aT]using h
def aT.Lw{u:Value}(h:aT D .so u):∃ a c,u=.slice (some a) 0 c:=by simpa only[aT]using h
def aT.Cc{u:Value}(h:aT D .sn u):u=.slice none 0 0:=by simpa only[aT]using h
def aT.agg{l:List ao}{u:Value}(h:aT D (.a l) u):∃ vs,bN D l vs/\u=.agg vs.toArray:=by simpa only[aT]using h
def aT.Q2{l:List ao}{u:Value}(h:aT D (.t l) u):∃ vs,bN D l vs/\u=.tuple vs.toArray:=by simpa only[aT]using h
def aT.Lx{l:List ao}(h:bN D l vs):aT D (.a l) (.agg vs.toArray):=by simp only[aT];exact⟨vs,h,rfl⟩
def aT.Ly{l:List ao}(h:bN D l vs):aT D (.t l) (.tuple vs.toArray):=by simp only[aT];exact⟨vs,h,rfl⟩
def aT.undef:aT D (.t []) undef:=by simp only[aT];exact⟨[],.nil,rfl⟩
def aT.cells{v:ao}{u:Value}(h:aT D v u):bN D v.cells u.cells.toList:=by
 cases v<;>simp only[ao.cells]
 case a l=>obtain⟨vs,aa,rfl⟩:=h.agg;simpa[Value.cells]using aa
 all_goals
  have key:∀ w:Value,(∀ cs,w≠.agg cs)->w.cells.toList=[w]:=λw hw=>by cases w<;>first | rfl | exact(hw _ rfl).elim
  rw[key u ?_];·exact .cons h .nil
  ·rintro cs rfl;simp[aT]at h
def aT.one{v:ao}{u:Value}(h:aT D v u)(aH:v.one=true):u.oneCell'=true:=by
 cases v<;>simp only[ao.one,k7]at aH<;>simp only[aT]at h
 all_goals first
  |(subst h;rfl)|(obtain⟨_,_,rfl⟩:=h;rfl)|(obtain⟨_,_,_,rfl⟩:=h;rfl)|(obtain⟨_,_,_,_,rfl⟩:=h;rfl)
def bN.one{l:List ao}{us:List Value}(h:bN D l us)(aH:l.all ao.one=true):gm us=true:=by refine fx.2 λx ad=>?_;obtain⟨i,hi⟩:=KW ad;have aV:=(h5.1 hi).1;rw[h.len]at aV;obtain⟨y,aE,ah⟩:=h.get (da aV);rw[hi]at aE;cases aE;exact ah.one (fx.1 aH _ (bx aV))
def aT.Y2{u:Value}{v:ao}(h:HE u=some v):aT D v u:=by
 unfold HE at h;split at h<;>cases h<;>simp[aT]
def bN.EA:∀ {us:List Value} {l:List ao},xY us=some l->bN D l us
 |[],l,h=>by simp only[xY]at h;cases h;exact .nil
 |u::us,l,h=>by
  simp only[xY]at h;split at h;·rename_i x m aa ab;cases h;exact .cons (.Y2 aa) (bN.EA ab)
  ·cases h
def aT.of{u:Value}{v:ao}(h:Ej u=some v):aT D v u:=by
 unfold Ej at h;split at h
 ·split at h
  ·rename_i l ay;cases h;have:=bN.EA (D:=D) ay;simpa using aT.Lx this
  ·cases h
 ·exact .Y2 h
def Lz{agg:Bool}{l:List ao}{v:ao}(h:Em agg l=some v)(ay:bN D l vs):aT D v (pack agg vs):=by
 unfold Em at h;cases agg with
 |true=>simp only[ca]at h;cases h;exact .Lx ay
 |false=>
  simp only[b']at h;split at h;·cases h;obtain⟨x,xs,aa,ab,rfl⟩:=ay.kE;rw[ab.nI];exact aa
  ·cases h
def Q3:∀ {cs:List ao} {off:Nat} {vs r:List ao} {us xs:List Value},x0 cs off vs=some r->bN D cs us->bN D vs xs->bN D r (ck us off xs)/\off+xs.length<=us.length
 |cs,0,[],r,us,xs,h,ap,ah=>by simp[x0]at h;subst h;rw[ah.nI];exact⟨by simpa[ck]using ap,by simp⟩
 |[],0,_::_,r,us,xs,h,ap,ah=>by simp[x0]at h
 |[],_+1,_,r,us,xs,h,ap,ah=>by simp[x0]at h
 |c::cs,0,v::vs,r,us,xs,h,ap,ah=>by
  simp only[x0]at h;split at h
  ·rename_i q aP;cases h;obtain⟨x,us,aa,ab,rfl⟩:=ap.kE;obtain⟨y,xs,ak,aJ,rfl⟩:=ah.kE;obtain⟨bB,b5⟩:=Q3 aP ab aJ;refine⟨?_,by simp at b5 |-;omega⟩;have e:ck (x::us) 0 (y::xs)=y::ck us 0 xs:=by simp[ck]
   rw[e];exact .cons ak bB
  ·cases h
 |c::cs,n+1,vs,r,us,xs,h,ap,ah=>by
  simp only[x0]at h;split at h
  ·rename_i q aP;cases h;obtain⟨x,us,aa,ab,rfl⟩:=ap.kE;obtain⟨bB,b5⟩:=Q3 aP ab ah;refine⟨?_,by simp;omega⟩;have e:ck (x::us) (n+1) xs=x::ck us n xs:=by simp only[ck,qb,mU,xz,true_and];rw[show n+1+xs.length=(n+xs.length)+1 by omega,Hv]
   rw[e];exact .cons aa bB
  ·cases h
inductive HU(D:bO):List (Nat×ao)->List (Nat×Value)->Prop
 |nil:HU D [] []| cons {i v u l us} (h:aT D v u) (k:HU D l us):HU D ((i,v)::l) ((i,u)::us)
def LA{place:Nat->Option (Nat×Nat)}:∀ {vs:List (Nat×ao)} {cells r:List ao} {us:List Value} {xs:List (Nat×Value)},zQ place cells vs=some r->bN D cells us->HU D vs xs -> ∃ a0,s3 place us xs=some a0/\bN D r a0
 |[],cells,r,us,_,h,ap,.nil=>by simp only[zQ]at h;cases h;exact⟨us,rfl,ap⟩
 |(i,v)::vs,cells,r,us,_,h,ap,.cons (u:=u) (us:=xs) ah iH=>by
  simp only[zQ]at h;split at h;·cases h
  ·rename_i off size aC;cases ag:Nat.beq v.cells.length size with
   |false=>rw[ag]at h;cases h
   |true=>
    rw[ag]at h;simp only[ca]at h;split at h
    ·rename_i cs nq;obtain⟨aa,ab⟩:=Q3 nq ap ah.cells;obtain⟨a0,ak,aJ⟩:=LA h aa iH;refine⟨a0,?_,aJ⟩;have ay:u.cells.size=v.cells.length:=by simpa using ah.cells.len
     simp only[s3,aC,ay,ag];rw[show Nat.ble (off+size) us.length=true by rw[Ls,hR];have:=dQ ag;simp at ab;omega];exact ak
    ·cases h
end
def gj(D:bO)(x:dA)(v:ao):Prop:=(∃ u,x=.val u/\aT D v u)\/∃ q,v=.b q/\x=.lit q
def gj.val{D:bO}{u:Value}{v:ao}(h:aT D v u):gj D (.val u) v:=.inl ⟨u,rfl,h⟩
def gj.mono{D bC:bO}(dr:D.le bC){x:dA}{v:ao}(h:gj D x v):gj bC x v:=by
 rcases h with⟨u,rfl,h⟩ | ⟨q,rfl,rfl⟩
 ·exact .val (h.mono dr)
 ·exact .inr ⟨q,rfl,rfl⟩
def qL(D:bO)(F:Fr)(al:be ao):Prop:=∀ t v,al.get t=some v->gj D (F t) v
def ji(D:bO)(F:Fr)(al:be ao)(xs:List Operand):Prop:=∀ x∈xs,∀ v,dg al x=some v->gj D (di F x) v
def qL.op{D:bO}{F:Fr}{al:be ao}(h:qL D F al)(xs:List Operand):ji D F al xs:=λx _ v ah=>by
 cases x with
 |tmp t=>exact h t v ah
 |const c=>
  have jZ:Ej c=some v:=ah;cases c with
  |bool q=>
   have:v=.b q:=by simp[Ej,HE]at jZ;exact jZ.symm
   exact .inr ⟨q,this,rfl⟩
  |_=>exact .val (.of jZ)
 |global g=>
  have:v=.g g 0:=by simpa[dg]using ah.symm
  subst this;exact .val (by simp[aT])
 |func f=>
  have:v=.f f [] []:=by simpa[dg]using ah.symm
  subst this;exact .val (by simp only[aT];exact⟨[],[],.nil,.nil,rfl⟩)
section
variable{D:bO}{F:Fr}{al:be ao}{xs:List Operand}
def gj.dw{x:Operand}{v:ao}(h:gj D (di F x) v):∃ u,bE F x=.val u/\aT D v u:=by
 unfold bE Go.V.dw;rcases h with⟨u,h,ah⟩ | ⟨q,rfl,h⟩
 ·rw[h];exact⟨u,rfl,ah⟩
 ·rw[h];exact⟨.bool q,rfl,by simp[aT]⟩
def gj.wy{x:dA}{v:ao}(h:gj D x v)(ah:∀ q,v≠.b q):∃ u,x=.val u/\aT D v u:=by
 rcases h with h | ⟨q,h,_⟩
 ·exact h
 ·exact(ah q h).elim
def ji.bE(h:ji D F al xs){x:Operand}(ad:x∈xs){v:ao}(ah:dg al x=some v):∃ u,bE F x=.val u/\aT D v u:=(h x ad v ah).dw
def ji.mH(h:ji D F al xs):∀ {l:List Operand} {vs:List ao},(∀ x∈l,x∈xs)->n6 al l=some vs->∃ us,mH F l=some us/\bN D vs us
 |[],vs,_,ah=>by simp only[n6]at ah;cases ah;exact⟨[],rfl,.nil⟩
 |x::l,vs,ay,ah=>by
  simp only[n6]at ah;split at ah;·rename_i v vs aa ab;cases ah;obtain⟨u,aG,a8⟩:=h.bE (ay x (by simp)) aa;obtain⟨us,a7,ba⟩:=ji.mH h (λy aE=>ay y (by simp[aE])) ab;refine⟨u::us,?_,.cons a8 ba⟩;show jX (di F) (x::l)=_;rw[jX];have ej:dw (di F) x=.val u:=aG;have q4:jX (di F) l=some us:=a7;rw[ej,q4]
  ·cases ah
def ji.parts(h:ji D F al xs):∀ {l:List (Nat×Operand)} {vs:List (Nat×ao)},(∀ x∈l.map (·.2),x∈xs)->En al l=some vs->∃ us,AV F l=some us/\HU D vs us
 |[],vs,_,ah=>by simp only[En]at ah;cases ah;exact⟨[],rfl,.nil⟩
 |(i,x)::l,vs,ay,ah=>by
  simp only[En]at ah;split at ah;·rename_i v vs aa ab;cases ah;obtain⟨u,aG,a8⟩:=h.bE (ay x (by simp)) aa;obtain⟨us,a7,ba⟩:=ji.parts h (λy aE=>ay y (by simp only[cb,ee];exact .inr aE)) ab;refine⟨(i,u)::us,?_,.cons a8 ba⟩;show s4 (di F) ((i,x)::l)=_;rw[s4];have ej:dw (di F) x=.val u:=aG;have q4:s4 (di F) l=some us:=a7;rw[ej,q4]
  ·cases ah
end
inductive qM(D:bO):List (ao×ao)->List MapEntry->Prop
 |nil:qM D [] []| cons {k v es e l} (ae:aT D k e.key) (ah:aT D v e.val) (t:qM D es l):qM D ((k,v)::es) (e::l)
def h2(n:Nat):Code->Bool
 | .seq x y=>h2 n x&&h2 n y| .block _ c=>h2 n c| .cond _ x y=>h2 n x&&h2 n y| .loop c=>h2 n c| .scope c=>h2 n c| .region _ ops _=>xj n ops| .rangeFunc _ ps fe body=>h2 n fe&&(h2 n body&&ps.toList.all λt=>Nat.blt t n)| _=>true
structure Y3(D:bO)(busy:Bool)(n:Nat)(al:be ao)(ps:List Nat)(fe body:Code)(L:Loop):Prop where
 aY:L.state=bif busy then .busy else .ready
 qg:L.pending=none
 sz:L.tmps.size=n
 al:∀ t v,al.get t=some v->aT D v (L.tmps.getD t undef)
 ps:L.params.toList=ps
 fe:L.assign=fe
 body:L.body=body
 xG:h2 n L.assign=true
 nx:h2 n L.body=true
 op:∀ t∈L.params.toList,t<n
inductive lC(D:bO)(E:Env)(M:List aD)(a:Loc):fG->Prop
 |cells{cs:be ao}{T fH:Nat}(arr:Array Value)(aH:a.o=0)(a':(⟨a.b,.cells arr T (0,0)⟩:aD)∈M)(ay:a.o+fH<=arr.size)(ap:∀ i v,i<fH->cs.get i=some v->∃ x,arr[a.o+i]?=some x/\aT D v x)(ae:∀ i,E T=some i->arr.size=a.o+a.c*i.size)(hm:a.c<=maxLen):lC D E M a (.cells cs T fH)| map {es:List (ao×ao)} (l:List MapEntry) (clock:Nat) (a':(⟨a.b,.map l.toArray clock⟩:aD)∈M) (he:qM D es l):lC D E M a (.map es)| loop {busy n al ps fe body} (L:Loop) (a':(⟨a.b,.loop L⟩:aD)∈M) (b4:Y3 D busy n al ps fe body L):lC D E M a (.loop busy n al ps fe body)| done {c n al ps fe body} (L:Loop) (a':(⟨a.b,.loop L⟩:aD)∈M) (ar:L.state=.done) (aC:L.pending=some c):lC D E M a (.done c n al ps fe body)
def qM.mono{D bC:bO}(dr:D.le bC){es:List (ao×ao)}{l:List MapEntry}(h:qM D es l):qM bC es l:=by
 induction h with
 |nil=>exact .nil| cons ae ah t aN=>exact .cons (ae.mono dr) (ah.mono dr) aN
def lC.mono{D bC:bO}{a:Loc}(dr:D.le bC)(a':∀ x∈M,x.num=a.b->x∈M'){e:fG}(h:lC D E M a e):lC bC E M' a e:=by
 cases h with
 |cells arr az aa ab ak aJ bB=>exact .cells arr az (a' _ aa rfl) ab (λi v hi au=>by obtain⟨x,a8,ba⟩:=ak i v hi au;exact⟨x,a8,ba.mono dr⟩) aJ bB| map l clock aa ab=>exact .map l clock (a' _ aa rfl) (ab.mono dr)| loop L aa ab=>exact .loop L (a' _ aa rfl) { ab with al:=λt v av=>(ab.al t v av).mono dr }| done L aa ab ak=>exact .done L (a' _ aa rfl) ab ak
def HV(G:GT)(I:aI):Prop:=∀ g cs,G g=some cs->∃ (arr:Array Value) (T:Nat) (f:Nat×Nat),I g=some (.cells arr T f)/\∀ i v,cs.get i=some v->∃ x,arr[i]?=some x/\∀ D,aT D v x
structure c8(Y:gH)(D:bO)(m:bo)(I:aI)(M:List aD):Prop where
 iQ:∀ id e a,m.t.get id=some e->D id=some a->lC D Y.E M a e
 inj:∀ id iR e cW a bM,m.t.get id=some e->m.t.get iR=some cW->D id=some a->D iR=some bM->a.b=bM.b->id=iR
 jQ:∀ id a,D id=some a->id<m.n
 qK:HV Y.G I
section
variable{Y:gH}{D:bO}{m:bo}{I:aI}{M:List aD}{R:Type}
def wz(h:c8 Y D m I M){x:ao}{u:Value}(ad:aT D x u){n:Nat}{K:List ao->Option R}{r:R}(af:tK Y.G m.t x n K=some r) :
  ∃ aS l vs,u=.pointer (some aS)/\cM I M aS n vs/\bN D l vs/\K l=some r:=by
 have key:∀ (arr:Array Value) (cQ off:Nat) (l:List ao),l.length=n->cQ+off+n<=arr.size->(∀ i,i<n->∀ v,l[i]?=some v->∃ x,arr[cQ+off+i]?=some x/\aT D v x) ->
   ((arr.toList.drop (cQ+off)).take n).length=n/\bN D l ((arr.toList.drop (cQ+off)).take n):=by
  intro arr cQ off l ay dj au;have c2:((arr.toList.drop (cQ+off)).take n).length=n:=by simp;omega
  refine⟨c2,bN.Q0 (by rw[c2,ay]) λi v hi=>?_⟩;have fv:i<n:=by rw[<-ay];exact(h5.1 hi).1
  obtain⟨x,aa,ab⟩:=au i fv v hi;refine⟨x,?_,ab⟩;rw[k6,bQ fv,nj];simpa using aa
 unfold tK at af;split at af
 ·rename_i id off;split at af
  ·rename_i cs T fH au;cases ag:Nat.ble (Nat.add off n) fH with
   |false=>rw[ag]at af;cases af
   |true=>
    rw[ag]at af;have jq:off+n<=fH:=bJ ag;simp only[ca]at af;obtain⟨l,aa,ab,ak⟩:=be.Ey cs n off K r af;obtain⟨a,a2,hu⟩:=ad.ptr;have he:=h.iQ _ _ _ au a2;obtain⟨arr,-,a',ay,ap,-,-⟩:=he;obtain⟨ez,cJ⟩:=key arr a.o off l aa (by omega) λi hi v ah=>by have:=ap (off+i) v (by omega) (by rw[ab i hi,ah]);rw[<-s0]at this;exact this
    exact⟨_,l,_,hu,⟨rfl,arr,T,(0,0),.inr ⟨_,a',rfl,rfl⟩,rfl,ez⟩,cJ,ak⟩
  ·cases af
 ·rename_i g off;split at af
  ·rename_i cs au;obtain⟨l,aa,ab,ak⟩:=be.Ey cs n off K r af;obtain⟨arr,T,f,bt,ap⟩:=h.qK _ _ au;have hu:=ad.qK;have gq:∀ i,i<n->∀ v,l[i]?=some v->∃ x,arr[0+off+i]?=some x/\aT D v x:=λi hi v ah=>by obtain⟨x,a8,ba⟩:=ap (off+i) v (by rw[ab i hi,ah]);exact⟨x,by simpa using a8,ba D⟩
   by_cases aB:n=0;·subst aB;have:l=[]:=iK aa;subst this;exact⟨_,[],[],hu,⟨rfl,arr,T,f,.inl bt,by simp,rfl⟩,.nil,ak⟩
   ·have dj:0+off+n<=arr.size:=by
     have aV:n-1<l.length:=by omega
     obtain⟨x,a8,_⟩:=gq (n-1) (by omega) l[n-1] (da aV);have:=(lJ.1 a8).1;omega
    obtain⟨ez,cJ⟩:=key arr 0 off l aa dj gq;simp only[db]at ez cJ;exact⟨_,l,_,hu,⟨rfl,arr,T,f,.inl bt,rfl,ez⟩,cJ,ak⟩
  ·cases af
 ·cases af
end
def ako{k:IntKind}(h:IntKind.mI k eZ=true):k=eZ:=IntKind.Da h
def LB(l m:List UInt8):decide ((⟨l.toArray⟩:ByteArray)=⟨m.toArray⟩)=decide (l=m):=by
 simp only[KY];constructor
 ·intro h;simpa using h
 ·rintro rfl;rfl
def akp(a b:ByteArray):(a == b)=decide (a=b):=by
 rw[r6];simp only[hR];constructor
 ·intro h
  first | exact eq_of_beq h | exact vB (eq_of_beq (a:=a.data) (b:=b.data) h)
 ·rintro rfl
  first | exact F7 _ | exact F7 a.data
section
variable{P:Program}{E:Env}{D:bO}
def LC(aM:cU P E){o:Nat}{l:List ao}{x:ao}(h:zP E t o l=some x){us:List Value}(ay:bN D l us):∃ u,aT D x u/\∀ w,(part t us.toArray o).run P w=.ok u w:=by
 unfold zP at h;obtain⟨i,aa,h⟩:=cp h;obtain⟨az,h⟩:=zU h;have g5:i.size≠0:=λe=>by rw[e]at az;cases az
 obtain⟨r,ab,h⟩:=cp h;obtain⟨aG,a7⟩:=Y1 ab;rw[HT]at aG;have c2:=ay.len;subst aG;refine⟨_,Lz h ((ay.drop o).take _),λw=>?_⟩;have:=NW (aM _ _ aa) (cs:=us.toArray) (off:=o) (by rw[hU,tb]at a7;simp;omega) w;simpa using this
def Q4{F:Nat->ao->ao->Option Bool}{l m:List ao}{α β:Type}{pl:α->Nat×Nat}{g:α->β->Sem (ForInStep β)}{cz s1:β}{w:World}:∀ (L:List α) {b:Bool},B5 F E l m (L.map pl)=some b -> (∀ a∈L,∀ x y c,zP E (pl a).1 (pl a).2 l=some x->zP E (pl a).1 (pl a).2 m=some y->F (pl a).1 x y=some c->(g a cz).run P w=.ok (if c then .yield cz else .done s1) w) -> (forIn L cz g).run P w=.ok (if b then cz else s1) w
 |[],b,h,_=>by cases h;simp[c0]
 |a::L,b,h,au=>by
  simp only[cb]at h;unfold B5 at h;obtain⟨x,aa,h⟩:=cp h;obtain⟨y,ab,h⟩:=cp h;obtain⟨c,ak,h⟩:=cp h;simp only[List.forIn_cons,cj];rw[au a (by simp) x y c aa ab ak];rw[kD]at h;cases c with
  |true=>simp only[p2,bV];exact Q4 L h λbM a2=>au bM (by simp[a2])
  |false=>cases h;simp[bV,c0]
def Q5(aM:cU P E):∀ (d:Nat) {t:Nat} {x y:ao} {b:Bool} {u v:Value},xZ P E d t x y=some b->aT D x u->aT D y v->∀ n,d<=n->∀ w,(Op.equalIn n t u v).run P w=.ok b w
 |0,t,x,y,b,u,v,h,ad,aE,n,aB,w=>by cases h
 |d+1,t,x,y,b,u,v,h,ad,aE,0,aB,w=>by omega
 |d+1,t,x,y,b,u,v,h,ad,aE,n+1,aB,w=>by
  unfold xZ at h;obtain⟨i,hi,h⟩:=cp h;obtain⟨qj,fF,nT⟩:=(aM _ _ hi).fl;rw[Op.equalIn];simp only[cj,run_underlying fF,bV];split at h
  ·rename_i a bM ar _;cases h;have a8:qj=.bool:=by cases qj<;>simp_all[fk]
   subst a8;rw[ad.bool,aE.bool];rfl
  ·rename_i eZ k a cJ bM ar _;obtain⟨aG,h⟩:=fU h;cases h;have a8:qj=.int eZ:=by cases qj<;>simp_all[fk]
   subst a8;rw[ad.int,aE.int];rw[ako aG];have ag:(a == bM)=sH a bM:=by
    rw[Cb];by_cases e:a=bM;·subst e;simp
    ·simp[e]
   simp[ag]
  ·rename_i a bM ar _;cases h;have a8:qj=.string:=by cases qj<;>simp_all[fk]
   subst a8;rw[ad.str,aE.str];show Result.ok _ _=_;rw[Ez,<-LB];congr 1;exact akp _ _
  ·rename_i cN l m ar _;obtain⟨aG,h⟩:=fU h;unfold Yk at aG;rw[fF]at aG;cases qj with
   |struct fields=>
    simp only[cB,ta,fx,hR]at aG;obtain⟨aG,a7⟩:=aG;rw[ar]at nT;simp only[fk,FL.struct.injEq]at nT;subst nT;obtain⟨us,aa,rfl⟩:=ad.agg;obtain⟨ws,ab,rfl⟩:=aE.agg;simp only[cj,run_program,bV,aG,k7,l5];rw[<-Array.forIn_toList];rw[Q4 (P:=P) (s1:=⟨some false,⟨⟩⟩) fields.toList h (λf aA x y c sK kc ap=>by
     obtain⟨p,ez,cJ⟩:=LC aM sK aa;obtain⟨q,hc,mq⟩:=LC aM kc ab;have aP:=Q5 aM d ap ez hc n (by omega) w;simp only[a7 f aA,p2,ne_eq,not_false_eq_true,cj,cJ,mq,bV,aP];cases c<;>simp[c0])]
    cases b<;>simp[bV,c0]
   |_=>cases aG
  ·rename_i len e l m ar _;obtain⟨aF,hq,h⟩:=cp h;have a8:qj=.array len e:=by cases qj<;>simp_all[fk]
   subst a8;obtain⟨us,aa,rfl⟩:=ad.agg;obtain⟨ws,ab,rfl⟩:=aE.agg;simp only[cj,(aM _ _ hq).run_sizeOf,bV,UJ];have af:List.range' 0 ([:len]:Std.Legacy.Range).size=List.range len:=by simp[Std.Legacy.Range.size,w3]
   rw[af];rw[Q4 (P:=P) (s1:=⟨some false,⟨⟩⟩) (List.range len) h (λf aA x y c sK kc ap=>by
    obtain⟨p,ez,cJ⟩:=LC aM sK aa;obtain⟨q,hc,mq⟩:=LC aM kc ab;have aP:=Q5 aM d ap ez hc n (by omega) w;simp only[cj,cJ,mq,bV,aP];cases c<;>simp[c0])]
   cases b<;>simp[bV,c0]
  ·cases h
end
section
variable{X:cV}{D:bO}
def Y4(aM:cU X.P X.E){op:BinOp}{l m:List ao}{v:ao}{x:Operand}{us ws:List Value}(h:HF X.P X.E op t l m=some v)(ay:bN D l us)(hm:bN D m ws)(ae:∀ u,aT D v u->K u) :
  gn X.P op t x y (.val (.agg us.toArray)) (.val (.agg ws.toArray)) K O:=by
 unfold HF at h;obtain⟨au,h⟩:=zU h;obtain⟨b,aa,h⟩:=cp h;have aP:=Q5 (D:=D) aM 8 aa (u:=.agg us.toArray) (v:=.agg ws.toArray) (by simp only[aT];exact⟨us,ay,rfl⟩) (by simp only[aT];exact⟨ws,hm,rfl⟩) Op.maxDepth (by decide);split at h
 ·cases h;refine .mk _ _ _ rfl rfl (λw=>?_) (ae _ (by simp only[aT];rfl));simp only[cj,run_eqGuard_agg (hm:=au),bV,binOp,Op.equal,aP,c0]
 ·cases h;refine .mk _ _ _ rfl rfl (λw=>?_) (ae _ (by simp only[aT];rfl));simp only[cj,run_eqGuard_agg (hm:=au),bV,binOp,Op.equal,aP,c0]
 ·cases h
end
def EB(x y:Int):Int:=IntKind.u64.wrap ((BitVec.ofInt 64 x ||| BitVec.ofInt 64 y).toNat:Int)
def LD(x y:BitVec 64):EB x.toNat y.toNat=((x ||| y).toNat:Int):=by unfold EB;rw[K9,K9,X4]
def Q6(x y:Int):Int:=IntKind.u64.wrap ((BitVec.ofInt 64 x &&& BitVec.ofInt 64 y).toNat:Int)
def akq(x y:BitVec 64):Q6 x.toNat y.toNat=((x &&& y).toNat:Int):=by unfold Q6;rw[K9,K9,X4]
def akr(x y:BitVec 64):sH (x.toNat:Int) (y.toNat:Int)=decide (x=y):=by rw[Cb,<-ajY,r6];simp
def EC(v:α)(x:R)(f:α->R):bq (some v) x f=f v:=rfl
def Y5(a9 mid post:List Value)(k:Nat)(vs:List Value)(h:k+vs.length<=mid.length):ck (a9++(mid++post)) (a9.length+k) vs=a9++(ck mid k vs++post):=by
 unfold ck;have aa:(a9++(mid++post)).take (a9.length+k)=a9++mid.take k:=by rw[Hw,Nat.add_sub_cancel_left,ft (by omega),A9 (by omega)]
 have ab:(a9++(mid++post)).drop (a9.length+k+vs.length)=mid.drop (k+vs.length)++post:=by rw[s0,UK,PW h]
 rw[aa,ab];simp
def aks(f:α->List Value)(size:Nat)(aA:∀ x,(f x).length=size)(l:List α)(i:Nat)(hi:i<l.length)(k:Nat)(vs:List Value)(ae:k+vs.length<=size)(ld:α)(ad:ck (f l[i]) k vs=f ld) :
  ck (l.flatMap f) (i*size+k) vs=(l.set i ld).flatMap f:=by
 have e:l=l.take i++l[i]::l.drop (i+1):=by rw[<-eR hi,sp]
 have aG:l.flatMap f=(l.take i).flatMap f++(f l[i]++(l.drop (i+1)).flatMap f):=by
  calc l.flatMap f=(l.take i++l[i]::l.drop (i+1)).flatMap f:=congrArg _ e
   _=_:=by rw[hd,kr]
 have a7:((l.take i).flatMap f).length=i*size:=by rw[iv f size aA,Pa (by omega)]
 rw[aG,<-a7,Y5 _ _ _ _ _ (by rw[aA];exact ae),F3,bQ hi,hd,kr,ad]
def akt{aR:List Value}{j m:Nat}(h:j+vs.length<=m)(hm:m<=aR.length):(ck aR j vs).take m=ck (aR.take m) j vs:=by
 unfold ck;have aa:(aR.take m).take j=aR.take j:=by rw[Bb,ud (by omega)]
 have ab:(aR.take m).drop (j+vs.length)=(aR.drop (j+vs.length)).take (m-(j+vs.length)):=by rw[F8]
 have ak:(aR.take j).length=j:=by rw[hU];omega
 rw[aa,ab,dT,dT,Hw,ak,ft (by omega),Hw,ft (by omega:vs.length<=m-j)];congr 3;omega
def aX.put(f:α->List Value)(size:Nat)(aA:∀ x,(f x).length=size){l:List α}{e:Nat}(h:os.ok size (l.flatMap f)){i:Nat}(hi:i<l.length)(k:Nat)(ae:k+vs.length<=size)(aa:gm vs=true)(ld:α)(ad:ck (f l[i]) k vs=f ld)(a9 post:List aD)(a':M=a9++(os.aq e++post)){g:Nat}(au:os.a=some g)(aku:off=i*size+k){K:List aD->Prop}
  (gb:∀ (br:aX),br.val=os.val->br.a=os.a->br.n=os.n->br.ok size ((l.set i ld).flatMap f)->K (a9++(br.aq e++post))):b2 M ⟨g,off,none⟩ vs K:=by
 have A0:=h.len;rw[iv f size aA]at A0;obtain⟨a,n,c,aR⟩:=os;have ay:l.length*size=n*size:=A0;simp only at au;subst au;obtain⟨dG,eI,eG,iA⟩:=h.cap g rfl;simp only at dG eI eG iA;have ag:n*size<=c*size:=vA _ eI;have iJ:i*size+size<=l.length*size:=by have:=vA size (show i+1<=l.length from hi);rwa [lL,oy]at this
 subst a';subst aku;refine b2.mk a9 post aR.toArray e rfl rfl ?_ aa ?_
 ·simp only[ow];omega
 ·have:=gb ⟨some g,n,c,ck aR (i*size+k) vs⟩ rfl rfl rfl ⟨?_,(λh=>by cases h),λdJ au=>?_⟩
  ·simpa[aX.aq]using this
  ·rw[iv f size aA,oP];exact ay
  ·cases au;refine⟨?_,eI,eG,?_⟩
   ·simp only[ck,cm,hU,tb];omega
   ·simp only;rw[akt (by omega) (by omega),iA,aks f size aA l i hi k vs ae ld ad]
def akv(l:List Value)(k:Nat)(v:Value)(h:k<l.length):ck l k [v]=l.set k v:=by rw[F3,bQ h];simp[ck]
def aX.LF(f:α->List Value)(size:Nat)(aA:∀ x,(f x).length=size){l:List α}{e:Nat}(h:os.ok size (l.flatMap f)){i:Nat}(hi:i<l.length)(ld:α)(aa:gm (f ld)=true)(a9 post:List aD)(a':M=a9++(os.aq e++post))(bH:(os.a.map λg=>(⟨g,0,none⟩:Addr))=some aS){K:List aD->Prop}
  (gb:∀ (br:aX),br.val=os.val->br.a=os.a->br.n=os.n->br.ok size ((l.set i ld).flatMap f)->K (a9++(br.aq e++post))):b2 M (aS.add (i*size)) (f ld) K:=by
 obtain⟨g,au,rfl⟩:∃ g,os.a=some g/\aS=⟨g,0,none⟩:=by
  cases a2:os.a with
  |none=>rw[a2]at bH;cases bH| some g=>rw[a2]at bH;cases bH;exact⟨g,rfl,rfl⟩
 rw[eP (⟨g,0,none⟩:Addr) rfl];refine aX.put f size aA h hi 0 (vs:=f ld) (by rw[aA];omega) aa ld ?_ a9 post a' au (by simp) gb;unfold ck;simp[aA]
def aX.LG(f:α->List Value)(size:Nat)(aA:∀ x,(f x).length=size){l:List α}{e:Nat}(h:os.ok size (l.flatMap f)){i:Nat}(hi:i<l.length)(k:Nat)(ae:k+vs.length<=size)(aa:gm vs=true)(ld:α)(ad:ck (f l[i]) k vs=f ld)(a9 post:List aD)(a':M=a9++(os.aq e++post))(bH:(os.a.map λg=>(⟨g,0,none⟩:Addr))=some aS){K:List aD->Prop}
  (gb:∀ (br:aX),br.val=os.val->br.a=os.a->br.n=os.n->br.ok size ((l.set i ld).flatMap f)->K (a9++(br.aq e++post))):b2 M ((aS.add (i*size)).add k) vs K:=by
 obtain⟨g,au,rfl⟩:∃ g,os.a=some g/\aS=⟨g,0,none⟩:=by
  cases a2:os.a with
  |none=>rw[a2]at bH;cases bH| some g=>rw[a2]at bH;cases bH;exact⟨g,rfl,rfl⟩
 rw[eP (⟨g,0,none⟩:Addr) rfl,eP _ rfl];exact aX.put f size aA h hi k ae aa ld ad a9 post a' au (by simp) gb
def Y6(w:dt){k:Nat}(ae:k<64):IntKind.u64.wrap ((BitVec.ofInt 64 ((w.toNat:Int).fdiv (2^(min k 64))) &&& BitVec.ofInt 64 1).toNat:Int)=bif w.getLsbD k then 1 else 0:=by
 have aB:w.toNat<18446744073709551616:=w.isLt;have dF:min k 64=k:=by omega
 have aG:(w.toNat:Int).fdiv (2^k)=((w.toNat/2^k:Nat):Int):=by rw[J3 _ (by exact Int.le_of_lt (Int.pow_pos (by decide)))];simp
 rw[dF,aG];have a7:(BitVec.ofInt 64 ((w.toNat/2^k:Nat):Int) &&& BitVec.ofInt 64 1).toNat=w.toNat/2^k%2:=by
  have aa:BitVec.ofInt 64 ((w.toNat/2^k:Nat):Int)=BitVec.ofNat 64 (w.toNat/2^k):=(show ∀ m:Nat,BitVec.ofInt 64 (m:Int)=BitVec.ofNat 64 m from λm=>by simp) _;have ab:BitVec.ofInt 64 1=BitVec.ofNat 64 1:=by decide
  rw[aa,ab,J7,KX,KX];have ak:w.toNat/2^k%2^64=w.toNat/2^k:=P1 (Nat.lt_of_le_of_lt (Nat.div_le_self _ _) aB);rw[ak,show 1%2^64=1 by decide,Nat.and_one_is_mod]
 rw[a7];have cr:IntKind.u64.wrap ((w.toNat/2^k%2:Nat):Int)=((w.toNat/2^k%2:Nat):Int):=by have:w.toNat/2^k%2<2:=Nat.mod_lt _ (by decide);unfold IntKind.wrap;simp only[IntKind.bits,IntKind.signed];simp;omega
 rw[cr];have ea:w.getLsbD k=w.toNat.testBit k:=rfl;rw[ea,Nat.testBit_eq_decide_div_mod_eq];have:w.toNat/2^k%2<2:=Nat.mod_lt _ (by decide);by_cases h:w.toNat/2^k%2=1
 ·rw[h];rfl
 ·have az:w.toNat/2^k%2=0:=by omega
  rw[az];rfl
def Q7{k:Nat}(ae:k<64):IntKind.u64.wrap (1*2^(min k 64))=((lA k).toNat:Int):=by
 have dF:min k 64=k:=by omega
 have aa:(2:Nat)^k<2^64:=Nat.pow_lt_pow_right (by decide) ae;have e:(lA k).toNat=2^k:=by unfold lA;rw[BitVec.toNat_shiftLeft];simp only[KX];rw[Nat.shiftLeft_eq,show 1%2^64=1 by decide,oy,P1 aa]
 rw[dF,e,Int.one_mul];have a7:((2:Int)^k)=((2^k:Nat):Int):=by simp
 rw[a7];unfold IntKind.wrap;simp only[IntKind.bits,IntKind.signed];simp;omega
def o3(w:dt):Value:=.int .u64 w.toNat
def Y7{w:dt}{i:Nat}(aV:i<64)(ab:¬ IntKind.u64.wrap ((BitVec.ofInt 64 ((w.toNat:Int).fdiv (2^(min i 64))) &&& BitVec.ofInt 64 1).toNat:Int)=0):w.getLsbD i=true:=by
 have ag:=Y6 w aV;cases au:w.getLsbD i with
 |true=>rfl| false=>rw[au]at ag;exact absurd ag ab
def Y8{w:dt}{i:Nat}(aV:i<64)(ab:IntKind.u64.wrap ((BitVec.ofInt 64 ((w.toNat:Int).fdiv (2^(min i 64))) &&& BitVec.ofInt 64 1).toNat:Int)=0):w.getLsbD i=false:=by
 have ag:=Y6 w aV;cases au:w.getLsbD i with
 |false=>rfl| true=>rw[au,ab]at ag;cases ag
def Y9{a b:Int}(h:(!decide (a=b))=true):¬ a=b:=by simpa using h
def Y'{a b:Int}(h:(!decide (a=b))=false):a=b:=by simpa using h
def Za(w:dt):Spec Tryz.prog 105 [.int .u64 w.toNat] I M0 λv I' M'=>I'=I/\∃ os:aX,os.ok 1 ((bitsOf w 64).map λn:Nat=>Value.int .i64 n)/\v=os.val/\M'=os.aq 3++M0:=by
 refine bZ [] a5 Tryz.func105 rfl rfl rfl ?_;intro B az;refine de.inv (ι:=Nat×aX) (λx=>{ bj:=[(0,.val (.int .u64 w.toNat)),(3,.val x.2.val),(5,.val (.int .i64 x.1))],cI:=I,c1:=x.2.aq 3++M0 }) (λx=>x.1<=64/\x.2.ok 1 ((bitsOf w x.1).map λn:Nat=>Value.int .i64 n)) (λx=>64-x.1) ?_ ?_
 ·exact⟨(0,hZ),⟨by simp,lv 1⟩,.refl,hG,.nil⟩
 rintro⟨i,os⟩⟨hi,bS⟩;simp only at hi bS;have jj:os.n<=64:=by have aa:=bS.len;rw[bF]at aa;have:=aj4 w i;omega
 refine aZ.mk (λh=>?_) (λh=>?_)
 rotate_left
 ·have cA:i=64:=by have:¬ (i:Int)<64:=dO h;omega
  rw[cA]at bS;exact⟨_,_,.refl,rfl,os,bS,rfl,rfl⟩
 have aV:i<64:=by have:(i:Int)<64:=dh h;omega
 refine w7.mk i rfl ?_;refine aZ.mk (λab=>?_) (λab=>?_)
 ·have hw:=Y7 (w:=w) aV (Y9 ab);refine bX.mk λb9 kX uR=>?_;refine bw.o0 a5 rfl (by simp) (e:=3) rfl rfl rfl os bS rfl (cs:=[.int .i64 i]) rfl rfl rfl [] M0 rfl (by omega) (by show(os.n+1)*8<=_;omega) ?_;intro kd n7 en mg;refine bg.mk _ (cK (i:=i) (by omega)) ?_;refine⟨(i+1,kd),⟨⟨aV,?_⟩,by simp only;omega⟩,.refl,hG,.nil⟩;simp only;rw[Yc,hw,cP];exact mg
 ·have hw:=Y8 (w:=w) aV (Y' ab);refine bg.mk _ (cK (i:=i) (by omega)) ?_;refine⟨(i+1,os),⟨⟨aV,?_⟩,by simp only;omega⟩,.refl,hG,.nil⟩;simp only;rw[Yc,hw,b',ef];exact bS
def zY(w:dt):ao:=.i .u64 w.toNat
def Zb{e:Nat}(he:E e=some aF)(ar:aF.size=1)(a2:aF.bL.agg=false)(P:List ao)(x:ao)(r:List ao):zP E e (P.length*aF.size) (P++x::r)=some x:=by unfold zP;rw[he,EC,ar,e0,HT,List.drop_left,a2];rfl
def Zc{F:Nat->ao->ao->Option Bool}{E:Env}{e:Nat}{aF:dD}(he:E e=some aF)(ar:aF.size=1)(a2:aF.bL.agg=false)(bG:∀ a b,F e (.i .u64 a) (.i .u64 b)=some (sH a b)):∀ (l m:List dt) (ED EE:List ao),l.length=m.length->ED.length=EE.length -> B5 F E (ED++l.map zY) (EE++m.map zY) ((List.range' ED.length l.length).map λi=>(e,i*aF.size))=some (decide (l=m))
 |[],[],ED,EE,_,_=>rfl| [],_::_,_,_,h,_=>by simp at h
 |_::_,[],_,_,h,_=>by simp at h
 |a::l,b::m,ED,EE,h,aC=>by
  have aN:=Zc he ar a2 bG l m (ED++[zY a]) (EE++[zY b]) (by simpa using h) (by simpa using aC);rw[cm,pL,dT,dT,rL,rL]at aN;rw[dx,FI,cb,cb,cb,B5,Zb he ar a2,EC,aC,Zb he ar a2,EC,<-aC];rw[show F e (zY a) (zY b)=some (decide (a=b)) by rw[<-akr];exact bG _ _,EC,kD];by_cases aG:a=b;·subst aG;simp only[Ks,p2];rw[aN];simp
  ·simp[aG]
def k3(m:List dt):List Value:=(List.range 64).map λi=>o3 (m.getD i 0)
def LH{m:List dt}(h:m.length=64):k3 m=m.map o3:=by
 unfold k3;apply nU
 ·simp[h]
 ·intro i aa ab;have:i<m.length:=by simpa using ab
  simp[bz,this]
def tM(m:List dt):(k3 m).length=64:=by simp[k3]
def akw{x:Operand}{p q:List dt}(aC:p.length=64)(aP:q.length=64){V:Value->Prop}{other:Prop}(h:V (.bool (decide (p=q)))) :
  gn Tryz.prog .eql 156 x y (.val (.agg (k3 p).toArray)) (.val (.agg (k3 q).toArray)) V other:=by
 rw[LH aC,LH aP];have ah:∀ l:List dt,bN (λ_=>none) (l.map zY) (l.map o3):=λl=>by
  induction l with
  |nil=>exact .nil| cons a l aN=>exact .cons (by simp only[zY,o3,aT]) aN
 refine Y4 (X:=⟨Tryz.prog,qk,[],0,0,default,λ_=>none,[],none⟩) (D:=λ_=>none) (v:=.b (decide (p=q))) a5 ?_ (ah p) (ah q) (λu hu=>by simp only[aT]at hu;rw[hu];exact h);show HF Tryz.prog qk .eql 156 _ _=_;obtain⟨i1,aa,fo⟩:∃ i,qk 156=some i/\i.bL=.array 64 62:=⟨_,rfl,rfl⟩;obtain⟨i2,ab,ik,akx⟩:∃ i,qk 62=some i/\i.bL=.int .u64/\i.size=1:=⟨_,rfl,rfl,rfl⟩;have bG:∀ a b,xZ Tryz.prog qk 7 62 (.i .u64 a) (.i .u64 b)=some (sH a b):=λa b=>by simp only[xZ,ab,EC,ik];rfl
 have ae:=Zc (F:=xZ Tryz.prog qk 7) ab akx (by rw[ik];rfl) bG p q [] [] (by omega) rfl;unfold HF;rw[xZ];simp only[aa,EC,fo,ab];rw[iq,iq,fL,aC]at ae;rw[w3,ae,show Tryz.prog.eqGuardType Tryz.prog.depth 156=false by kernel_rfl];rfl
structure dS where
 n:Nat
 m:List dt
 w:dt
def dS.cells(s:dS):List Value:=.int .i64 s.n::(k3 s.m++[o3 s.w])
def dS.val(s:dS):Value:=.agg s.cells.toArray
def dS.aky(s:dS):Prop:=s.m.length=64/\s.n<=64
def wA(b:Nat)(m:List dt):aD:=⟨b,.cells (k3 m).toArray 156 (0,0)⟩
def HW{b:Nat}{m:List dt}(a':wA b m∈M):cM I M (⟨b,0,none⟩:Addr) 64 (k3 m):=
 ⟨rfl,_,_,_,.inr ⟨_,a',rfl,rfl⟩,by simp only[vM];exact ft (by simp[tM]),tM m⟩
def Zd{b:Nat}{m:List dt}(a':wA b m∈M){j:Nat}(ai:j<64):cM I M ((⟨b,0,none⟩:Addr).add (j*1)) 1 [o3 (m.getD j 0)]:=by rw[eP _ rfl];refine⟨rfl,_,_,_,.inr ⟨_,a',rfl,rfl⟩,?_,rfl⟩;simp only[db,e0];rw[eR (by simpa[k3]using ai),qb,re];simp[k3]
def Ze(m:List dt)(hm:m.length=64)(j:Nat)(ai:j<64)(w:dt):ck (k3 m) (0+j*1) [o3 w]=k3 (m.set j w):=by rw[LH hm,LH (by simpa using hm),db,e0,akv _ _ _ (by simp[hm];exact ai),sd]
def n8(m:List dt)(i:Nat):List dt:=(List.range i).map (λq=>m4 m 0 64 (m.getD q 0))++m.drop i
def Zf{m:List dt}(hm:m.length=64){i:Nat}(hi:i<=64):(n8 m i).length=64:=by simp[n8,hm];omega
def akz{m:List dt}(hm:m.length=64){i:Nat}(hi:i<64):(n8 m i).set i (m.getD i 0)=n8 m i:=by
 unfold n8;have h:i<m.length:=by omega
 rw[GY _ _ (by simp)];simp only[bF,wj,pI];rw[eR h,G0];simp[bz,h]
def akA{m:List dt}(hm:m.length=64){i:Nat}(hi:i<64):(n8 m i).set i (m4 m 0 64 (m.getD i 0))=n8 m (i+1):=by
 unfold n8;have h:i<m.length:=by omega
 rw[GY _ _ (by simp)];simp only[bF,wj,pI];rw[eR h,G0,BJ,cP,dT];rfl
def Zg{m:List dt}(hm:m.length=64):n8 m 64=rR m:=by unfold n8 rR;rw[u0 (by omega),ef]
def zZ(m:List dt)(k:Nat):dt:=(List.range k).foldl (λw i=>w ||| ((m.getD i 0) &&& lA i)) 0
def akB(m:List dt)(k:Nat):zZ m (k+1)=zZ m k ||| (m.getD k 0 &&& lA k):=by unfold zZ;rw[BJ,rE];rfl
def akC{a b:Int}(h:a=b):yP (.val (.int .u64 a)) (.val (.int .u64 b)):=by subst h;exact .refl
def akD(m:List dt)(k:Nat):EB (zZ m k).toNat (Q6 (m.getD k 0).toNat (lA k).toNat)=((zZ m (k+1)).toNat:Int):=by rw[akq,LD,akB]
def akE{m:List dt}{k:Nat}{w:dt}(ae:k<64)(h:w.getLsbD k=true):m4 m k (64-k) w=m4 m (k+1) (64-(k+1)) (w ||| m.getD k 0):=by rw[show 64-k=(64-(k+1))+1 by omega,m4,h];rfl
def akF{m:List dt}{k:Nat}{w:dt}(ae:k<64)(h:w.getLsbD k=false):m4 m k (64-k) w=m4 m (k+1) (64-(k+1)) w:=by rw[show 64-k=(64-(k+1))+1 by omega,m4,h];rfl
def Q8{m:List dt}{i:Nat}(hi:i<m.length)(w:dt):(m.set i w).getD i 0=w:=by simp[bz,hi]
def akG(s:dS)(ar:s.aky):Spec Tryz.prog 106 [s.val] I M0 λv I' M'=>I'=I/\M'=M0/\∃ b:dt,v=.int .u64 b.toNat/\∀ i,i<64->(b.getLsbD i=true ↔ qH s.m i i):=by
 refine bZ [1,3,4] a5 Tryz.func106 rfl rfl rfl ?_;intro B az;obtain⟨fo,ik⟩:=ar;refine bX.mk λb1 hk P4=>?_;refine aO.mk (k3 s.m) ?_ ?_
 ·refine⟨rfl,_,_,_,.inr ⟨_,.head _,rfl,rfl⟩,?_,tM _⟩;show((s.cells).drop 1).take 64=_;rw[dS.cells,Hv,vM];exact qn (tM _)
 refine bX.mk λcD sD ahP=>?_;refine b2.rO [] _ _ _ rfl rfl rfl rfl (k3 s.m) rfl ?_;refine de.inv (ι:=List dt) (λm=>{ bj:=[(3,.val (ptr cD))],cI:=I,c1:=wA cD m::M0 }) (zN s.m) zO ?_ ?_
 ·exact⟨s.m,.start fo,.sub (.cons_cons _ (.cons _ (.refl _))) .refl,.cons .refl (.nil),.nil⟩
 intro m hm;have jb:=hm.len;refine aO.mk _ (HW (.head _)) ?_;refine bX.mk λhM HX auH=>?_;refine b2.rO [] _ _ _ rfl rfl rfl rfl (k3 m) rfl ?_;refine de.inv (ι:=Nat) (λi=>{ bj:=[(3,.val (ptr cD)),(4,.val (ptr hM)),(13,.val (.int .i64 i))],cI:=I,c1:=wA hM (n8 m i)::(wA cD m::M0) }) (λi=>i<=64) (λi=>64-i) ?_ ?_
 ·refine⟨0,dz _,.refl,hG,.nil⟩
 intro i hi;refine aZ.mk (λh=>?_) (λh=>?_)
 rotate_left
 ·have cA:i=64:=by have:¬ (i:Int)<64:=dO h;omega
  subst cA;refine aO.mk _ (HW (.head _)) ?_;refine aO.mk _ (HW (.tail _ (.head _))) ?_;refine akw (Zf jb (cc _)) jb ?_;rw[Zg jb];refine aZ.mk (λhe=>?_) (λhe=>?_)
  ·have rf:rR m=m:=dh he;refine aO.mk _ (HW (.tail _ (.head _))) ?_;refine de.inv (ι:=Nat) (λk=>{ bj:=[(7,.val (.int .u64 (zZ m k).toNat)),(40,.val (.agg (k3 m).toArray)),(41,.val (.int .i64 k))],cI:=I,c1:=M0 }) (λk=>k<=64) (λk=>64-k) ?_ ?_
   ·exact⟨0,dz _,.sub (.cons _ (.cons _ (.refl _))) .refl,hG,.nil⟩
   intro k ae;refine aZ.mk (λh=>?_) (λh=>?_)
   rotate_left
   ·have cA:k=64:=by have:¬ (k:Int)<64:=dO h;omega
    subst cA;exact⟨_,_,.refl,rfl,rfl,zZ m 64,rfl,λi hi=>by rw[show zZ m 64=Qi m from rfl,aj3 m hi,hm.done rf hi hi]⟩
   have eN:k<64:=by have:(k:Int)<64:=dh h;omega
   clear h ae;have ap:k=0\/k=1\/k=2\/k=3\/k=4\/k=5\/k=6\/k=7\/k=8\/k=9\/k=10\/k=11\/k=12\/k=13\/k=14\/k=15\/k=16\/k=17\/k=18\/k=19\/k=20\/k=21\/k=22\/k=23\/k=24\/k=25\/k=26\/k=27\/k=28\/k=29\/k=30\/k=31\/k=32\/k=33\/k=34\/k=35\/k=36\/k=37\/k=38\/k=39\/k=40\/k=41\/k=42\/k=43\/k=44\/k=45\/k=46\/k=47\/k=48\/k=49\/k=50\/k=51\/k=52\/k=53\/k=54\/k=55\/k=56\/k=57\/k=58\/k=59\/k=60\/k=61\/k=62\/k=63:=by omega
   rcases ap with rfl | rfl | rfl | rfl | rfl | rfl | rfl | rfl | rfl | rfl | rfl | rfl | rfl | rfl | rfl | rfl | rfl | rfl | rfl | rfl | rfl | rfl | rfl | rfl | rfl | rfl | rfl | rfl | rfl | rfl | rfl | rfl | rfl | rfl | rfl | rfl | rfl | rfl | rfl | rfl | rfl | rfl | rfl | rfl | rfl | rfl | rfl | rfl | rfl | rfl | rfl | rfl | rfl | rfl | rfl | rfl | rfl | rfl | rfl | rfl | rfl | rfl | rfl | rfl
   all_goals
    refine eD.mk _ rfl eN ?_;refine w7.mk _ rfl ?_;refine bg.mk _ (Q7 eN) ?_;refine bg.mk _ (cK (by omega)) ?_;exact⟨_,⟨eN,by omega⟩,.refl,.cons (akC (akD m _)) (xl),.nil⟩
  ·have rf:rR m≠m:=dO he;refine aO.mk _ (HW (.head _)) ?_;refine b2.rO [_] _ _ _ rfl rfl rfl rfl (k3 (n8 m 64)) rfl ?_;refine⟨rR m,⟨hm.next,aj2 jb rf⟩,.sub (.cons _ (.refl _)) (.n5 ?_),.cons .refl (.nil),.nil⟩;rw[Zg jb];rfl
 have aV:i<64:=by have:(i:Int)<64:=dh h;omega
 have nw:=Zf jb hi;refine de.inv (ι:=Nat×dt) (λs=>{ bj:=[(3,.val (ptr cD)),(4,.val (ptr hM)),(5,.val (.int .i64 i)),(13,.val (.int .i64 i)),(16,.val (.int .i64 s.1))],cI:=I,c1:=wA hM ((n8 m i).set i s.2)::(wA cD m::M0) }) (λs=>s.1<=64/\m4 m 0 64 (m.getD i 0)=m4 m s.1 (64-s.1) s.2) (λs=>64-s.1) ?_ ?_
 ·refine⟨(0,m.getD i 0),⟨dz _,rfl⟩,.n5 ?_,gf,.nil⟩;simp only;rw[akz jb aV]
 rintro⟨k,w⟩⟨ae,et⟩;simp only at ae et;refine aZ.mk (λh=>?_) (λh=>?_)
 rotate_left
 ·have cA:k=64:=by have:¬ (k:Int)<64:=dO h;omega
  subst cA;have xV:m4 m 0 64 (m.getD i 0)=w:=et;refine bg.mk _ (cK (i:=i) (by omega)) ?_;refine⟨i+1,⟨aV,by omega⟩,.n5 ?_,hG,.nil⟩;rw[<-akA jb aV,xV]
 have eN:k<64:=by have:(k:Int)<64:=dh h;omega
 have e2:((n8 m i).set i w).length=64:=by rw[oP,nw]
 have Zh:∀ {M:List aD},wA hM ((n8 m i).set i w)∈M->cM I M ((⟨hM,0,none⟩:Addr).add (i*1)) 1 [.int .u64 w.toNat]:=λa'=>by have:=Zd (I:=I) a' aV;rwa [Q8 (by omega) w]at this
 have si:∀ {M:List aD},wA cD m∈M->cM I M ((⟨cD,0,none⟩:Addr).add (k*1)) 1 [.int .u64 (m.getD k 0).toNat]:=λa'=>Zd (I:=I) a' eN;refine eD.mk i rfl aV ?_;refine aO.mk _ (Zh (.head _)) ?_;refine w7.mk k rfl ?_;refine aZ.mk (λab=>?_) (λab=>?_)
 ·have hw:=Y7 (w:=w) eN (Y9 ab);refine cY.draw a5 rfl rfl rfl ?_;refine eD.mk i rfl aV ?_;refine aO.mk _ (Zh (.head _)) ?_;refine eD.mk k rfl eN ?_;refine aO.mk _ (si (.tail _ (.head _))) ?_;refine eD.mk i rfl aV ?_;refine b2.ix [] (wA cD m::M0) (k3 ((n8 m i).set i w)) _ rfl ?_ rfl (k3 ((n8 m i).set i (w ||| m.getD k 0))) ?_ ?_
  ·rw[nE,tM];show 0+i*1+1<=64;omega
  ·show ck _ _ [Value.int .u64 (EB w.toNat (m.getD k 0).toNat)]=_;rw[LD];have:=Ze ((n8 m i).set i w) e2 i aV (w ||| m.getD k 0);rw[J9]at this;exact this
  refine bg.mk _ (cK (i:=k) (by omega)) ?_;exact⟨(k+1,w ||| m.getD k 0),⟨⟨eN,by rw[et,akE eN hw]⟩,by simp only;omega⟩,.refl,gf,.nil⟩
 ·have hw:=Y8 (w:=w) eN (Y' ab);refine bg.mk _ (cK (i:=k) (by omega)) ?_;exact⟨(k+1,w),⟨⟨eN,by rw[et,akF eN hw]⟩,by simp only;omega⟩,.refl,gf,.nil⟩
section
end
def u7(t:bR):Prop:=∀ n∈t.ns,n.aL<=3000000000000
abbrev dM(X:cV)(G:GT)(pr:lU):gH:=⟨X.P,X.E,G,pr⟩
section
variable{X:cV}{G:GT}{pr:lU}{D:bO}{m:bo}{F:Fr}{al:be ao}{C:dB}{I:aI}{M:List aD}{V:dA->Prop}{O:Prop}
def o4{a b:α}(h:some a=some b):a=b:=by cases h;rfl
def akH{op:BinOp}{k:IntKind}{a b:Int}{v:ao}(h:Qo op k eZ a b=some v)(ae:∀ u,aT D v u->K u):lK op c7 (.val (.int k a)) (.val (.int eZ b)) K O:=by
 have mk:∀ {q:ao} {u:Value},some q=some v->aT D q u->K u:=λe hu=>ae _ (o4 e ▸ hu);unfold Qo at h;split at h
 ·split at h
  ·rename_i j;refine⟨j,rfl,⟨_,rfl,mk h ?_⟩⟩;simp only[aT];rw[zV,akl,kD,Y0]
  ·cases h
 ·split at h
  ·rename_i j;refine⟨j,rfl,mk h ?_⟩;simp only[aT];rw[akm,kD,Y0]
  ·cases h
 all_goals obtain⟨aP,h⟩:=fU h
 all_goals simp only[lK,aP,ca]
 ·exact⟨_,rfl,mk h (by simp only[aT];rw[zV,akg])⟩
 ·exact⟨_,rfl,mk h (by simp only[aT];rw[zV,akh])⟩
 ·exact⟨_,rfl,mk h (by simp only[aT];rw[zV,aki])⟩
 ·obtain⟨az,h⟩:=zU h;refine⟨λe=>?_,_,rfl,mk h (by simp only[aT];rw[zV,akj])⟩;rw[Cb,e]at az;simp at az
 ·obtain⟨az,h⟩:=zU h;refine⟨λe=>?_,mk h (by simp only[aT];rw[akk])⟩;rw[Cb,e]at az;simp at az
 ·obtain⟨r,af,h⟩:=cp h;rw[Lu af];exact mk h (by simp only[aT])
 ·obtain⟨r,af,h⟩:=cp h;rw[Lu af];exact mk h (by simp only[aT])
 ·obtain⟨r,af,h⟩:=cp h;rw[Lu af];exact mk h (by simp only[aT])
 ·obtain⟨r,af,h⟩:=cp h;rw[Lu af];exact mk h (by simp only[aT])
 ·obtain⟨r,af,h⟩:=cp h;rw[akf]at af;have ah:v=.b r:=(o4 h).symm;subst ah;have iP:K (.bool r):=ae _ (by simp only[aT]);cases op<;>first
   |contradiction|(rw[af];exact iP)
def Q9(b:Bool):bW b false true=!b:=by cases b<;>rfl
def akI{op:BinOp}{a b:List UInt8}{v:ao}{x:Operand}(h:Qp op a b=some v)(ae:∀ u,aT D v u->K u) :
  lK op c7 (.val (.string ⟨a.toArray⟩)) (.val (.string ⟨b.toArray⟩)) K (gn P op t x y (.val (.string ⟨a.toArray⟩)) (.val (.string ⟨b.toArray⟩)) K O):=by
 unfold Qp at h;split at h
 ·cases h;refine ae _ ?_;simp only[aT];rw[LB,Ez]
 ·cases h;refine ae _ ?_;simp only[aT];rw[LB,Ez,Q9]
 ·obtain⟨ay,h⟩:=fU h;cases h;have ou:=bJ ay;refine gn.concat (by simpa[ByteArray.size]using ou) (ae _ ?_);simp only[aT];congr 1
 ·cases h
def akJ{op:BinOp}{a b:Bool}{v:ao}(h:Qq op c7 a b=some v)(ae:∀ u,aT D v u->K u):lK op c7 (.val (.bool a)) (.val (.bool b)) K O:=by
 unfold Qq at h;split at h
 ·split at h
  ·cases h;exact ae _ (by simp only[aT])
  ·cases h;exact ae _ (by simp only[aT])
  ·cases h
 ·cases h
def akK{x:ao}{b:Bool}(h:Qr x=some b){u:Value}(hu:aT D x u):∃ a n c,u=.slice a n c/\b=a.isNone:=by
 cases x<;>simp only[Qr,kk,reduceCtorEq]at h<;>subst h<;>simp only[aT]at hu
 ·exact⟨_,_,_,hu,rfl⟩
 ·obtain⟨a,-,hu⟩:=hu;exact⟨_,_,_,hu,rfl⟩
 ·obtain⟨a,-,-,hu⟩:=hu;exact⟨_,_,_,hu,rfl⟩
 ·exact⟨_,_,_,hu,rfl⟩
 ·obtain⟨a,c,hu⟩:=hu;exact⟨_,_,_,hu,rfl⟩
def akL{x:ao}{b:Bool}(h:Qs x=some b){u:Value}(hu:aT D x u):∃ p,u=.pointer p/\b=p.isNone:=by
 cases x<;>simp only[Qs,kk,reduceCtorEq]at h<;>subst h<;>simp only[aT]at hu
 ·exact⟨_,hu,rfl⟩
 ·obtain⟨a,-,hu⟩:=hu;exact⟨_,hu,rfl⟩
 ·exact⟨_,hu,rfl⟩
def akM{e:Nat}(h:P.underlying t=some (.slice e))(a:Option Addr)(n c:Nat)(w:World):(Op.equal t (.slice a n c) (.slice none 0 0)).run P w=.ok a.isNone w:=by
 have key:∀ d,(Op.equalIn (d+1) t (.slice a n c) (.slice none 0 0)).run P w=.ok a.isNone w:=λd=>by cases a<;>simp[Op.equalIn,run_underlying h]
 exact key 9999
def akN{e:Nat}(h:P.underlying t=some (.pointer e))(p:Option Addr)(w:World):(Op.equal t (.pointer p) (.pointer none)).run P w=.ok p.isNone w:=by
 have key:∀ d,(Op.equalIn (d+1) t (.pointer p) (.pointer none)).run P w=.ok p.isNone w:=λd=>by cases p<;>simp[Op.equalIn,run_underlying h]
 exact key 9999
def Zi{op:BinOp}{b:Bool}{v:ao}{x:Operand}{p q:Value}(au:∀ w,op=.eql\/op=.neq->(eqGuard op t x y p q).run P w=.ok () w)(he:∀ w,(Op.equal t p q).run P w=.ok b w)(ag:∀ w,(binOp .eql t p q).run P w=.ok (.bool b) w)(aB:∀ w,(binOp .neq t p q).run P w=.ok (.bool (!b)) w)(h:Ld op b=some v)(ae:∀ u,aT D v u->K u):gn P op t x y (.val p) (.val q) K O:=by
 unfold Ld at h;split at h
 ·cases h;refine .mk p q (.bool b) rfl rfl (λw=>?_) (ae _ (by simp only[aT]));simp only[cj,au w (.inl rfl),bV,ag w]
 ·cases h;refine .mk p q (.bool (!b)) rfl rfl (λw=>?_) (ae _ (by simp only[aT]));simp only[cj,au w (.inr rfl),bV,aB w]
 ·cases h
def akO(aM:cU X.P X.E){op:BinOp}{x y v:ao}{akP:Operand}{u:Value}(h:Qt X.P X.E op t x y=some v)(ad:aT D x u)(aE:aT D y w)(ae:∀ u,aT D v u->K u) :
  lK op (X.E t) (.val u) (.val w) K (gn X.P op t pM akP (.val u) (.val w) K O):=by
 unfold Qt at h;split at h
 ·rw[ad.int,aE.int];exact akH h ae
 ·rw[ad.str,aE.str];exact akI h ae
 ·rw[ad.bool,aE.bool];exact akJ h ae
 ·obtain⟨us,aa,rfl⟩:=ad.agg;obtain⟨ws,ab,rfl⟩:=aE.agg;exact Y4 aM h aa ab ae
 ·obtain⟨i,hi,h⟩:=cp h;split at h
  ·rename_i e nT;obtain⟨b,aa,h⟩:=cp h;obtain⟨a,n,c,rfl,rfl⟩:=akK aa ad;simp only[aT]at aE;subst aE;obtain⟨d,fF,fi⟩:=(aM _ _ hi).fl;have ab:d=.slice e:=by rw[nT]at fi;cases d<;>simp_all[fk]
   subst ab;have he:=akM fF a n c;exact Zi (λw aH=>by rcases aH with rfl | rfl<;>(unfold eqGuard;rfl)) he (λw=>by simp only[binOp];simp[he w]) (λw=>by simp only[binOp];simp[he w]) h ae
  ·cases h
 ·obtain⟨i,hi,h⟩:=cp h;split at h
  ·rename_i e nT;obtain⟨b,aa,h⟩:=cp h;obtain⟨p,rfl,rfl⟩:=akL aa ad;simp only[aT]at aE;subst aE;obtain⟨d,fF,fi⟩:=(aM _ _ hi).fl;have ab:d=.pointer e:=by rw[nT]at fi;cases d<;>simp_all[fk]
   subst ab;have he:=akN fF p;exact Zi (λw aH=>by rcases aH with rfl | rfl<;>(unfold eqGuard;rfl)) he (λw=>by simp only[binOp];simp[he w]) (λw=>by simp only[binOp];simp[he w]) h ae
  ·cases h
 ·cases h
variable(aM:cU X.P X.E)(hm:c8 (dM X G pr) D m I M)
theorem EF{v:ao}{n:Nat}(h:v.nat=some n):∃ k,v=.i k (.ofNat n):=by
 unfold ao.nat at h;split at h
 ·cases h;exact⟨_,rfl⟩
 ·cases h
theorem Zj{x v:ao}{n:Nat}{u:Value}(h:HG x n=some v)(ad:aT D x u):∃ a,u=.pointer (some a)/\a.spot=none/\aT D v (.pointer (some (a.add n))):=by
 unfold HG at h;split at h
 ·cases h;obtain⟨a,a2,rfl⟩:=ad.ptr;refine⟨_,rfl,rfl,?_⟩;rw[eP _ rfl];simp only[aT];exact⟨a,a2,by simp only[zH,s0]⟩
 ·cases h;refine⟨_,ad.qK,rfl,?_⟩;rw[eP _ rfl];simp only[aT];rfl
 ·cases h
theorem akQ{x v:ao}{j:Nat}{u:Value}(h:Le x j sz=some v)(ad:aT D x u):∃ a n c,u=.slice (some a) n c/\j<n/\aT D v (.pointer (some (a.add (j*sz)))):=by
 unfold Le at h;split at h
 ·cases ag:Nat.blt j _ with
  |false=>rw[ag]at h;cases h| true=>rw[ag]at h;cases h;obtain⟨a,a2,rfl⟩:=ad.sJ;refine⟨_,_,_,rfl,bJ ag,?_⟩;rw[eP _ rfl];simp only[aT];exact⟨a,a2,by simp only[zH,D8,s0]⟩
 ·cases ag:Nat.blt j _ with
  |false=>rw[ag]at h;cases h| true=>rw[ag]at h;cases h;obtain⟨a,a2,_,rfl⟩:=ad.u6;refine⟨_,_,_,rfl,bJ ag,?_⟩;rw[eP _ rfl];simp only[aT];exact⟨a,a2,by simp only[zH,D8,s0]⟩
 ·cases ag:Nat.blt j _ with
  |false=>rw[ag]at h;cases h| true=>rw[ag]at h;cases h;refine⟨_,_,_,ad.Q1,bJ ag,?_⟩;rw[eP _ rfl];simp only[aT];rfl
 ·cases h
theorem Zk{cs:List ao}{v:ao}{us:List Value}(h:Lg aF cs off=some v)(ap:bN D cs us) :
  off+aF.size<=us.length/\aT D v (pack aF.bL.agg ((us.drop off).take aF.size)):=by
 unfold Lg at h;obtain⟨az,h⟩:=zU h;obtain⟨l,aa,ab⟩:=cp h;have g5:aF.size≠0:=λe=>by rw[e]at az;cases az
 obtain⟨rfl,ay⟩:=Y1 aa;rw[HT]at ab ay;refine⟨?_,Lz ab ((ap.drop off).take _)⟩;have:=ap.len;simp at ay;omega
theorem Zl{i:Nat}{hh:dD}(h:Lf E t i=some (off,hh)):∃ a b z cN fm,E t=some ⟨a,b,z,.struct cN⟩/\cN[i]?=some (fm,off)/\E fm=some hh:=by
 unfold Lf at h;split at h
 ·rename_i a b z cN av;split at h
  ·rename_i fm o aA;rw[zX]at aA;split at h
   ·rename_i f tC;cases h;exact⟨_,_,_,_,fm,av,aA,tC⟩
   ·cases h
  ·cases h
 ·cases h
theorem akR{r:Option Nat}(h:Qw E t=some (r,aF)):(∃ a b z e,E t=some ⟨a,b,z,.slice e⟩/\E e=some aF/\r=none)\/∃ a b z n e,E t=some ⟨a,b,z,.array n e⟩/\E e=some aF/\r=some n:=by
 unfold Qw at h;split at h
 ·rename_i a b z e av;split at h
  ·cases h;exact .inl ⟨_,_,_,_,av,by assumption,rfl⟩
  ·cases h
 ·rename_i a b z n e av;split at h
  ·cases h;exact .inr ⟨_,_,_,_,_,av,by assumption,rfl⟩
  ·cases h
 ·cases h
theorem akS{x i v:ao}{u:Value}(h:HH X.E t (some x) (some i)=some v)(ad:aT D x u)(hi:aT D i w){ρ:Operand->dA}{gA:Operand}(Q':dw ρ pM=.val u)(h':dw ρ gA=.val w)
  (k:∀ x,gj D x v->V x):cF X (.index t pM gA) ρ C I M V O:=by
 unfold HH at h;split at h
 ·rename_i l gQ av aa ab;cases aa;cases ab;obtain⟨j,ai,h⟩:=cp h;obtain⟨gb,rfl⟩:=EF ai;have fj:Qx l j=some v:=h;unfold Qx at fj;obtain⟨b,ag,dN⟩:=cp fj;cases dN;rw[zX]at ag;rw[ad.str]at Q';rw[hi.int]at h';have aV:=(h5.1 ag).1;simp only[cF,av,Q',h'];refine⟨j,rfl,by simpa[ByteArray.size]using aV,k _ (.val ?_)⟩;simp only[aT];have:(⟨l.toArray⟩:ByteArray)[j]'(by simpa[ByteArray.size]using aV)=b:=by have:=(h5.1 ag).2;show l.toArray[j]'_=b;simpa using this
  rw[this];rfl
 ·rename_i n e cs gQ av aa ab;cases aa;cases ab;obtain⟨aF,he,h⟩:=cp h;obtain⟨j,ai,h⟩:=cp h;obtain⟨gb,rfl⟩:=EF ai;obtain⟨us,fE,rfl⟩:=ad.agg;unfold Yt at h;obtain⟨ag,h⟩:=fU h;rw[cB]at ag;obtain⟨ak,aJ⟩:=Zk h fE;rw[hi.int]at h';simp only[cF,av,Q',h',he];have dj:Nat.beq (n*aF.size) us.toArray.size=true:=by have bB:=dQ ag.1;rw[ow,fE.len,<-bB];exact q0 _
  rw[dj];simp only[ca];exact⟨j,rfl,bJ ag.2,k _ (.val aJ)⟩
 ·cases h
theorem akT{x v:ao}{l:Nat}{h:Option Nat}{u:Value}(ar:Qu x sz l h=some v)(ad:aT D x u):∃ a n c,u=.slice a n c/\l<=h.getD n/\h.getD n<=c/\(h=none->l<=n) /\
  aT D v (.slice (if c=l then a else a.map (·.add (l*sz))) (h.getD n-l) (c-l)):=by
 unfold Qu at ar;split at ar
 ·cases ag:(Nat.beq l 0&&Nat.beq (h.getD 0) 0)with
  |false=>rw[ag]at ar;cases ar| true=>rw[ag]at ar;cases ar;rw[cB]at ag;have aa:=dQ ag.1;have ab:=dQ ag.2;subst aa;refine⟨none,0,0,ad.Cc,by omega,by omega,λ_=>by omega,?_⟩;rw[ab];simp[aT]
 ·rename_i id off n c;obtain⟨a,a2,rfl⟩:=ad.sJ;simp only at ar;cases ag:(Nat.ble l (h.getD n)&&Nat.ble (h.getD n) c)with
  |false=>rw[ag]at ar;cases ar
  |true=>
   rw[ag]at ar;simp only[ca]at ar;rw[cB]at ag;have aa:=bJ ag.1;have ab:=bJ ag.2;refine⟨_,n,c,rfl,aa,ab,λe=>by subst e;exact aa,?_⟩;rw[QZ]at ar;by_cases e:c=l;·subst e;simp only[Ks,ca]at ar;cases ar;simp only[p2,aT];exact⟨a,a2,by simp only[D9,pI]⟩
   ·simp only[e,decide_false,b']at ar;cases ar;simp only[e,l5,aT,k8];refine⟨a,a2,?_⟩;rw[eP _ rfl];simp only[zH,D8,D9,s0]
 ·rename_i id off e n;obtain⟨a,a2,bp,rfl⟩:=ad.u6;simp only at ar;cases ag:(Nat.ble l (h.getD n)&&Nat.ble (h.getD n) n)with
  |false=>rw[ag]at ar;cases ar
  |true=>
   rw[ag]at ar;simp only[ca]at ar;rw[cB]at ag;have aa:=bJ ag.1;have ab:=bJ ag.2;refine⟨_,n,a.c-e,rfl,aa,by omega,λe=>by subst e;exact aa,?_⟩;cases ap:(Nat.beq l 0||Nat.blt l n)with
   |true=>
    rw[ap]at ar;simp only[ca]at ar;cases ar;rw[kQ]at ap;simp only[aT];refine⟨a,a2,by simp only[zH,D9];omega,?_⟩;have ak:a.c-e-l=a.c-(e+l):=by omega
    by_cases az:l=0
    ·subst az;simp only[yZ,Kr,k8,zH,D8,D9,pk];split
     ·rfl
     ·rw[eP _ rfl];simp
    ·have aJ:l<n:=by
      rcases ap with ap | ap;·exact absurd (dQ ap) az
      ·exact bJ ap
     rw[bU (by omega)];simp only[k8];rw[eP _ rfl];simp only[zH,D8,D9,s0,ak]
   |false=>
    rw[ap]at ar;simp only[b']at ar;cases ar;rw[sq]at ap;have aJ:¬ l<n:=λaV=>by have:=BX (show l.succ<=n from aV);rw[show Nat.blt l n=Nat.ble l.succ n from rfl,this]at ap;cases ap.2
    have bB:h.getD n-l=0:=by omega
    simp only[aT,bB];split;·exact⟨_,_,rfl⟩
    ·exact⟨_,_,rfl⟩
 ·cases ar
end
end Go.V
