/- Part 5 of what the proofs of this seat share: the executor, data in memory, walks.
-/
import Derived.Test.YtmncamccjfmbpaaGreatDoorK4
import Derived.Test.YtmncamccjfmbpaaGreatDoorK2
import Derived.Laws.IdiomStrings
import Derived.Test.YtmncamccjfmbpaaGreatDoorK3
set_option linter.all false
set_option maxHeartbeats 8000000
set_option maxRecDepth 100000
namespace Go.V
open Go Go.Proofs
def p7:=@List.flatMap_singleton
def p8:=@List.length_singleton
def r':=@List.singleton_append
def sb:=@List.pairwise_append
def vt:=@List.drop_of_length_le
def yw:=@List.length_flatMap
def yx:=@List.reverse_append
def wU:=@List.length_range
def yy:=@List.filter_append
def ER:=@List.getElem_append_right
def CF:=@Nat.ble_eq_true_of_le
def CG:=@BitVec.getLsbD_or
def If:=@List.pairwise_flatMap
def ES:=@Int.natCast_nonneg
def Ig:=@List.drop_succ_cons
def Rc:=@List.drop_append_of_le_length
def LX:=@List.getElem?_of_mem
def Rd:=@List.pairwise_iff_getElem
def Ih:=@List.take_append
def Ii:=@List.countP_cons
def Re:=@List.getElem?_replicate
def Rf:=@BitVec.eq_of_getLsbD_eq
def LY:=@BitVec.toNat_ofNat
def Ah:=@Nat.add_eq
def ET:=@Bool.or_true
def LZ:=@decide_eq_decide
def Rg:=@BitVec.getLsbD_and
def L0:=@List.foldl_nil
def EU:=@Nat.mul_eq
def EV:=@Nat.sub_eq
def Rh:=@Nat.mod_eq_of_lt
def L1:=@List.all_map
variable{I:aM}{M M0:List aE}{al:List Int}{g:cD}{t f src dst c' off sz:Nat}{α R:Type}{vs args xs:List Value}{K:Value->Prop}{y s p':Operand}{c7:Option dH}{aI L2:dH}{aU:Addr}{foot:List Nat}{P:Program}{E:Env}{e9:IntKind}{os:aY}{w:Value}
def mf.mono{I':aM}{a:Option Addr}{n:Nat}{ks:List aW}(h:mf I M a n ks)(bz:∀ b o,I b=some o->I' b=some o):mf I' M a n ks:=
 ⟨h.n,λj ai=>by
  obtain⟨aU,aa,ab⟩:=h.rd j ai;exact⟨aU,aa,ab.mono bz⟩⟩
def mf.sub{I:aM}{M M':List aE}{a:Option Addr}{n:Nat}{ks:List aW}(h:mf I M a n ks)(a':∀ x∈M,x∈M'):mf I M' a n ks:=
 ⟨h.n,λj ai=>by
  obtain⟨aU,aa,ab⟩:=h.rd j ai;exact⟨aU,aa,ab.sub a'⟩⟩
def L3{b:Nat}{l:List aW}(a':fU b l∈M):mf I M (some ⟨b,0,none⟩) l.length l:=
 ⟨rfl,λj ai=>⟨_,rfl,EN a' ai⟩⟩
def Ai(g:cD)(bj:List aW)(t:bP):Option (List aW):=bif decide (bj.length=g.n)&&(right t&&wT (bD g.ds) t.ns)then some (ev (bD g.ds) bj t.ns [])else none
def ak5(bp:fW I al)(av:g.ok I){t:bP}(ax:t.ok I){lO:Option Addr}{ln lc:Nat}{bj:List aW}(me:mf I M0 lO ln bj) :
  Spec Tryz.prog 159 [g.val,.slice lO ln lc,t.val] I M0 λv I' M'=>(∀ b o,I b=some o->I' b=some o) /\
   ((Ai g bj t=none/\v=.tuple #[.slice none 0 0,.bool false]/\M'=M0)\/∃ r b,Ai g bj t=some r/\v=.tuple #[.slice (some ⟨b,0,none⟩) t.n t.n,.bool true]/\M'=fU b r::M0):=by
 refine cg [] a7 Tryz.func159 rfl rfl rfl ?_;intro B az;have fl:=av.n;have hK:=ax.n;have jJ:=ax.a2.cap;have Y1:=me.n;refine cj.mk (λh=>?_) (λh=>?_)
 rotate_left
 ·refine⟨_,_,.refl,λ_ _ h=>h,.inl ⟨?_,rfl,rfl⟩⟩;have bs:¬ (ln:Int)=(g.n:Int):=by simpa using h
  have:decide (bj.length=g.n)=false:=dU (by omega);simp[Ai,this]
 have sc:ln=g.n:=by
  have:(ln:Int)=(g.n:Int):=by simpa using h
  omega
 have hd:decide (bj.length=g.n)=true:=eV (by omega);refine bd.mk [] M0 _ (.refl _) (qM bp.c ax) ?_;rintro v I1 M1 -⟨rfl,rfl,rfl⟩;refine a3.mk (λh=>?_) (λh=>?_)
 ·refine⟨_,_,.refl,λ_ _ h=>h,.inl ⟨?_,rfl,rfl⟩⟩;have:right t=false:=by simpa using h
  simp[Ai,this]
 have af:right t=true:=by simpa using h
 refine bd.mk [] M0 _ (.refl _) (YJ av) ?_;rintro v dz dm -⟨et,rfl,h0,rfl,EW⟩;have sX:=ax.mono et;refine dg.inv (ι:=Nat) (λx=>{ bj:=[(1,.val (.slice lO ln lc)),(3,.ref 3 0),(5,.ref 5 0),(8,.val (.map (some h0))),(27,.val (.slice t.a t.n t.c)),(28,.val (.int .i64 t.n)),(29,.val (.int .i64 x))],cl:=[(3,[.slice g.a g.n g.c]),(5,t.cells)],cI:=dz,de:=M0 }) (λx=>x<=t.n/\∀ d∈t.ns.take x,(!decide (d.k=3)||(eD d.t (bD g.ds)).isSome)=true) (λx=>t.n-x) ?_ ?_
 ·exact⟨0,⟨dw _,λd ak=>by simp at ak⟩,.refl,tB,.cons rfl (.cons rfl .nil)⟩
 rintro i⟨hi,h7⟩;refine a3.mk (λh=>?_) (λh=>?_)
 ·have a1:i<t.n:=by have:(i:Int)<(t.n:Int):=dB h;omega
  have cq:i<t.ns.length:=by omega
  obtain⟨aU,bK,bm⟩:=sX.a2.row ap.cT a1 cq;have ng:t.ns.take (i+1)=t.ns.take i++[t.ns[i]]:=gy cq;have fo:=bi cq;have next:(!decide (t.ns[i].k=3)||(eD t.ns[i].t (bD g.ds)).isSome)=true->∀ d∈t.ns.take (i+1),(!decide (d.k=3)||(eD d.t (bD g.ds)).isSome)=true:=λh d ak=>by
   rw[ng]at ak;rcases cF.1 ak with ak | ak;·exact h7 d ak
   ·simp only[ec]at ak;rw[ak];exact h
  refine bf.mk aU i bK rfl a1 ?_;refine aR.mk _ (bm _) ?_;refine a3.mk (λaj=>?_) (λaj=>?_);·refine bg.mk _ (cL (i:=i) (by omega)) ?_;refine⟨i+1,⟨⟨by omega,next ?_⟩,by omega⟩,.refl,tB,.cons rfl (.cons rfl .nil)⟩;rw[show(!decide (t.ns[i].k=3))=true from aj];rfl
  ·refine bB.YI a7 rfl (by simp) rfl rfl rfl rfl (λw=>HP w) (l:=bD g.ds) (g:=h0) rfl rfl (.inl EW) ?_;refine a3.mk (λaG=>?_) (λaG=>?_)
   ·refine⟨_,_,.refl,et,.inl ⟨?_,rfl,rfl⟩⟩;have bx:wT (bD g.ds) t.ns=false:=by
     rw[wT,K'];refine⟨_,fo,?_⟩;have bZ:(eD t.ns[i].t (bD g.ds)).isSome=false:=by simpa using aG
     rw[bZ,show(!decide (t.ns[i].k=3))=false from aj];simp
    simp[Ai,bx]
   ·refine bg.mk _ (cL (i:=i) (by omega)) ?_;refine⟨i+1,⟨⟨by omega,next ?_⟩,by omega⟩,.refl,tB,.cons rfl (.cons rfl .nil)⟩;have bZ:(eD t.ns[i].t (bD g.ds)).isSome=true:=by simpa using aG
    rw[bZ];simp
 have cJ:i=t.n:=by have:¬ (i:Int)<(t.n:Int):=eu h;omega
 rw[fN (by omega)]at h7;have dN:wT (bD g.ds) t.ns=true:=fi.2 h7;have EX:=YZ dN;rw[fl,<-sc]at EX;refine bd.mk M0 [] _ perm_nil (YP sX af EW (me.mono et) EX) ?_;rintro v h9 sL -⟨rfl,b,rfl,rfl⟩;rw[ed];exact⟨_,_,.refl,et,.inr ⟨_,b,by rw[Ai,hd,af,dN];rfl,rfl,rfl⟩⟩
structure wV(g:cD):Prop where
 n:g.ds.length=g.n
 right:∀ d∈g.ds,right d.t=true
 named:∀ d∈g.ds,wT (bD g.ds) d.t.ns=true
def L4(aC:g.ds.length=g.n)(h:dj al g=0):wV g:=by refine⟨aC,λd ak=>?_,ak3 h⟩;have:=fi.1 (ak4 h) d ak;simp only[normal,cz]at this;exact this.2.1
def ofM(b6 h0 eP gN b1:Nat)(g:cD)(l:List aW):List aE:=[⟨b6,.cells #[.map (some h0)] 102 (0,0)⟩,⟨eP,.cells #[.slice (some ⟨gN,0,none⟩) g.n g.n] 223 (0,0)⟩,fU gN l,⟨b1,.cells #[.slice g.a g.n g.c] 24 (0,0)⟩]
def Ij(a b c d:α):[a,b,c,d].Perm ([c]++[a,b,d]):=mN (l₁:=[a,b]) (l₂:=[d])
def ak6(x a b c d:α):[x,a,b,c,d].Perm ([c]++[x,a,b,d]):=mN (l₁:=[x,a,b]) (l₂:=[d])
def L5{b:Nat}{f:aW}(a':(⟨b,.cells f.cells.toArray 270 (0,0)⟩:aE)∈M):cO I M (⟨b,0,none⟩:Addr) 3 f.cells:=⟨rfl,_,_,_,.inr ⟨_,a',rfl,rfl⟩,rfl,rfl⟩
def Y2{l:List aW}{i:Nat}(hi:i<l.length){x:aW}:Nat.ble (0+i*3+x.cells.length) (l.flatMap aW.cells).length=true:=by rw[n5,CB,aW.cT];omega
def b8.sd{a:Addr}{K:List aE->Prop}(a9 post:List aE)(cs:Array Value)(T:Nat)(a':M=a9++⟨a.block,.cells cs T (0,0)⟩::post)(au:a.spot=none)(ag:Nat.ble (a.off+vs.length) cs.size=true)(aa:gA vs=true)(cs':List Value)(he:ck cs.toList a.off vs=cs')(k:K (a9++⟨a.block,.cells cs'.toArray T (0,0)⟩::post)):b8 M a vs K:=
 ⟨a9,post,cs,T,a',au,bI ag,aa,by rw[he];exact k⟩
def ak7(av:g.ok I)(hm:wV g){b6 h0 eP gN b1:Nat}(EW:I h0=some (jL (bD g.ds))){fA:List aW}(BF:pt g.ds fA) :
  Spec Tryz.prog 198 [ptr b1,ptr b6,ptr eP] I (ofM b6 h0 eP gN b1 g fA) λv I' M'=>v=.bool (decide (n6 (bD g.ds) 0 g.ds fA≠fA))/\I'=I/\M'=ofM b6 h0 eP gN b1 g (n6 (bD g.ds) 0 g.ds fA):=by
 refine cg [] a7 Tryz.func198 rfl rfl rfl ?_;intro B az;have fl:=av.n;have jJ:=av.a2.cap;have Ri:∀ {M:List aE},(⟨b1,.cells #[.slice g.a g.n g.c] 24 (0,0)⟩:aE)∈M->cO I M ((⟨b1,0,none⟩:Addr).add 0) 1 [.slice g.a g.n g.c]:=λa'=>c5 (cs:=[.slice g.a g.n g.c]) (k:=0) (n:=1) a' (by simp);have ak8:∀ {M:List aE},(⟨b6,.cells #[.map (some h0)] 102 (0,0)⟩:aE)∈M->cO I M (⟨b6,0,none⟩:Addr) 1 [.map (some h0)]:=λa'=>⟨rfl,_,_,_,.inr ⟨_,a',rfl,rfl⟩,rfl,rfl⟩;have z9:∀ {M:List aE},(⟨eP,.cells #[.slice (some ⟨gN,0,none⟩) g.n g.n] 223 (0,0)⟩:aE)∈M->cO I M (⟨eP,0,none⟩:Addr) 1 [.slice (some ⟨gN,0,none⟩) g.n g.n]:=λa'=>⟨rfl,_,_,_,.inr ⟨_,a',rfl,rfl⟩,rfl,rfl⟩;refine aR.mk _ (Ri (by simp[ofM])) ?_;refine dg.inv (ι:=Nat×List aW) (λx=>{ bj:=[(0,.val (ptr b1)),(1,.val (ptr b6)),(2,.val (ptr eP)),(4,.val (.bool (decide (x.2≠fA)))),(9,.val (.slice g.a g.n g.c)),(10,.val (.int .i64 g.n)),(11,.val (.int .i64 x.1))],cI:=I,de:=ofM b6 h0 eP gN b1 g x.2 }) (λx=>x.1<=g.n/\pt g.ds x.2/\eE fA x.2/\n6 (bD g.ds) 0 g.ds fA=n6 (bD g.ds) x.1 (g.ds.drop x.1) x.2) (λx=>g.n-x.1) ?_ ?_
 ·refine⟨(0,fA),⟨dw _,BF,eE.refl _,rfl⟩,.refl,.cons .refl (.cons .refl (.cons .refl (.cons ?_ (ht)))),.nil⟩;exact LW (by simp)
 rintro⟨i,l⟩⟨hi,nA,bq,eK⟩;simp only at hi nA bq eK;have gC:=nA.len;refine a3.mk (λh=>?_) (λh=>?_)
 rotate_left
 ·have cJ:i=g.n:=by have:¬ (i:Int)<(g.n:Int):=eu h;omega
  rw[ki (by omega),n6]at eK;exact⟨_,_,.refl,by rw[eK],rfl,by rw[eK]⟩
 have a1:i<g.n:=by have:(i:Int)<(g.n:Int):=dB h;omega
 have cq:i<g.ds.length:=by omega
 have dL:i<l.length:=by omega
 obtain⟨aU,bK,bm⟩:=av.a2.row aP.cT a1 cq;have gb:=bi cq;have ak:=av.ds _ gb;have af:=hm.right _ gb;have EX:=YZ (hm.named _ gb);rw[show g.ds.length=l.length from gC.symm]at EX;obtain⟨uj,jh⟩:=nA.step cq;have yz:n6 (bD g.ds) 0 g.ds fA=n6 (bD g.ds) (i+1) (g.ds.drop (i+1)) (l.set i (ix (bD g.ds) l g.ds[i])):=by rw[eK,e1 cq,n6]
 have Ik:ix (bD g.ds) l g.ds[i]=(ev (bD g.ds) l g.ds[i].t.ns []).getD g.ds[i].t.bA.toNat b4:=rfl;generalize ix (bD g.ds) l g.ds[i]=f at uj jh yz Ik;generalize g.ds[i]=d at bm ak af EX Ik;have tP:=qP af;have hK:=ak.t.n;have rQ:=Ia (bD g.ds) l d.t.ns [];simp only[fs,cX]at rQ;have fC:d.t.bA.toNat<(ev (bD g.ds) l d.t.ns []).length:=by omega
 have wk:(ev (bD g.ds) l d.t.ns [])[d.t.bA.toNat]=f:=by rw[Ik];simp[bt,fC]
 have Rj:=YP (M0:=[fU gN l]) (ln:=l.length) (lc:=g.n) ak.t af EW (L3 (I:=I) (ec.2 rfl)) EX;rw[show l.length=g.n by omega]at Rj;refine bf.mk aU i bK rfl a1 ?_;refine aR.mk _ (bm _) ?_;have ak9:l.getD i b4=l[i]:=by simp[bt,dL]
 have more:(!decide (f=l[i]))=true->decide (l.set i f≠fA)=true:=λh=>by
  have bs:f≠l[i]:=by simpa using h
  rw[hq];intro e;have a4:l.set i f=l:=by refine eE.antisymm ?_ jh;rw[e];exact bq
  have aj:=Ie l i i f dL;rw[a4,bN rfl,ak9]at aj;exact bs aj.symm
 have same:(!decide (f=l[i]))=false->l.set i f=l:=λh=>by
  have he:f=l[i]:=by simpa using h
  rw[he];exact List.set_getElem_self dL
 refine c4.draw a7 rfl rfl rfl ?_;refine aR.mk _ (ak8 (by simp[ofM])) ?_;refine aR.mk _ (z9 (by simp[ofM])) ?_;refine⟨?_,?_⟩
 ·refine eR.o3 [fU gN l] [⟨b6,.cells #[.map (some h0)] 102 (0,0)⟩,⟨eP,.cells #[.slice (some ⟨gN,0,none⟩) g.n g.n] 223 (0,0)⟩,⟨b1,.cells #[.slice g.a g.n g.c] 24 (0,0)⟩] _ (Ij ..) Rj (λv I' M' h x ad=>by obtain⟨-,b,-,rfl⟩:=h;exact .tail _ ad) ?_;rintro v dz dm -⟨rfl,b,rfl,rfl⟩;refine bf.mk ⟨b,0,none⟩ d.t.bA.toNat rfl (by omega) (by omega) ?_;refine aR.mk _ (EN (.head _) fC) ?_;rw[wk];refine b'.mk λb7 Il L6=>?_;refine b8.sd [] [fU b (ev (bD g.ds) l d.t.ns []),fU gN l,⟨b6,.cells #[.map (some h0)] 102 (0,0)⟩,⟨eP,.cells #[.slice (some ⟨gN,0,none⟩) g.n g.n] 223 (0,0)⟩,⟨b1,.cells #[.slice g.a g.n g.c] 24 (0,0)⟩] _ _ rfl rfl rfl rfl f.cells rfl ?_;refine c4.draw a7 rfl rfl rfl ?_;refine aR.mk f.cells (L5 (by simp)) ?_;refine aR.mk _ (z9 (by simp)) ?_;refine bf.mk ⟨gN,0,none⟩ i rfl rfl a1 ?_;refine aR.mk _ (EN (by simp) dL) ?_;refine gB.YD (p:=f) (q:=l[i]) ?_;refine a3.mk (λh=>?_) (λh=>?_)
  ·refine aR.mk _ (z9 (by simp)) ?_;refine aR.mk f.cells (L5 (by simp)) ?_;refine bf.mk ⟨gN,0,none⟩ i rfl rfl a1 ?_;refine b8.iJ [(⟨b7,.cells f.cells.toArray 270 (0,0)⟩:aE),fU b (ev (bD g.ds) l d.t.ns [])] [⟨b6,.cells #[.map (some h0)] 102 (0,0)⟩,⟨eP,.cells #[.slice (some ⟨gN,0,none⟩) g.n g.n] 223 (0,0)⟩,⟨b1,.cells #[.slice g.a g.n g.c] 24 (0,0)⟩] (l.flatMap aW.cells) _ rfl (Y2 dL) rfl ((l.set i f).flatMap aW.cells) (by rw[cX];exact Q7 l i dL f) ?_;refine bg.mk _ (cL (i:=i) (by omega)) ?_;refine⟨(i+1,l.set i f),⟨⟨by simp only;omega,uj,bq.trans jh,yz⟩,by simp only;omega⟩,.sub (M1:=[fU gN (l.set i f),⟨b6,.cells #[.map (some h0)] 102 (0,0)⟩,⟨eP,.cells #[.slice (some ⟨gN,0,none⟩) g.n g.n] 223 (0,0)⟩,⟨b1,.cells #[.slice g.a g.n g.c] 24 (0,0)⟩]) (by exact .cons _ (.cons _ (.refl _))) (.perm (Ij ..).symm .refl),.cons .refl (.cons .refl (.cons .refl (.cons (LW (more h).symm) (ht)))),.nil⟩
  ·have he:l.set i f=l:=same h;rw[he]at yz;refine bg.mk _ (cL (i:=i) (by omega)) ?_;exact⟨(i+1,l),⟨⟨by simp only;omega,nA,bq,yz⟩,by simp only;omega⟩,.sub (M1:=[fU gN l,⟨b6,.cells #[.map (some h0)] 102 (0,0)⟩,⟨eP,.cells #[.slice (some ⟨gN,0,none⟩) g.n g.n] 223 (0,0)⟩,⟨b1,.cells #[.slice g.a g.n g.c] 24 (0,0)⟩]) (by exact .cons _ (.cons _ (.refl _))) (.perm (Ij ..).symm .refl),tB,.nil⟩
 ·refine b'.mk λb7 Il L6=>?_;refine eR.o3 [fU gN l] [(⟨b7,.cells b4.cells.toArray 270 (0,0)⟩:aE),⟨b6,.cells #[.map (some h0)] 102 (0,0)⟩,⟨eP,.cells #[.slice (some ⟨gN,0,none⟩) g.n g.n] 223 (0,0)⟩,⟨b1,.cells #[.slice g.a g.n g.c] 24 (0,0)⟩] _ (ak6 ..) Rj (λv I' M' h x ad=>by obtain⟨-,b,-,rfl⟩:=h;exact .tail _ ad) ?_;rintro v dz dm -⟨rfl,b,rfl,rfl⟩;refine bf.mk ⟨b,0,none⟩ d.t.bA.toNat rfl (by omega) (by omega) ?_;refine aR.mk _ (EN (.head _) fC) ?_;rw[wk];refine b8.sd [fU b (ev (bD g.ds) l d.t.ns []),fU gN l] [⟨b6,.cells #[.map (some h0)] 102 (0,0)⟩,⟨eP,.cells #[.slice (some ⟨gN,0,none⟩) g.n g.n] 223 (0,0)⟩,⟨b1,.cells #[.slice g.a g.n g.c] 24 (0,0)⟩] _ _ rfl rfl rfl rfl f.cells rfl ?_;refine c4.draw a7 rfl rfl rfl ?_;refine aR.mk f.cells (L5 (by simp)) ?_;refine aR.mk _ (z9 (by simp)) ?_;refine bf.mk ⟨gN,0,none⟩ i rfl rfl a1 ?_;refine aR.mk _ (EN (by simp) dL) ?_;refine gB.YD (p:=f) (q:=l[i]) ?_;refine a3.mk (λh=>?_) (λh=>?_)
  ·refine aR.mk _ (z9 (by simp)) ?_;refine aR.mk f.cells (L5 (by simp)) ?_;refine bf.mk ⟨gN,0,none⟩ i rfl rfl a1 ?_;refine b8.iJ [fU b (ev (bD g.ds) l d.t.ns [])] [(⟨b7,.cells f.cells.toArray 270 (0,0)⟩:aE),⟨b6,.cells #[.map (some h0)] 102 (0,0)⟩,⟨eP,.cells #[.slice (some ⟨gN,0,none⟩) g.n g.n] 223 (0,0)⟩,⟨b1,.cells #[.slice g.a g.n g.c] 24 (0,0)⟩] (l.flatMap aW.cells) _ rfl (Y2 dL) rfl ((l.set i f).flatMap aW.cells) (by rw[cX];exact Q7 l i dL f) ?_;refine bg.mk _ (cL (i:=i) (by omega)) ?_;refine⟨(i+1,l.set i f),⟨⟨by simp only;omega,uj,bq.trans jh,yz⟩,by simp only;omega⟩,.sub (M1:=[fU gN (l.set i f),⟨b6,.cells #[.map (some h0)] 102 (0,0)⟩,⟨eP,.cells #[.slice (some ⟨gN,0,none⟩) g.n g.n] 223 (0,0)⟩,⟨b1,.cells #[.slice g.a g.n g.c] 24 (0,0)⟩]) (by exact .cons _ (.cons_cons _ (.cons _ (.refl _)))) (.perm (Ij ..).symm .refl),.cons .refl (.cons .refl (.cons .refl (.cons (LW (more h).symm) (ht)))),.nil⟩
  ·have he:l.set i f=l:=same h;rw[he]at yz;refine bg.mk _ (cL (i:=i) (by omega)) ?_;exact⟨(i+1,l),⟨⟨by simp only;omega,nA,bq,yz⟩,by simp only;omega⟩,.sub (M1:=[fU gN l,⟨b6,.cells #[.map (some h0)] 102 (0,0)⟩,⟨eP,.cells #[.slice (some ⟨gN,0,none⟩) g.n g.n] 223 (0,0)⟩,⟨b1,.cells #[.slice g.a g.n g.c] 24 (0,0)⟩]) (by exact .cons _ (.cons_cons _ (.cons _ (.refl _)))) (.perm (Ij ..).symm .refl),tB,.nil⟩
def ala(bp:fW I al)(av:g.ok I):Spec Tryz.prog 158 [g.val] I [] λv I' M'=>(∀ b o,I b=some o->I' b=some o) /\
  ((dj al g≠0/\v=.tuple #[.slice none 0 0,.int .i64 (dj al g)]/\M'=[])\/(dj al g=0/\∃ b l,v=.tuple #[.slice (some ⟨b,0,none⟩) g.n g.n,.int .i64 0]/\M'=[fU b l]/\j1 g.ds l)):=by
 refine cg [1,5,6] a7 Tryz.func158 rfl rfl rfl ?_;intro B az;have fl:=av.n;have jJ:=av.a2.cap;refine b'.mk λb1 hb Rk=>?_;refine aR.mk [.slice g.a g.n g.c] ⟨rfl,_,_,_,.inr ⟨_,.head _,rfl,rfl⟩,rfl,rfl⟩ ?_;refine bd.mk [] [⟨b1,.cells #[.slice g.a g.n g.c] 24 (0,0)⟩] _ (.refl _) (Qv bp av) ?_;rintro v I1 M1 -⟨rfl,cu,rfl⟩;refine a3.mk (λh=>?_) (λh=>?_)
 ·have hm:dj al g≠0:=by simpa using h
  exact⟨_,_,.sub (fk _) .refl,cu,.inl ⟨hm,rfl,rfl⟩⟩
 have hm:dj al g=0:=by simpa using h
 have a':=L4 fl hm;refine aR.mk _ (c5 (b:=b1) (cs:=[.slice g.a g.n g.c]) (k:=0) (n:=1) (T:=24) (.head _) (by simp)) ?_;refine m0.mk g.n g.n rfl rfl (b2 _) (by show 3*g.n<=_;omega) (by omega) ?_;refine b'.mk λgN nc awJ=>?_;have e:rowOf b4.cells (g.n*3)=(List.replicate g.ds.length b4).flatMap aW.cells:=by rw[fl];exact YO g.n
 refine b'.mk λeP z5 EA=>?_;refine b8.sd [] _ _ _ rfl rfl rfl rfl [.slice (some ⟨gN,0,none⟩) g.n g.n] rfl ?_;refine aR.mk [.slice g.a g.n g.c] ⟨rfl,_,_,_,.inr ⟨_,.tail _ (.tail _ (.head _)),rfl,rfl⟩,rfl,rfl⟩ ?_;refine bd.mk [] _ _ (.refl _) (YJ (av.mono cu)) ?_;rintro v dz dm -⟨et,rfl,h0,rfl,EW⟩;refine b'.mk λb6 Ck Qj=>?_;refine b8.sd [] _ _ _ rfl rfl rfl rfl [.map (some h0)] rfl ?_;refine dg.inv (ι:=List aW) (λl=>{ bj:=[(5,.val (ptr eP)),(7,.val (.func (.func 198) #[] #[ptr b1,ptr b6,ptr eP]))],cI:=dz,de:=ofM b6 h0 eP gN b1 g l }) (pt g.ds) Ag ?_ ?_
 ·refine⟨List.replicate g.ds.length b4,.start g.ds,?_,uV,.nil⟩;simp only[ofM,fU];rw[<-e];exact .refl
 intro l ay;refine bd.mk (ofM b6 h0 eP gN b1 g l) [] _ (.refl _) (ak7 ((av.mono cu).mono et) a' EW ay) ?_;rintro v h9 sL -⟨rfl,rfl,rfl⟩;obtain⟨hO,nx,-⟩:=Q' g.ds [] rfl ay;refine a3.mk (λh=>?_) (λh=>?_)
 ·exact⟨_,⟨hO,ak1 nx (dB h)⟩,.refl,uV,.nil⟩
 ·have aA:n6 (bD g.ds) 0 g.ds l=l:=by have:=eu h;exact Classical.not_not.1 this
  rw[aA];refine aR.mk [.slice (some ⟨gN,0,none⟩) g.n g.n] ⟨rfl,_,_,_,.inr ⟨_,.tail _ (.head _),rfl,rfl⟩,rfl,rfl⟩ ?_;refine⟨h9,[fU gN l],.sub (.cons _ (.cons _ (.cons_cons _ (fk _)))) .refl,λb o h=>et _ _ (cu _ _ h),.inr ⟨hm,gN,l,rfl,rfl,ay.done aA⟩⟩
def bP.a0(t:bP):bP:=⟨t.ns.map ap.a0,none,t.n,0,t.bA⟩
def aP.a0(d:aP):aP:=⟨d.name,d.t.a0⟩
def cD.a0(g:cD):cD:=⟨g.ds.map aP.a0,none,g.n,0⟩
def Y3:∀ (ds:List ap) (i:Nat) (s:List Bool),jI i (ds.map ap.a0) s=jI i ds s
 |[],i,s=>rfl| d::ds,i,s=>by have h:∀ cf,jI (i+1) (ds.map ap.a0) cf=jI (i+1) ds cf:=λcf=>Y3 ds (i+1) cf;rw[bX,jI,jI];simp only[h];rfl
def vu(t:bP):right t.a0=right t:=by unfold right bP.a0;simp only[Y3,bE]
def Y4(ns:List ap)(k:Int):hA (ns.map ap.a0) k=hA ns k:=by unfold hA;rw[gh];rfl
def Y5(ns:List ap)(kind:Int):∀ ks,kP (ns.map ap.a0) kind ks=kP ns kind ks
 |[]=>rfl| k::ks=>by rw[kP,kP,Y4,Y5 ns kind ks]
def Y6(ns:List ap):∀ ds:List ap,lg (ns.map ap.a0) (ds.map ap.a0)=lg ns ds
 |[]=>rfl| d::ds=>by have h:=Y5 ns d.k d.aw;rw[bX,lg,lg,Y6 ns ds];show(bif !decide (d.k=4) && !decide (d.k=5)then lg ns ds else bif kP (ns.map ap.a0) d.k d.aw then lg ns ds else false)=_;rw[h]
def alb(t:bP):normal t.a0=normal t:=by unfold normal;rw[vu];congr 1;exact Y6 t.ns t.ns
def Y7:∀ (ds:List ap) (i:Nat) (eC:List Int),oo i (ds.map ap.a0) eC=oo i ds eC
 |[],i,eC=>rfl| d::ds,i,eC=>by rw[bX,oo,oo,Y7 ds];rfl
def alc(t:bP):depth t.a0=depth t:=by unfold depth;rw[vu];simp only[bP.a0,Y7,bE]
def ald(t:bP):nl t.a0=nl t:=by unfold nl;rw[vu,alc];rfl
def Im{α:Type}{z:α}{f g:ap->(Int->α)->α}(h:∀ d q,f d.a0 q=g d q):∀ (ds:List ap) (aZ:List α),gK z f (ds.map ap.a0) aZ=gK z g ds aZ
 |[],aZ=>rfl| d::ds,aZ=>by rw[bX,gK,gK,h,Im h ds]
def ale(al:List Int)(ns:List ap)(k:Int):kM al (ns.map ap.a0) k=kM al ns k:=by unfold kM lH;rw[Im (g:=Cf al ns) (λd q=>?_)];show kl al d++(sT (np d) (λk=>paren (gv d.k (hA (ns.map ap.a0) k)) (q k)) false d.aw++mK d)=_;simp only[Y4];rfl
def alf(al:List Int)(t:bP):i' al t.a0=i' al t:=by unfold i';rw[vu];have:kM al t.a0.ns t.a0.bA=kM al t.ns t.bA:=ale al t.ns t.bA;rw[this]
def alg(al:List Int)(d:aP):lJ al d.a0=lJ al d:=by unfold lJ;have:i' al d.a0.t=i' al d.t:=alf al d.t;rw[this];rfl
def Y8(al:List Int):∀ (ds:List aP) (aZ:List UInt8),kO al (ds.map aP.a0) aZ=kO al ds aZ
 |[],aZ=>rfl| d::ds,aZ=>by rw[bX,kO,kO,alg,Y8 al ds]
def alh(g:cD):lh g.a0=lh g:=by unfold lh cD.a0;rw[gh];congr 1;refine fO λd _=>?_;show qT d.t.a0=qT d.t;unfold qT;rw[vu];rfl
def Y9{q:aP->Bool}(h:∀ d,q d.a0=q d)(ds:List aP):(ds.map aP.a0).all q=ds.all q:=by rw[L1];congr 1;funext d;exact h d
def ali(al:List Int)(g:cD):mL al g.a0=mL al g:=by unfold mL;rw[alh];have aa:(g.a0.ds.all λd=>nl d.t)=g.ds.all λd=>nl d.t:=Y9 (λd=>ald d.t) g.ds;have ab:kO al g.a0.ds []=kO al g.ds []:=Y8 al g.ds [];rw[aa,ab];rfl
def alj(ds:List aP):nr (ds.map aP.a0)=nr ds:=Y9 (q:=λd=>jW d.name&&normal d.t) (λd=>by
 show(jW d.name&&normal d.t.a0)=_;rw[alb]) ds
def Y':∀ (ds:List aP) (aZ:List (ByteArray×Int)) (i:Nat),mc aZ i (ds.map aP.a0)=mc aZ i ds
 |[],aZ,i=>rfl| d::ds,aZ,i=>by rw[bX,mc,mc];show(bif (eD d.name aZ).isSome then none else mc (aZ++[(d.name,(i:Int))]) (i+1) (ds.map aP.a0))=_;rw[Y' ds]
def Za:∀ (ds:List aP) (i:Nat),qV i (ds.map aP.a0)=(qV i ds).map λp=>(p.1,p.2.a0)
 |[],i=>rfl| d::ds,i=>by rw[bX,qV,qV,Za ds,cP,gh];show(d.t.ns.map ap.a0).map (λn=>(i,n))++_=_;rw[gh];rfl
def alk(aZ:List (ByteArray×Int))(ds:List aP):qW aZ (ds.map aP.a0)=qW aZ ds:=by unfold qW;rw[Za,L1];rfl
def Aj(al:List Int)(g:cD):dj al g.a0=dj al g:=by unfold dj;rw[ali];have aa:nr g.a0.ds=nr g.ds:=alj g.ds;have ab:mc [] 0 g.a0.ds=mc [] 0 g.ds:=Y' g.ds [] 0;have aj:∀ aZ,qW aZ g.a0.ds=qW aZ g.ds:=λaZ=>alk aZ g.ds;rw[aa,ab];simp only[aj];rfl
def Zb(ns:List ap)(j:Nat):(nodeAt (ns.map ap.a0) j).a0=(nodeAt ns j).a0:=by
 unfold nodeAt;simp only[bt,jR];cases ns[j]?<;>rfl
def Zc(ns:List ap)(j:Nat):(nodeAt (ns.map ap.a0) j).aw=(nodeAt ns j).aw:=by have h:=congrArg ap.aw (Zb ns j);exact h
def Zd(ns:List ap):∀ (f:Nat) (todo b:List Int),ue (ns.map ap.a0) f todo b=ue ns f todo b
 |0,todo,b=>rfl
 |f+1,todo,b=>by
  unfold ue;cases todo.getLast? with
  |none=>rfl| some n=>simp only;rw[Zc,Zd ns f]
def Ze(d:ap)(l:List Int):d.a0.eQ l=d.eQ l:=rfl
def alm(ns:List ap):CA (ns.map ap.a0)=CA ns:=by funext aX b;unfold CA;rw[Zc,<-Ze (nodeAt (ns.map ap.a0) b.toNat),Zb,Ze]
def Zf(ns:List ap)(node:Int):r8 (ns.map ap.a0) node=r8 ns node:=by unfold r8 Ae;rw[alm,Zd,bE]
def Zg(pl:List (ByteArray×Int))(bj:List aW):∀ (ds:List ap) (aZ:List aW),ev pl bj (ds.map ap.a0) aZ=ev pl bj ds aZ
 |[],aZ=>rfl| d::ds,aZ=>by rw[bX,ev,ev,Zg pl bj ds];rfl
def Zh:∀ (ds:List aP) (aZ:List (ByteArray×Int)) (i:Nat),oA aZ i (ds.map aP.a0)=oA aZ i ds
 |[],aZ,i=>rfl| d::ds,aZ,i=>by rw[bX,oA,oA,Zh ds];rfl
def EY(ds:List aP):bD (ds.map aP.a0)=bD ds:=Zh ds [] 0
def L7(pl:List (ByteArray×Int))(bj:List aW)(d:aP):ix pl bj d.a0=ix pl bj d:=by unfold ix;have:ev pl bj d.a0.t.ns []=ev pl bj d.t.ns []:=Zg pl bj d.t.ns [];rw[this];rfl
def aln{ds:List aP}{l:List aW}(h:j1 ds l):j1 (ds.map aP.a0) l:=by
 refine⟨by rw[h.len,bE],λi hi=>?_,λm hm an=>?_⟩
 ·have cZ:i<ds.length:=by simpa using hi
  rw[EY,fr,L7];exact h.fix i cZ
 ·refine h.least m (by rw[hm,bE]) λi hi=>?_;have:=an i (by simpa using hi);rwa [EY,fr,L7]at this
def ko(l:List ap):bP:=⟨l,none,l.length,0,(l.length:Int)-1⟩
structure Zi(I:aM)(t:bP)(l:List ap):Prop where
 ok:t.ok I
 a0:t.ns.map ap.a0=l
 bA:t.bA=(l.length:Int)-1
def Zi.len{t:bP}{l:List ap}(h:Zi I t l):t.n=l.length:=by rw[<-h.ok.n,<-h.a0,bE]
def eT(ns:List ap):List Int:=ns.flatMap (·.aw)
def h1(l:List Int):Prop:=l.Pairwise (·≠·)
def EZ(s:List Bool)(l:List Int):Prop:=∀ j,s.getD j false=true ↔ ((j:Int)∈l/\j<s.length)
def Zj{i:Nat}:∀ {ks seen:List Int} {s:List Bool},i<=s.length->EZ s seen->h1 seen -> ((∃ cf,la i ks s=some cf) ↔ ((∀ k∈ks,0<=k/\k<i)/\h1 (seen++ks)))/\∀ cf,la i ks s=some cf->cf.length=s.length/\EZ cf (seen++ks)
 |[],seen,s,hi,hm,ak=>by refine⟨⟨λ_=>⟨λk ae=>by(cases ae),by simpa using ak⟩,λ_=>⟨s,rfl⟩⟩,λcf h=>?_⟩;simp only[la,j9]at h;subst h;exact⟨rfl,by simpa using hm⟩
 |k::ks,seen,s,hi,hm,ak=>by
  unfold la;cases ag:decide (k<0)||(decide ((i:Int)<=k)||s.getD k.toNat false)with
  |true=>
   refine⟨⟨λ⟨cf,h⟩=>(by cases h),λ⟨aa,ab⟩=>?_⟩,λcf h=>by cases h⟩;exfalso;have aj:=aa k (.head _);simp only[k6,hq]at ag;rcases ag with ag | ag | ag;·omega
   ·omega
   ·have:=(hm _).1 ag;rw[zL aj.1]at this;exact(sb.1 ab).2.2 k this.1 k (.head _) rfl
  |false=>
   simp only[qN,qz]at ag;obtain⟨b1,bT,cw⟩:=ag;have ae:k.toNat<s.length:=by omega
   have eZ:k ∉ seen:=λh=>by have:=(hm k.toNat).2 ⟨by rw[zL (by omega)];exact h,ae⟩;rw[cw]at this;cases this
   have sI:EZ (s.set k.toNat true) (seen++[k]):=λj=>by
    have:=hm j;simp only[bt,iu,n4,cF,ec]at this |-;by_cases e:k.toNat=j;·subst e;rw[bN rfl,bN ae];simp only[j',true_iff];exact⟨.inr (by omega),ae⟩
    ·rw[bS e,this];constructor
     ·rintro⟨aa,ab⟩;exact⟨.inl aa,ab⟩
     ·rintro⟨aa | aa,ab⟩
      ·exact⟨aa,ab⟩
      ·omega
   have fD:h1 (seen++[k]):=sb.2 ⟨ak,by simp,λa a6 b ag e=>by
    simp only[ec]at ag;subst ag;subst e;exact eZ a6⟩
   have aF:=Zj (i:=i) (ks:=ks) (seen:=seen++[k]) (s:=s.set k.toNat true) (by simpa using hi) sI fD;simp only[b5];rw[dY,r']at aF;refine⟨aF.1.trans ⟨λ⟨aa,ab⟩=>⟨λx ad=>?_,ab⟩,λ⟨aa,ab⟩=>⟨λx ad=>aa x (.tail _ ad),ab⟩⟩,λcf h=>?_⟩
   ·rcases eg.1 ad with rfl | ad
    ·omega
    ·exact aa x ad
   ·have:=aF.2 cf h;simpa using this
def Zk:∀ {ds:List ap} {i:Nat} {seen:List Int} {s:List Bool},i+ds.length<=s.length->EZ s seen->h1 seen -> ((∃ cf,jI i ds s=some cf) ↔ ((∀ j (h:j<ds.length),fits ds[j] ds[j].aw.length=true/\∀ k∈ds[j].aw,0<=k/\k<i+j)/\h1 (seen++eT ds)))/\∀ cf,jI i ds s=some cf->cf.length=s.length/\EZ cf (seen++eT ds)
 |[],i,seen,s,hi,hm,ak=>by refine⟨⟨λ_=>⟨λj ai=>by simp at ai,by simpa[eT]using ak⟩,λ_=>⟨s,rfl⟩⟩,λcf h=>?_⟩;simp only[jI,j9]at h;subst h;exact⟨rfl,by simpa[eT]using hm⟩
 |d::ds,i,seen,s,hi,hm,ak=>by
  unfold jI;have ae:=Zj (i:=i) (ks:=d.aw) (by simp at hi;omega) hm ak;have gU:eT (d::ds)=d.aw++eT ds:=rfl;cases aA:fits d d.aw.length with
  |false=>refine⟨⟨λ⟨cf,h⟩=>(by cases h),λ⟨aa,ab⟩=>?_⟩,λcf h=>by cases h⟩;have:=(aa 0 (by simp)).1;simp only[uW]at this;rw[aA]at this;cases this
  |true=>
   simp only[cb];cases aN:la i d.aw s with
   |none=>
    refine⟨⟨λ⟨cf,h⟩=>(by cases h),λ⟨aa,ab⟩=>?_⟩,λcf h=>by cases h⟩;exfalso;have:∃ cf,la i d.aw s=some cf:=ae.1.2 ⟨λk ae=>by
     have:=(aa 0 (by simp)).2 k ae;omega,by
     rw[gU,<-dY]at ab;exact(sb.1 ab).1⟩
    obtain⟨cf,h⟩:=this;rw[aN]at h;cases h
   |some s1=>
    obtain⟨alo,cY⟩:=ae.2 s1 aN;obtain⟨hO,d1⟩:=ae.1.1 ⟨s1,aN⟩;have aF:=Zk (ds:=ds) (i:=i+1) (seen:=seen++d.aw) (s:=s1) (by simp at hi;omega) cY d1;rw[dY,<-gU]at aF;simp only;refine⟨aF.1.trans ⟨λ⟨aa,ab⟩=>⟨λj ai=>?_,ab⟩,λ⟨aa,ab⟩=>⟨λj ai=>?_,ab⟩⟩,λcf h=>?_⟩
    ·cases j with
     |zero=>exact⟨aA,λk ae=>by have:=hO k ae;omega⟩| succ j=>have:=aa j (by simpa using ai);refine⟨this.1,λk ae=>?_⟩;have:=this.2 k ae;omega
    ·have:=aa (j+1) (by simpa using ai);refine⟨this.1,λk ae=>?_⟩;have:=this.2 k ae;omega
    ·have:=aF.2 cf h;exact⟨this.1.trans alo,this.2⟩
def alp(n:Nat):EZ (List.replicate n false) []:=λj=>by
 by_cases h:j<n<;>simp[bt,Re,h]
structure hP(t:bP):Prop where
 bA:0<=t.bA/\t.bA<t.ns.length
 fits:∀ j (h:j<t.ns.length),fits t.ns[j] t.ns[j].aw.length=true
 aw:∀ j (h:j<t.ns.length),∀ k∈t.ns[j].aw,0<=k/\k<j
 diff:h1 (eT t.ns)
 all:∀ j:Nat,j<t.ns.length->((j:Int)∈eT t.ns ↔ (j:Int)≠t.bA)
def lP{t:bP}:right t=true ↔ hP t:=by
 have h:=Zk (ds:=t.ns) (i:=0) (seen:=[]) (s:=List.replicate t.ns.length false) (by simp) (alp _) (by simp[h1]);simp only[iF,cX,sO]at h;unfold right;constructor
 ·intro af;simp only[cz,hq]at af;obtain⟨hO,nx,q1⟩:=af;split at q1
  ·rename_i s au;obtain⟨dJ,eO⟩:=h.1.1 ⟨s,au⟩;obtain⟨cY,m2⟩:=h.2 s au;refine⟨⟨hO,nx⟩,λj ai=>(dJ j ai).1,λj ai k ae=>(by have:=(dJ j ai).2 k ae;omega),eO,λj ai=>?_⟩;have ag:(s.getD j false == decide (((0+j:Nat):Int)=t.bA))=false:=by
    cases ag:(s.getD j false == decide (((0+j:Nat):Int)=t.bA))with
    |false=>rfl| true=>have:=QX (by omega) ag;rw[this]at q1;cases q1
   rw[cX]at ag;have hm:=m2 j;constructor;·intro ad e;have:=hm.2 ⟨ad,by omega⟩;rw[this,eV e]at ag;cases ag
   ·intro bs;rw[dU bs]at ag;have:s.getD j false=true:=by
     revert ag;cases s.getD j false<;>simp
    exact(hm.1 this).1
  ·cases q1
 ·intro af;obtain⟨s,au⟩:=h.1.2 ⟨λj ai=>⟨af.fits j ai,λk ae=>by have:=af.aw j ai k ae;omega⟩,af.diff⟩;obtain⟨cY,m2⟩:=h.2 s au;rw[au];simp only[cz,hq];refine⟨af.bA.1,af.bA.2,Ys λj ai=>?_⟩;rw[cX];have a6:=af.all j (by omega);have hm:=m2 j;by_cases e:(j:Int)=t.bA
  ·have aA:s.getD j false=false:=by
    cases ag:s.getD j false with
    |false=>rfl| true=>exact absurd e (a6.1 (hm.1 ag).1)
   rw[aA,eV e];rfl
  ·have:=hm.2 ⟨a6.2 e,by omega⟩;rw[this,dU e];rfl
def hP.node{t:bP}(af:hP t){j:Nat}(ai:j<t.ns.length){k:Int}(ae:k∈(nodeAt t.ns j).aw):0<=k/\k<j:=by rw[gg ai]at ae;exact af.aw j ai k ae
def hP.two{t:bP}(af:hP t){i j:Nat}(hi:i<t.ns.length)(ai:j<t.ns.length)(bs:i≠j){k:Int}(aa:k∈(nodeAt t.ns i).aw)(ab:k∈(nodeAt t.ns j).aw):False:=by
 rw[gg hi]at aa;rw[gg ai]at ab;have:=(If.1 af.diff).2;rw[Rd]at this;rcases Nat.lt_or_gt_of_ne bs with h | h
 ·exact this i j hi ai h k aa k ab rfl
 ·exact this j i ai hi h k ab k aa rfl
def hP.alq{t:bP}(af:hP t){j:Nat}(ai:j<t.ns.length):h1 (nodeAt t.ns j).aw:=by rw[gg ai];exact(If.1 af.diff).1 _ (bi ai)
def E0(ns:List ap):Nat->Int->List Int
 |0,_=>[]| f+1,n=>(nodeAt ns n.toNat).aw.flatMap (E0 ns f)++[n]
def j2(ns:List ap)(n:Int):List Int:=E0 ns (n.toNat+1) n
def se{α β:Type}{f g:α->List β}:∀ {l:List α},(∀ x∈l,f x=g x)->l.flatMap f=l.flatMap g
 |[],_=>rfl| a::l,h=>by rw[jT,jT,h a (.head _),se λx ad=>h x (.tail _ ad)]
section
variable{t:bP}(af:hP t)
include af
theorem alr:∀ (f j:Nat),j<t.ns.length->j<f->E0 t.ns f j=j2 t.ns j:=by
 intro f
 induction f using Nat.strongRecOn with
 |_ f aF=>
  intro j ai aA
  match f,aA,aF with
  |f+1,aA,aF=>unfold j2;rw[E0,E0];congr 1;refine se λk ae=>?_;obtain⟨az,aa⟩:=af.node ai ae;obtain⟨k,rfl⟩:=ea az;have aJ:=aF f (by omega) k (by omega) (by omega);have a4:=aF j (by omega) k (by omega) (by omega);exact aJ.trans a4.symm
theorem qa{j:Nat}(ai:j<t.ns.length):j2 t.ns j=(nodeAt t.ns j).aw.flatMap (j2 t.ns)++[(j:Int)]:=by unfold j2;rw[E0];congr 1;refine se λk ae=>?_;obtain⟨az,aa⟩:=af.node ai ae;obtain⟨k,rfl⟩:=ea az;exact alr af _ k (by omega) (by omega)
theorem CH:∀ (j:Nat),j<t.ns.length->∀ x∈j2 t.ns j,(0<=x/\x<=j)/\(x=j\/∃ y:Nat,(y:Int)∈j2 t.ns j/\y<t.ns.length/\x∈(nodeAt t.ns y).aw):=by
 intro j
 induction j using Nat.strongRecOn with
 |_ j aF=>
  intro ai x ad;rw[qa af ai]at ad;rcases cF.1 ad with ad | ad
  ·obtain⟨k,ae,ad⟩:=g6.1 ad;obtain⟨az,aa⟩:=af.node ai ae;obtain⟨k,rfl⟩:=ea az;obtain⟨b,c⟩:=aF k (by omega) (by omega) x ad;refine⟨by omega,.inr ?_⟩;rcases c with rfl | ⟨y,aH,Li,Rl⟩
   ·exact⟨j,by rw[qa af ai];simp,ai,ae⟩
   ·exact⟨y,by rw[qa af ai];exact cF.2 (.inl (g6.2 ⟨k,ae,aH⟩)),Li,Rl⟩
  ·simp only[ec]at ad;subst ad;exact⟨by omega,.inl rfl⟩
theorem als{j:Nat}(ai:j<t.ns.length){a b:Nat}(a6:(a:Int)∈(nodeAt t.ns j).aw)(ag:(b:Int)∈(nodeAt t.ns j).aw)(bs:a≠b):∀ (m:Nat) (x:Int),x∈j2 t.ns a->x∈j2 t.ns b->t.ns.length-x.toNat<=m->False:=by
 have aa:=af.node ai a6;have ab:=af.node ai ag;intro m
 induction m with
 |zero=>intro x Rm kL hm;have:=(CH af a (by omega) x Rm).1;omega
 |succ m aF=>
  intro x Rm kL hm;obtain⟨awK,alt⟩:=CH af a (by omega) x Rm;obtain⟨awL,Zl⟩:=CH af b (by omega) x kL;rcases alt with sf | ⟨Rn,Zm,Ro,Rp⟩
  ·rcases Zl with L8 | ⟨Rq,g4,Rr,Rs⟩
   ·omega
   ·have:=(CH af b (by omega) Rq g4).1;subst sf;exact af.two ai Rr (by omega) a6 Rs
  ·rcases Zl with L8 | ⟨Rq,g4,Rr,Rs⟩
   ·have:=(CH af a (by omega) Rn Zm).1;subst L8;exact af.two ai Ro (by omega) ag Rp
   ·by_cases e:Rn=Rq
    ·subst e;have:=af.node Ro Rp;exact aF Rn Zm g4 (by omega)
    ·exact af.two Ro Rr e Rp Rs
theorem alu:∀ (j:Nat),j<t.ns.length->h1 (j2 t.ns j):=by
 intro j
 induction j using Nat.strongRecOn with
 |_ j aF=>
  intro ai;rw[qa af ai];have cd:=af.alq ai;refine sb.2 ⟨If.2 ⟨λk ae=>?_,?_⟩,by simp,λx ad y aH=>?_⟩;·obtain⟨az,aa⟩:=af.node ai ae;obtain⟨k,rfl⟩:=ea az;exact aF k (by omega) (by omega)
  ·refine cd.imp_of_mem ?_;intro a b a6 ag bs x ad y aH e;subst e;obtain⟨az,aa⟩:=af.node ai a6;obtain⟨ab,aj⟩:=af.node ai ag;obtain⟨a,rfl⟩:=ea az;obtain⟨b,rfl⟩:=ea ab;exact als af ai a6 ag (by intro e;subst e;exact bs rfl) _ x ad aH (b2 _)
  ·simp only[ec]at aH;subst aH;obtain⟨k,ae,ad⟩:=g6.1 ad;obtain⟨az,aa⟩:=af.node ai ae;obtain⟨k,rfl⟩:=ea az;have:=(CH af k (by omega) x ad).1;omega
def qb(ns:List ap)(l:List Int):Prop:=∀ i (h:i<l.length),∀ k∈(nodeAt ns (l[i]).toNat).aw,k∈l.take i
omit af in
theorem qb.append{ns:List ap}{l m:List Int}(h:qb ns l)(bc:qb ns m):qb ns (l++m):=by
 intro i hi k ae;by_cases ay:i<l.length
 ·rw[z3 ay]at ae;rw[BO (by omega)];exact h i ay k ae
 ·rw[ER (by omega)]at ae;have:=bc (i-l.length) (by simp at hi;omega) k ae;rw[Ih,fN (by omega)];exact cF.2 (.inr this)
omit af in
theorem qb.flat{ns:List ap}{f:Int->List Int}:∀ {ks:List Int},(∀ k∈ks,qb ns (f k))->qb ns (ks.flatMap f)
 |[],_=>λi h=>by simp at h
 |k::ks,h=>by rw[jT];exact(h k (.head _)).append (qb.flat λx ad=>h x (.tail _ ad))
theorem alv{j:Nat}(ai:j<t.ns.length):(j:Int)∈j2 t.ns j:=by rw[qa af ai];simp
theorem alw:∀ (j:Nat),j<t.ns.length->qb t.ns (j2 t.ns j):=by
 intro j
 induction j using Nat.strongRecOn with
 |_ j aF=>
  intro ai;have ae:∀ k∈(nodeAt t.ns j).aw,∃ q:Nat,k=q/\q<j:=λk ae=>by obtain⟨az,aa⟩:=af.node ai ae;exact⟨k.toNat,by omega,by omega⟩
  have aa:qb t.ns ((nodeAt t.ns j).aw.flatMap (j2 t.ns)):=qb.flat λk hg=>by obtain⟨q,rfl,aN⟩:=ae k hg;exact aF q aN (by omega)
  rw[qa af ai];intro i hi k qc;by_cases ay:i<((nodeAt t.ns j).aw.flatMap (j2 t.ns)).length;·rw[z3 ay]at qc;rw[BO (by omega)];exact aa i ay k qc
  ·rw[ER (by omega)]at qc;have e:i-((nodeAt t.ns j).aw.flatMap (j2 t.ns)).length=0:=by simp only[b3,c2,fs]at hi;omega
   simp only[e,uW,gz]at qc;rw[Ih,fN (by omega)];refine cF.2 (.inl (g6.2 ⟨k,qc,?_⟩));obtain⟨q,rfl,aN⟩:=ae k qc;exact alv af (by omega)
theorem alx:∀ (j:Nat),j<t.ns.length->(j2 t.ns j).length=ny t.ns j:=by
 intro j
 induction j using Nat.strongRecOn with
 |_ j aF=>
  intro ai;rw[qa af ai,H8 (lP.2 af) ai,<-gg ai];simp only[b3,yw,c2,fs,g3];have:(nodeAt t.ns j).aw.map (λa=>(j2 t.ns a).length)=(nodeAt t.ns j).aw.map (ny t.ns):=fO λk ae=>by obtain⟨az,aa⟩:=af.node ai ae;obtain⟨k,rfl⟩:=ea az;exact aF k (by omega) (by omega)
  rw[this];omega
theorem Zn:∀ (f:Nat) (todo b:List Int),(∀ k∈todo,0<=k/\k<t.ns.length)->(todo.map λn=>(j2 t.ns n).length).sum<=f->ue t.ns f todo b=b++todo.reverse.flatMap (λn=>(j2 t.ns n).reverse)
 |0,todo,b,ah,aA=>by
  rcases wG todo with h | ⟨r,p,h⟩;·subst h;simp[ue]
  ·subst h;obtain⟨az,aa⟩:=ah p (by simp);obtain⟨p,rfl⟩:=ea az;have:=congrArg List.length (qa af (j:=p) (by omega));simp at aA this;have ab:(j2 t.ns (p:Int)).length=0:=by rw[aA.2];rfl
   omega
 |f+1,todo,b,ah,aA=>by
  rcases wG todo with h | ⟨r,p,h⟩;·subst h;rw[Yz];simp
  ·rw[List.concat_eq_append]at h;subst h;obtain⟨az,aa⟩:=ah p (by simp);obtain⟨p,rfl⟩:=ea az;have aB:p<t.ns.length:=by omega
   have he:=qa af aB;have ay:=congrArg List.length he;simp only[b3,yw,c2,fs]at ay;have kd:∀ k∈r++(nodeAt t.ns p).aw,0<=k/\k<t.ns.length:=λk ae=>by
    rcases cF.1 ae with ae | ae;·exact ah k (by simp[ae])
    ·have:=af.node aB ae;omega
   have wC:((r++(nodeAt t.ns p).aw).map λn=>(j2 t.ns n).length).sum<=f:=by simp only[cP,rZ,bX,hx,hI,B7]at aA |-;omega
   rw[YA,gz,Zn f _ _ kd wC];rw[yx,yx,hn,hn,zK,p7,he,yx,dY];congr 1;rw[<-dY];congr 1;simp[List.reverse_flatMap];rfl
theorem aly{j:Nat}(ai:j<t.ns.length):(Ae t.ns j).reverse=j2 t.ns j:=by unfold Ae;have aa:=alx af j ai;have ab:=QY (lP.2 af) t.ns.length j ai (by omega);rw[Zn af _ _ _ (λk ae=>by simp only[ec]at ae;omega) (by simp;omega)];simp
def vv(rb:List Int)(k:Int):Int:=(rb.idxOf k:Nat)
def Ak(ns:List ap)(rb:List Int)(b:Int):ap:=(nodeAt ns b.toNat).eQ ((nodeAt ns b.toNat).aw.map (vv rb))
omit af in
theorem h1.idx{l:List Int}(h:h1 l){i:Nat}(hi:i<l.length):l.idxOf l[i]=i:=by
 have aa:=List.idxOf_lt_length_of_mem (bi hi);have ab:=List.getElem_idxOf aa;have aj:=Rd.1 h;rcases Nat.lt_trichotomy (l.idxOf l[i]) i with aG | aG | aG
 ·exact absurd ab (aj _ _ aa hi aG)
 ·exact aG
 ·exact absurd ab.symm (aj _ _ hi aa aG)
omit af in
theorem h1.nodup{l:List Int}(h:h1 l){i j:Nat}(hi:i<l.length)(ai:j<l.length)(e:l[i]=l[j]):i=j:=by rw[<-h.idx hi,<-h.idx ai,e]
omit af in
theorem sub_fold{rb:List Int}(ak:h1 rb)(aB:qb t.ns rb)(ah:∀ k∈rb,0<=k/\k<t.ns.length):∀ i,i<=rb.length->∃ P:List Int,(rb.take i).foldl (CA t.ns) (List.replicate t.ns.length 0,[])=(P,(rb.take i).map (Ak t.ns rb))/\P.length=t.ns.length/\∀ q (h:q<rb.length),q<i->P.getD rb[q].toNat 0=(q:Int)
 |0,_=>⟨List.replicate t.ns.length 0,rfl,by simp,λq h aN=>by omega⟩
 |i+1,hi=>by
  obtain⟨P,aa,ab,aj⟩:=sub_fold ak aB ah i (by omega);have dL:i<rb.length:=by omega
  have awM:=ah _ (bi dL);have key:∀ q (h:q<rb.length),q<i+1->(P.set rb[i].toNat (i:Nat)).getD rb[q].toNat 0=(q:Int):=λq h aN=>by
   have BV:=ah _ (bi h);by_cases e:q=i;·subst e;simp[bt,iu,show rb[q].toNat<P.length by omega]
   ·have bs:rb[i].toNat≠rb[q].toNat:=λcQ=>e (ak.nodup h dL (by omega));have:=aj q h (by omega);simp only[bt,iu]at this |-;rw[bS bs];exact this
  refine⟨P.set rb[i].toNat (i:Nat),?_,by simpa using ab,key⟩;rw[gy dL,r4,aa,cP];simp only[jE,L0,CA,bE,hT,uL (Nat.le_of_lt dL),bX,hx];have:Ak t.ns rb rb[i]=(nodeAt t.ns rb[i].toNat).eQ ((nodeAt t.ns rb[i].toNat).aw.map λk=>(P.set rb[i].toNat (i:Nat)).getD k.toNat 0):=by unfold Ak;congr 1;refine fO λk ae=>?_;have hm:=aB i dL k ae;obtain⟨q,aN,e⟩:=jv hm;rw[hT]at aN;rw[List.getElem_take]at e;rw[<-e,key q (by omega) (by omega)];unfold vv;rw[ak.idx]
  rw[this]
theorem alz{j:Nat}(ai:j<t.ns.length):r8 t.ns j=(j2 t.ns j).map (Ak t.ns (j2 t.ns j)):=by obtain⟨P,aa,-,-⟩:=sub_fold (alu af j ai) (alw af j ai) (λk ae=>by have:=(CH af j ai k ae).1;omega) (j2 t.ns j).length (b2 _);rw[D']at aa;unfold r8;rw[aly af ai,aa]
end
structure eL where
 a:BitVec 64
 b:BitVec 64
 c:BitVec 64
 d:BitVec 64
 deriving DecidableEq
def eL.zero:eL:=⟨0,0,0,0⟩
def eL.or(x y:eL):eL:=⟨x.a ||| y.a,x.b ||| y.b,x.c ||| y.c,x.d ||| y.d⟩
def eL.and(x y:eL):eL:=⟨x.a &&& y.a,x.b &&& y.b,x.c &&& y.c,x.d &&& y.d⟩
def eL.sub(x y:eL):Bool:=decide (x.and y=x)
def eL.cells(x:eL):List Value:=[.int .u64 x.a.toNat,.int .u64 x.b.toNat,.int .u64 x.c.toNat,.int .u64 x.d.toNat]
structure lQ where
 w:eL
 f:Bool
 deriving DecidableEq
def lQ.cells(x:lQ):List Value:=[.int .u64 x.w.a.toNat,.int .u64 x.w.b.toNat,.int .u64 x.w.c.toNat,.int .u64 x.w.d.toNat,.bool x.f]
def Rt:lQ:=⟨.zero,false⟩
def eL.ext'{x y:eL}(aa:x.a=y.a)(ab:x.b=y.b)(aj:x.c=y.c)(aG:x.d=y.d):x=y:=by obtain⟨a,b,c,d⟩:=x;obtain⟨bO,iV,c',gO⟩:=y;simp only at aa ab aj aG;subst aa ab aj aG;rfl
def eL.or_assoc(x y z:eL):(x.or y).or z=x.or (y.or z):=by simp only[eL.or,BitVec.or_assoc]
def eL.or_comm(x y:eL):x.or y=y.or x:=by simp only[eL.or,BitVec.or_comm]
def eL.or_self(x:eL):x.or x=x:=by simp[eL.or]
def eL.zero_or(x:eL):eL.zero.or x=x:=by simp[eL.or,eL.zero]
def Al{x y:BitVec 64}:x &&& y=x ↔ x ||| y=y:=by
 constructor
 ·intro h;apply BitVec.eq_of_getElem_eq;intro i hi;have:=congrArg (λw:BitVec 64=>w[i]) h;simp only[BitVec.getElem_and,BitVec.getElem_or]at this |-;revert this;cases x[i]<;>cases y[i]<;>simp
 ·intro h;apply BitVec.eq_of_getElem_eq;intro i hi;have:=congrArg (λw:BitVec 64=>w[i]) h;simp only[BitVec.getElem_and,BitVec.getElem_or]at this |-;revert this;cases x[i]<;>cases y[i]<;>simp
def eL.L9{x y:eL}:x.sub y=true ↔ x.or y=y:=by
 unfold eL.sub;rw[hq];constructor
 ·intro h;have aa:=congrArg eL.a h;have ab:=congrArg eL.b h;have aj:=congrArg eL.c h;have aG:=congrArg eL.d h;exact eL.ext' (Al.1 aa) (Al.1 ab) (Al.1 aj) (Al.1 aG)
 ·intro h;have aa:=congrArg eL.a h;have ab:=congrArg eL.b h;have aj:=congrArg eL.c h;have aG:=congrArg eL.d h;exact eL.ext' (Al.2 aa) (Al.2 ab) (Al.2 aj) (Al.2 aG)
def eL.alA(x:eL):x.sub x=true:=eL.L9.2 x.or_self
def eL.alB{x y z:eL}(h:x.sub y=true)(bc:y.sub z=true):x.sub z=true:=by rw[eL.L9]at h bc |-;rw[<-bc,<-eL.or_assoc,h]
def eL.alC{x y:eL}(h:x.sub y=true)(bc:y.sub x=true):x=y:=by rw[eL.L9]at h bc;exact bc.symm.trans ((eL.or_comm y x).trans h)
def eL.zero_sub(x:eL):eL.zero.sub x=true:=by rw[eL.L9,eL.zero_or]
structure lQ.le(a b:lQ):Prop where
 w:a.w.sub b.w=true
 f:a.f=true->b.f=true
def lQ.le_refl(a:lQ):a.le a:=⟨eL.alA _,id⟩
def lQ.le.trans{a b c:lQ}(h:a.le b)(bc:b.le c):a.le c:=⟨eL.alB h.w bc.w,λx=>bc.f (h.f x)⟩
def lQ.le.antisymm{a b:lQ}(h:a.le b)(bc:b.le a):a=b:=by
 have aa:=eL.alC h.w bc.w;obtain⟨awN,alD⟩:=a;obtain⟨awO,uk⟩:=b;simp only at aa;subst aa;have aA:=h.f;have wC:=bc.f;cases alD<;>cases uk<;>simp_all
def lQ.q3(a:lQ):Rt.le a:=⟨eL.zero_sub _,λh=>by cases h⟩
def L'(x:BitVec 64):BitVec.ofInt 64 (x.toNat:Int)=x:=by rw[BitVec.ofInt_natCast,BitVec.ofNat_toNat,BitVec.setWidth_eq]
def Zo(x:BitVec 64):IntKind.u64.wrap (x.toNat:Int)=(x.toNat:Int):=by have:=x.isLt;unfold IntKind.wrap;simp only[IntKind.bits,IntKind.signed];simp;omega
def alE{x y:BitVec 64}:((x.toNat:Int) == (y.toNat:Int))=decide (x=y):=by rw[sC];simp[BitVec.toNat_eq];omega
structure Ru(α:Type) where
 le:α->α->Prop
 q3:α
 refl:∀ a,le a a
 trans:∀ {a b c},le a b->le b c->le a c
 Zp:∀ {a b},le a b->le b a->a=b
 low:∀ a,le q3 a
structure CI{α:Type}(O:Ru α)(l m:List α):Prop where
 len:l.length=m.length
 at':∀ i,O.le (l.getD i O.q3) (m.getD i O.q3)
section
variable{α:Type}{O:Ru α}
def CI.trans{a b c:List α}(h:CI O a b)(bc:CI O b c):CI O a c:=⟨h.len.trans bc.len,λi=>O.trans (h.at' i) (bc.at' i)⟩
def CI.of{a b:List α}(ay:a.length=b.length)(h:∀ i,i<a.length->O.le (a.getD i O.q3) (b.getD i O.q3)):CI O a b:=⟨ay,λi=>by
 by_cases hi:i<a.length
 ·exact h i hi
 ·have e:a.getD i O.q3=O.q3:=by simp[bt,qA (Nat.le_of_not_lt hi)]
  rw[e];exact O.low _⟩
section
end
end
def Zq{α:Type}{p q:α->Bool}:∀ {l:List α},(∀ x∈l,p x=true->q x=true)->l.countP q<=l.countP p->∀ x∈l,q x=true->p x=true
 |[],_,_,x,ad,_=>by cases ad
 |y::l,h,bq,x,ad,aN=>by
  have hm:=List.countP_mono_left (p:=p) (q:=q) (l:=l) (λx ad=>h x (.tail _ ad));rw[Ii,Ii]at bq;have aH:=h y (.head _);have key:(q y=true->p y=true)/\l.countP q<=l.countP p:=by cases aB:p y<;>cases awP:q y<;>simp_all<;>omega
  rcases eg.1 ad with rfl | ad;·exact key.1 aN
  ·exact Zq (λx ad=>h x (.tail _ ad)) key.2 x ad aN
def Io(x:BitVec 64):Nat:=(List.range 64).countP λi=>!x.getLsbD i
def alF{x y:BitVec 64}(h:x &&& y=x):Io y<=Io x/\(Io x<=Io y->x=y):=by
 have ag:∀ i,x.getLsbD i=true->y.getLsbD i=true:=λi ad=>by have:=congrArg (λw:BitVec 64=>w.getLsbD i) h;simp only[Rg,ad,om]at this;exact this
 have aB:∀ i∈List.range 64,(!y.getLsbD i)=true->(!x.getLsbD i)=true:=λi _ hi=>by
  have aa:=ag i;cases ad:x.getLsbD i with
  |false=>rfl| true=>rw[aa ad]at hi;cases hi
 refine⟨List.countP_mono_left aB,λbq=>?_⟩;have:=Zq aB bq;apply Rf;intro i hi;have aa:=ag i;have ab:=this i (g8.2 hi);cases ad:x.getLsbD i<;>cases aH:y.getLsbD i<;>simp_all
def Zr:Ru lQ:=⟨lQ.le,Rt,lQ.le_refl,λh bc=>h.trans bc,λh bc=>h.antisymm bc,lQ.q3⟩
def awQ.map{f g:α->lQ}{l:List α}(h:∀ x∈l,(f x).le (g x)):CI Zr (l.map f) (l.map g):=.of (by simp) λi hi=>by
 have cZ:i<l.length:=by simpa using hi
 have:=h _ (bi cZ);simpa[bt,cZ]using(show Zr.le _ _ from this)
structure E1(x:aW)(k:lQ):Prop where
 z:x.z=true->k.f=true
 s:x.s=true->k.w≠.zero
def E1.none(k:lQ):E1 b4 k:=⟨λh=>(by cases h),λh=>(by cases h)⟩
inductive Am:List aW->List lQ->Prop
 |nil:Am [] []| cons {x k l m} (h:E1 x k) (t:Am l m):Am (x::l) (k::m)
def Am.head{l:List aW}{m:List lQ}(h:Am l m):E1 (l.headD b4) (m.headD Rt):=by
 cases h with
 |nil=>exact E1.none _| cons h t=>exact h
def Am.map{α:Type}{f:α->aW}{g:α->lQ}:∀ {l:List α},(∀ x∈l,E1 (f x) (g x))->Am (l.map f) (l.map g)
 |[],_=>.nil| x::l,h=>.cons (h x (.head _)) (Am.map λy aH=>h y (.tail _ aH))
structure Ma(t:bP)(k:Int)(bo:bP):Prop where
 a0:bo.ns.map ap.a0=r8 t.ns k
 bA:bo.bA=(bo.ns.length:Int)-1
def j3:List (aW×List Nat)->List Nat
 |[]=>[]| x::xs=>x.2++bif x.1.z then j3 xs else []
def kp(pl:List (ByteArray×Int))(d:ap)(xs:List (aW×List Nat)):List Nat:=
 bif decide (d.k=3)then [((eD d.t pl).getD 0).toNat]else
 bif decide (d.k=4)then j3 xs else
 bif decide (d.k=6)&&decide (d.hi=0)then []else xs.flatMap (·.2)
def q4(pl:List (ByteArray×Int))(F:List aW)(d:ap)(xs:List (aW×List Nat)):aW×List Nat:=
 (gW d (xs.map (·.1)++bif decide (d.k=3)then [F.getD ((eD d.t pl).getD 0).toNat b4]else []),kp pl d xs)
def gj(pl:List (ByteArray×Int))(F:List aW)(ns:List ap)(j:Int):aW×List Nat:=lH (b4,[]) (λd g=>q4 pl F d (d.aw.map g)) ns j
def Rv{pl:List (ByteArray×Int)}{F:List aW}{t:bP}(af:right t=true){j:Nat}(ai:j<t.ns.length):gj pl F t.ns j=q4 pl F t.ns[j] (t.ns[j].aw.map (gj pl F t.ns)):=
 B8 (λd g dM h=>by rw[fO h]) af ai
def alG(pl:List (ByteArray×Int))(F:List aW)(ns:List ap)(j:Int):gj pl F (ns.map ap.a0) j=gj pl F ns j:=by unfold gj lH;rw[Im (f:=λd g=>q4 pl F d (d.aw.map g)) (g:=λd g=>q4 pl F d (d.aw.map g)) (λd q=>rfl)]
def Zs(aZ:List (aW×List Nat))(i:Nat):(aZ.getD i (b4,[])).1=(aZ.map (·.1)).getD i b4:=by
 simp only[bt,jR];cases aZ[i]?<;>rfl
def Zt(pl:List (ByteArray×Int))(F:List aW):∀ (ds:List ap) (aZ:List (aW×List Nat)),(gK (b4,[]) (λd g=>q4 pl F d (d.aw.map g)) ds aZ).map (·.1)=ev pl F ds (aZ.map (·.1))
 |[],aZ=>rfl
 |d::ds,aZ=>by
  have aJ:(q4 pl F d (d.aw.map λk=>aZ.getD k.toNat (b4,[]))).1=gW d (s4 pl F (aZ.map (·.1)) d):=by unfold q4 s4;simp only[gh,Function.comp_def,Zs]
  have aa:=Zt pl F ds (aZ++[q4 pl F d (d.aw.map λk=>aZ.getD k.toNat (b4,[]))]);rw[cP,bX,hx,aJ]at aa;rw[gK,aa,ev]
def Rw(pl:List (ByteArray×Int))(F:List aW)(ns:List ap)(j:Int):(gj pl F ns j).1=(ev pl F ns []).getD j.toNat b4:=by have h:=Zt pl F ns [];unfold gj lH;rw[Zs,h];rfl
abbrev dx:=BitVec 64
def lR(k:Nat):dx:=1#64 <<< k
def Mb{k i:Nat}(hi:i<64):(lR k).getLsbD i=decide (i=k):=by
 unfold lR;rw[BitVec.getLsbD_shiftLeft];simp only[hi,Ly,om];by_cases h:i<k
 ·have bs:¬ i=k:=by omega
  simp[h,bs]
 ·simp only[h,decide_false,Bool.not_false,om];by_cases e:i=k
  ·subst e;simp
  ·rw[dU e];have ab:0<i-k:=by omega
   rw[BitVec.getLsbD_one];simp;omega
def alH(l:List Nat):∀ (w:dx) {i:Nat},i<64->(l.foldl (λw k=>w ||| lR k) w).getLsbD i=(w.getLsbD i||l.contains i):=by
 induction l with
 |nil=>intro w i hi;simp| cons k l aF=>intro w i hi;rw[jE,aF _ hi,CG,Mb hi,List.contains_cons,Bool.or_assoc];rfl
def nB(m:List dx):Nat->Nat->dx->dx
 |_,0,w=>w| k,f+1,w=>nB m (k+1) f (bif w.getLsbD k then w ||| m.getD k 0 else w)
def sg(m:List dx):List dx:=(List.range 64).map λi=>nB m 0 64 (m.getD i 0)
inductive q5(m:List dx):Nat->Nat->Prop
 |one{i k}(ae:k<64)(h:(m.getD i 0).getLsbD k=true):q5 m i k| step {i j k} (h:(m.getD i 0).getLsbD j=true) (ai:j<64) (t:q5 m j k):q5 m i k
def q5.trans{m:List dx}{i j k:Nat}(h:q5 m i j)(bc:q5 m j k):q5 m i k:=by
 induction h with
 |one ae h=>exact .step h ae bc| step h ai t aF=>exact .step h ai (aF bc)
def j4(x y:dx):Prop:=∀ i,i<64->x.getLsbD i=true->y.getLsbD i=true
def j4.refl(x:dx):j4 x x:=λ_ _ h=>h
def j4.trans{x y z:dx}(h:j4 x y)(bc:j4 y z):j4 x z:=λi hi ad=>bc i hi (h i hi ad)
def j4.or(x y:dx):j4 x (x ||| y):=λi hi h=>by rw[CG,h];rfl
def j4.or'(x y:dx):j4 y (x ||| y):=λi hi h=>by rw[CG,h,ET]
def j4.Zp{x y:dx}(h:j4 x y)(bc:j4 y x):x=y:=Rf λi hi=>by
 have aa:=h i hi;have ab:=bc i hi;cases ad:x.getLsbD i<;>cases aH:y.getLsbD i<;>simp_all
def j4.and{x y:dx}(h:j4 x y):x &&& y=x:=Rf λi hi=>by
 have aa:=h i hi;rw[Rg];cases ad:x.getLsbD i<;>simp_all
def Ip(m:List dx):∀ (f k:Nat) (w:dx),j4 w (nB m k f w)
 |0,k,w=>j4.refl w
 |f+1,k,w=>by
  rw[nB];cases w.getLsbD k with
  |true=>exact(j4.or _ _).trans (Ip m f (k+1) _)| false=>exact Ip m f (k+1) _
def Rx{m:List dx}{P:Nat->Prop}(hm:∀ j,P j->∀ x,x<64->(m.getD j 0).getLsbD x=true->P x):∀ (f k:Nat) (w:dx),k+f<=64->(∀ x,x<64->w.getLsbD x=true->P x)->∀ x,x<64->(nB m k f w).getLsbD x=true->P x
 |0,k,w,_,hw=>hw
 |f+1,k,w,ae,hw=>by
  rw[nB];cases ag:w.getLsbD k with
  |true=>
   refine Rx hm f (k+1) _ (by omega) λx ad h=>?_;rw[cb,CG,k6]at h;rcases h with h | h;·exact hw x ad h
   ·exact hm k (hw k (by omega) ag) x ad h
  |false=>exact Rx hm f (k+1) _ (by omega) hw
def Ry{m:List dx}:∀ (f k:Nat) {w:dx},nB m k f w=w->∀ j,k<=j->j<k+f->w.getLsbD j=true->j4 (m.getD j 0) w
 |0,k,w,_,j,aa,ab,_=>by omega
 |f+1,k,w,h,j,aa,ab,ai=>by
  rw[nB]at h;cases ag:w.getLsbD k with
  |true=>
   rw[ag,cb]at h;have e:w ||| m.getD k 0=w:=by refine j4.Zp ?_ (j4.or _ _);have:=Ip m f (k+1) (w ||| m.getD k 0);rwa [h]at this
   by_cases E2:j=k;·subst E2;have:=j4.or' w (m.getD j 0);rwa [e]at this
   ·rw[e]at h;exact Ry f (k+1) h j (by omega) (by omega) ai
  |false=>
   rw[ag,b5]at h;by_cases E2:j=k;·subst E2;rw[ag]at ai;cases ai
   ·exact Ry f (k+1) h j (by omega) (by omega) ai
def Zu(m:List dx):(sg m).length=64:=by simp[sg]
def Mc(m:List dx){i:Nat}(h:i<64):(sg m).getD i 0=nB m 0 64 (m.getD i 0):=by simp[sg,bt,h]
structure An(jy m:List dx):Prop where
 len:m.length=64
 le:∀ i,i<64->j4 (jy.getD i 0) (m.getD i 0)
 ok:∀ i,i<64->∀ k,k<64->(m.getD i 0).getLsbD k=true->q5 jy i k
def An.start{jy:List dx}(h:jy.length=64):An jy jy:=⟨h,λi _=>j4.refl _,λi _ k ae ag=>.one ae ag⟩
def An.next{jy m:List dx}(h:An jy m):An jy (sg m):=by
 refine⟨Zu m,λi hi=>?_,λi hi k ae ag=>?_⟩
 ·rw[Mc m hi];exact(h.le i hi).trans (Ip m 64 0 _)
 ·rw[Mc m hi]at ag;refine Rx (P:=λx=>x<64/\q5 jy i x) (λj ai x ad ag=>⟨ad,ai.2.trans (h.ok j ai.1 x ad ag)⟩) 64 0 _ (b2 _) (λx ad ag=>⟨ad,h.ok i hi x ad ag⟩) k ae ag |>.2
def An.done{jy m:List dx}(h:An jy m)(aA:sg m=m){i k:Nat}(hi:i<64)(ae:k<64):(m.getD i 0).getLsbD k=true ↔ q5 jy i k:=by
 refine⟨h.ok i hi k ae,λan=>?_⟩;have dK:∀ i,i<64->∀ j,j<64->(m.getD i 0).getLsbD j=true->j4 (m.getD j 0) (m.getD i 0):=λi hi j ai ag=>by have:=Mc m hi;rw[aA]at this;exact Ry 64 0 this.symm j (dw _) (by omega) ag
 revert hi
 induction an with
 |one hg ag=>exact λhi=>h.le _ hi _ hg ag
 |step ag ai t aF=>exact λhi=>dK _ hi _ ai (h.le _ hi _ ai ag) _ ae (aF ae ai)
def Ao(m:List dx):Nat:=(m.map Io).sum
def Zv:∀ {m n:List dx},m.length=n.length->(∀ i,i<m.length->j4 (m.getD i 0) (n.getD i 0))->Ao n<=Ao m/\(Ao m<=Ao n->m=n)
 |[],[],_,_=>⟨b2 _,λ_=>rfl⟩| [],_::_,h,_=>by simp at h
 |_::_,[],h,_=>by simp at h
 |a::m,b::n,h,au=>by
  have az:j4 a b:=by simpa using au 0 (by simp)
  obtain⟨aa,ab⟩:=alF az.and;obtain⟨t1,t2⟩:=Zv (m:=m) (n:=n) (by simpa using h) λi hi=>by simpa using au (i+1) (by simpa using hi)
  simp only[Ao,bX,hI]at t1 t2 |-;refine⟨by omega,λbq=>?_⟩;rw[ab (by omega),t2 (by omega)]
def alI{m:List dx}(ay:m.length=64)(h:sg m≠m):Ao (sg m)<Ao m:=by
 have au:=Zv (m:=m) (n:=sg m) (by rw[ay,Zu]) λi hi=>by rw[Mc m (by omega)];exact Ip m 64 0 _
 refine Nat.lt_of_le_of_ne au.1 λe=>h (au.2 (by omega)).symm
def Rz(m:List dx):dx:=(List.range 64).foldl (λw i=>w ||| ((m.getD i 0) &&& lR i)) 0
def Zw(m:List dx):∀ (l:List Nat) (w:dx) {i:Nat},i<64->(∀ k∈l,k<64)->(l.foldl (λw i=>w ||| ((m.getD i 0) &&& lR i)) w).getLsbD i=(w.getLsbD i||(l.contains i&&(m.getD i 0).getLsbD i))
 |[],w,i,hi,_=>by simp
 |k::l,w,i,hi,ay=>by
  rw[jE,Zw m l _ hi λk ae=>ay k (.tail _ ae),CG,Rg,Mb hi,List.contains_cons];by_cases e:i=k
  ·subst e;simp;cases w.getLsbD i<;>cases(m.getD i 0).getLsbD i<;>simp
  ·have cQ:(i == k)=false:=by simpa using e
   rw[dU e,cQ];simp
def alJ(m:List dx){i:Nat}(hi:i<64):(Rz m).getLsbD i=(m.getD i 0).getLsbD i:=by
 unfold Rz;rw[Zw m _ _ hi λk ae=>g8.1 ae];have:(List.range 64).contains i=true:=by simpa using hi
 rw[this];simp
def bitsOf(w:dx)(n:Nat):List Nat:=(List.range n).filter λi=>w.getLsbD i
def Zx(w:dx)(n:Nat):bitsOf w (n+1)=bitsOf w n++(bif w.getLsbD n then [n]else []):=by
 unfold bitsOf;rw[Co,yy];cases h:w.getLsbD n<;>simp[h]
def alK(w:dx)(n:Nat):(bitsOf w n).length<=n:=by unfold bitsOf;have:=BQ (λi=>w.getLsbD i) (List.range n);simpa using this
section
variable{X:cV}{o:Oper}{F:Fr}{C:dF}{I:aM}{M:List aE}{K:gm}
def bB.alL(aQ:cU X.P X.E){x:Operand}{e:Nat}(aK:o.op=.convert src dst x)(ak:∀ d,o.dst=some d->d<X.n)
 {c7:dH} (ax:X.E src=some c7) (dT:c7.bM=.slice e) (he:X.E e=some aI) (kI:aI.bM=.int .u8) (kj:X.E dst=some L2) (gw:L2.bM=.string)
 {n c:Nat} {l:List UInt8} (ad:bF F x=.val (.slice (some aU) n c)) (aC:l.length=n) (bm:cO I M aU n (l.map λb=>.int .u8 b.toNat))
  (h:K (put o.dst (.val (.string ⟨l.toArray⟩)) F) C I M):bB X o F C I M K:=by
 subst aC;refine⟨λa w Q ⟨β,aV⟩=>?_⟩;obtain⟨au,cs,T,ao,ae,ah,ay⟩:=bm;have av:=ae.heap aV.holds;obtain⟨d,fM,fu⟩:=(aQ _ _ ax).fx;have aa:d=.slice e:=by rw[dT]at fu;cases d<;>simp_all[fw]
 subst aa;obtain⟨d2,RA,qU⟩:=(aQ _ _ he).fx;have ab:d2=.int .u8:=by rw[kI]at qU;cases d2<;>simp_all[fw]
 subst ab;obtain⟨d3,RB,z6⟩:=(aQ _ _ kj).fx;have aj:d3=.string:=by rw[gw]at z6;cases d3<;>simp_all[fw]
 subst aj;have an:∀ j (ai:j<l.length),w.cell? (aU.add j)=some (.int .u8 (l[j].toNat:Int)):=by
  intro j ai;rw[eU aU au,tw av];have iC:(l.map λb=>Value.int .u8 b.toNat)[j]?=some (.int .u8 (l[j].toNat:Int)):=by simp[ai]
  rw[<-ah,lu,bN ai,od]at iC;simpa using iC
 have ex:=df aV.ao ad;refine wi aV ak (by rw[aK];simp) ?_ h;unfold execOp;simp only[aK,ct,c3,ex,run_convert_bytes_back w src dst e aU c l fM RA RB an,bY]
end
section
variable{X:cV}{F:Fr}{C:dF}{I:aM}{M:List aE}{o:Oper}{K:gm}
def bB.alM(aQ:cU X.P X.E){x:Operand}{e:Nat}(aK:o.op=.convert src dst x)(ak:∀ d,o.dst=some d->d<X.n)
 {c7:dH} (ax:X.E src=some c7) (dT:c7.bM=.slice e) (he:X.E e=some aI) (kI:aI.bM=.int .u8) (kj:X.E dst=some L2) (gw:L2.bM=.string)
  {c:Nat} (ad:bF F x=.val (.slice none 0 c))
  (h:K (put o.dst (.val (.string ⟨#[]⟩)) F) C I M):bB X o F C I M K:=by
 refine⟨λa w Q ⟨β,aV⟩=>?_⟩;obtain⟨d,fM,fu⟩:=(aQ _ _ ax).fx;have aa:d=.slice e:=by rw[dT]at fu;cases d<;>simp_all[fw]
 subst aa;obtain⟨d2,RA,qU⟩:=(aQ _ _ he).fx;have ab:d2=.int .u8:=by rw[kI]at qU;cases d2<;>simp_all[fw]
 subst ab;obtain⟨d3,RB,z6⟩:=(aQ _ _ kj).fx;have aj:d3=.string:=by rw[gw]at z6;cases d3<;>simp_all[fw]
 subst aj;have ex:=df aV.ao ad;refine wi aV ak (by rw[aK];simp) ?_ h;unfold execOp;have fj:(convert src dst (.slice none 0 c)).run X.P w=.ok (.string ⟨#[]⟩) w:=by rw[run_convert_bytes_string w src dst e none 0 c fM RA RB];rfl
 simp only[aK,ct,c3,ex,fj,bY]
end
def bd.whole{K:Value->aM->List aE->Prop}(post:Value->aM->List aE->Prop)(au:Spec P f args I M post)(k:∀ v I' M',(∀ b o,I b=some o->I' b=some o)->post v I' M'->K v I' M'):bd foot P f args I M K:=
 .mk M [] post (by simp) au λv I' M' aa ab=>by rw[ed];exact k v I' M' aa ab
def eR.whole{soft:Bool}{K:Value->aM->List aE->Prop}(post:Value->aM->List aE->Prop)(au:Spec P f args I M post)(nS:∀ v I' M',post v I' M'->∀ x∈M,x∈M')(k:∀ v I' M',(∀ b o,I b=some o->I' b=some o)->post v I' M'->K v I' M'):eR soft foot P f args I M K:=
 .o3 M [] post (by simp) au nS λv I' M' aa ab=>by rw[ed];exact k v I' M' aa ab
section
variable{X:cV}{β:Nat->Nat}{a:Act}{w:World}{F:Fr}{C:dF}{I:aM}{M:List aE}{o:Oper}{K:gm}
def il.pu{I:aM}{M M':List aE}(h:M=M'):il foot I M I M':=by subst h;exact .refl
def bB.h5(h:bB X o F C I M λF C I M=>∃ I' M',il X.foot I M I' M'/\K F C I' M'):bB X o F C I M K:=by obtain⟨h⟩:=h;refine⟨λa w Q aV=>tq ?_ (h a w Q aV)⟩;rintro bO w'⟨dr,C',I',M',⟨β,af⟩,dz,dm,hw,ae⟩;exact⟨dr,C',dz,dm,⟨β,af.h5 hw⟩,ae⟩
def bB.pw(aQ:cU X.P X.E){x:Operand}(aK:o.op=.call { callee:=.builtin .append,args:=#[s,x],argTypes:=#[t,t] })(ak:∀ d,o.dst=some d->d<X.n)
  {e:Nat} {c7:dH} (ax:X.E t=some c7) (dT:c7.bM=.slice e) (he:X.E e=some aI)
  (os:aY) (bw:os.ok aI.size xs) (au:bF F s=.val os.val)
  {b9:Nat} {cs:List Value} (ad:bF F x=.val (.slice (some ⟨b9,0,none⟩) 1 c')) (ay:cs.length=aI.size) (aa:gA cs=true)
  (a9 post:List aE) (a':M=⟨b9,.cells cs.toArray e (0,0)⟩::(a9++(os.ar e++post))) (b1:os.n+1<=9223372036854775807) (bT:(os.n+1)*aI.bytes<=140737488355328)
  (k:∀ bu:aY,bu.n=os.n+1->(∀ g,bu.a=some g->I g=none)->bu.ok aI.size (xs++cs)->K (put o.dst (.val bu.val) F) C I (a9++(bu.ar e++post))):bB X o F C I M K:=by
 refine .h5 (.Hk aQ aK ak ax dT he os bw au (m:=1) (ch:=cs) ad (by decide) ?_ aa (Mr:=⟨b9,.cells cs.toArray e (0,0)⟩::(a9++post)) ?_ (by unfold maxLen;exact b1) bT ?_)
 ·rw[o2];refine⟨rfl,_,_,_,.inr ⟨⟨b9,.cells cs.toArray e (0,0)⟩,by rw[a'];exact .head _,rfl,rfl⟩,?_,ay⟩;simp only[wu];exact fN (by omega)
 ·rw[a'];have ab:(⟨b9,.cells cs.toArray e (0,0)⟩::(a9++(os.ar e++post)):List aE).Perm (⟨b9,.cells cs.toArray e (0,0)⟩::(os.ar e++(a9++post))):=.cons _ (Cn _ _ _);exact ab.trans mN.symm
 ·intro g c aS bz dJ eO eJ iN;refine⟨I,a9++((⟨some g,os.n+1,c,aS⟩:aY).ar e++post),.sub (M1:=⟨g,.cells aS.toArray e (0,0)⟩::(a9++post)) (.cons_cons _ (.cons _ (.refl _))) (.perm ?_ .refl),k ⟨some g,os.n+1,c,aS⟩ rfl (λdM av=>by cases av;exact bz) ⟨?_,(λh=>by cases h),λdM av=>?_⟩⟩
  ·exact mN.symm
  ·rw[b3,bw.len,ay,l8,o2]
  ·cases av;exact⟨dJ,eO,eJ,iN⟩
def bB.E3(aQ:cU X.P X.E){x:Operand}(aK:o.op=.call { callee:=.builtin .append,args:=#[s,x],argTypes:=#[t,t] })(ak:∀ d,o.dst=some d->d<X.n)
  {e:Nat} {c7:dH} (ax:X.E t=some c7) (dT:c7.bM=.slice e) (he:X.E e=some aI)
  (os:aY) (bw:os.ok aI.size xs) (au:bF F s=.val os.val)
  {sa:Option Addr} {m:Nat} {ch:List Value} (ad:bF F x=.val (.slice sa m c')) (ay:ch.length=m*aI.size) (aC:0<m->∃ aU,sa=some aU/\cO I M aU (m*aI.size) ch) (aa:gA ch=true)
  (a9 post:List aE) (a':M=a9++(os.ar e++post)) (b1:os.n+m<=9223372036854775807) (bT:(os.n+m)*aI.bytes<=140737488355328)
  (k:∀ bu:aY,bu.n=os.n+m->(0<m->∀ g,bu.a=some g->I g=none)->bu.ok aI.size (xs++ch)->K (put o.dst (.val bu.val) F) C I (a9++(bu.ar e++post))):bB X o F C I M K:=by
 by_cases az:m=0
 ·subst az;have nV:ch=[]:=iq (by simpa using ay);subst nV;refine .P1 aQ aK ak ax dT ax (λk=>by rw[dT];simp) he (sa:=os.a.map λg=>⟨g,0,none⟩) (n:=os.n) (c:=os.c) au ?_ ad (.inl ⟨_,_,rfl⟩) ?_
  ·cases a6:os.a with
   |none=>obtain⟨dJ,eO⟩:=bw.nil a6;omega
   |some g=>exact(bw.cap g a6).2.1
  ·have:=k os rfl (λh=>by omega) (by rw[ed];exact bw);rw[a'];exact this
 obtain⟨aU,rfl,bm⟩:=aC (by omega);refine .h5 (.Hk aQ aK ak ax dT he os bw au (m:=m) (ch:=ch) ad (by omega) bm aa (Mr:=a9++post) ?_ (by unfold maxLen;exact b1) bT ?_)
 ·rw[a'];exact(Cn _ _ _)
 ·intro g c aS bz dJ eO eJ iN;refine⟨I,a9++((⟨some g,os.n+m,c,aS⟩:aY).ar e++post),.perm ?_ .refl,k ⟨some g,os.n+m,c,aS⟩ rfl (λ_ dM av=>by cases av;exact bz) ⟨?_,(λh=>by cases h),λdM av=>?_⟩⟩
  ·exact mN.symm
  ·rw[b3,bw.len,ay,l8]
  ·cases av;exact⟨dJ,eO,eJ,iN⟩
end
noncomputable section
inductive be(α:Type) where
 |nil| node (x:Option α) (l r:be α)
def b0{α:Type}(b:Bool)(x y:α):α:=@Bool.rec (λ_=>α) y x b
def bn{α R:Type}(o:Option α)(x:R)(f:α->R):R:=@Option.rec α (λ_=>R) x f o
section
variable{α R:Type}
def be.get(t:be α):Nat->Option α:=@be.rec α (λ_=>Nat->Option α) (λ_=>none) (λx _ _ alN E4 k=>b0 (Nat.beq k 0) x (b0 (Nat.beq (Nat.mod k 2) 1) (alN (Nat.div k 2)) (E4 (Nat.sub (Nat.div k 2) 1)))) t
def be.n7(v:Option α)(t:be α):Nat->(be α->R)->R:=@be.rec α (λ_=>Nat->(be α->R)->R) (λk K=>b0 (Nat.beq k 0) (K (.node v .nil .nil)) (K .nil)) (λx l r sl alO k K=>b0 (Nat.beq k 0) (K (.node v l r)) (b0 (Nat.beq (Nat.mod k 2) 1) (sl (Nat.div k 2) λl=>K (.node x l r)) (alO (Nat.sub (Nat.div k 2) 1) λr=>K (.node x l r)))) t
def be.E5(t:be α)(off n:Nat):(List α->Option R)->Option R:=@Nat.rec (λ_=>Nat->(List α->Option R)->Option R) (λ_ K=>K []) (λ_ aF off K=>bn (t.get off) none λv=>aF (Nat.add off 1) λl=>K (v::l)) n off
def be.yA(l:List α)(t:be α)(off:Nat)(K:be α->R):R:=@List.rec α (λ_=>be α->Nat->R) (λt _=>K t) (λv _ aF t off=>t.n7 (some v) off λt=>aF t (Nat.add off 1)) l t off
def be.bare:Nat->be α
 |0=>.nil| n+1=>.node none (be.bare n) (be.bare n)
end
inductive aq where
 |b(x:Bool) | i (k:IntKind) (n:Int) | s (l:List UInt8)| pn | p (id off:Nat) | g (n off:Nat)| sn | sl (id off n c:Nat) | sx (id off e n:Nat) | gs (g off n c:Nat) | so| mn | m (id:Nat)| f (g:Nat) (l r:List aq) | y (id:Nat) | fn| ni | Iq (t:Nat) (v:aq)| t (l:List aq) | a (l:List aq)
def aq.cells:aq->List aq
 | .a l=>l| v=>[v]
def aq.one:aq->Bool
 | .a _ | .t _=>false| _=>true
def Ir:Value->Option aq
 | .bool x=>some (.b x)| .int k n=>some (.i k n)| .string q=>some (.s q.data.toList)| .pointer none=>some .pn| .slice none 0 0=>some .sn| .map none=>some .mn| .nilFunc=>some .fn| .nilIface=>some .ni| _=>none
def yB:List Value->Option (List aq)
 |[]=>some []
 |v::vs=>match Ir v,yB vs with
  |some x,some l=>some (x::l)| _,_=>none
def E6:Value->Option aq
 | .agg cs=>match yB cs.toList with
  |some l=>some (.a l)| none=>none
 |v=>Ir v
def aq.nat:aq->Option Nat
 | .i _ (.ofNat n)=>some n| _=>none
inductive fP where
 |cells(cs:be aq)(T fQ:Nat)| map (es:List (aq×aq))| loop (busy:Bool) (n:Nat) (ao:be aq) (ps:List Nat) (fp body:Code)| done (c:Code) (n:Nat) (ao:be aq) (ps:List Nat) (fp body:Code)
structure br where
 t:be fP
 n:Nat
def s5:Int->Int->Bool
 | .ofNat a,.ofNat b=>Nat.beq a b| .negSucc a,.negSucc b=>Nat.beq a b| _,_=>false
def CJ:Int->Int->Bool
 | .ofNat a,.ofNat b=>Nat.ble a b| .negSucc a,.negSucc b=>Nat.ble b a| .negSucc _,.ofNat _=>true| .ofNat _,.negSucc _=>false
def D1(a b:Int):Bool:=!CJ b a
def RC(op:BinOp)(x y:Int):Option Bool:=match op with
 | .eql=>some (s5 x y)| .neq=>some (!s5 x y)| .lss=>some (D1 x y)| .leq=>some (CJ x y)| .gtr=>some (D1 y x)| .geq=>some (CJ y x)| _=>none
def Md:IntKind->Nat
 | .i8=>127 | .i16=>32767 | .i32=>2147483647 | .i64=>9223372036854775807| .u8=>255 | .u16=>65535 | .u32=>4294967295 | .u64=>18446744073709551615
def wW(k:IntKind):Int->Int
 | .ofNat n=>bif Nat.ble n (Md k)then .ofNat n else k.wrap (.ofNat n)| n=>k.wrap n
def Zy:Int->Int->Int
 | .ofNat a,.ofNat b=>.ofNat (Nat.add a b)| a,b=>a+b
def RD:Int->Int->Int
 | .ofNat a,.ofNat b=>bif Nat.ble b a then .ofNat (Nat.sub a b)else(.ofNat a:Int) - .ofNat b| a,b=>a-b
def Zz:Int->Int->Int
 | .ofNat a,.ofNat b=>.ofNat (Nat.mul a b)| a,b=>a*b
def ZA:Int->Int->Int
 | .ofNat a,.ofNat b=>.ofNat (Nat.div a b)| a,b=>a.tdiv b
def ZB:Int->Int->Int
 | .ofNat a,.ofNat b=>.ofNat (Nat.mod a b)| a,b=>a.tmod b
def ZC:Int->Nat->Int
 | .ofNat a,j=>.ofNat (Nat.mul a (Nat.pow 2 j))| a,j=>a*2^j
def ZD:Int->Nat->Int
 | .ofNat a,j=>.ofNat (Nat.div a (Nat.pow 2 j))| a,j=>a.fdiv (2^j)
def E7(op:BinOp)(k:IntKind)(x y:Int):Option Int:=
 match k,x,y with
 | .u64,.ofNat a,.ofNat b=>
  bif Nat.ble a 18446744073709551615&&Nat.ble b 18446744073709551615 then
   (match op with
   | .and=>some (.ofNat (Nat.land a b))| .or=>some (.ofNat (Nat.lor a b))| .xor=>some (.ofNat (Nat.xor a b))| .andNot=>some (.ofNat (Nat.land a (Nat.sub 18446744073709551615 b)))| _=>none)
  else none
 |_,_,_=>uO op k x y
def RE(a b:UInt8):Bool:=Nat.beq a.toNat b.toNat
def vw:List UInt8->List UInt8->Bool
 |[],[]=>true| a::l,b::m=>bif RE a b then vw l m else false| _,_=>false
def E8:aq->aq->Option Bool
 | .b x,.b w=>some (x == w)| .i k x,.i l w=>b0 (IntKind.m3 k l) (some (s5 x w)) none| .s x,.s w=>some (vw x w)| _,_=>none
def ZE:List aq->List aq->Option Bool
 |[],[]=>some true
 |x::l,w::m=>match E8 x w with
  |some true=>ZE l m
  |some false=>(match ZE l m with
   |some _=>some false| none=>none)
  |none=>none
 |_,_=>none
def awR:aq->aq->Option Bool
 | .pn,.pn=>some true| .pn,.p _ _=>some false| .p _ _,.pn=>some false| .pn,.g _ _=>some false| .g _ _,.pn=>some false| _,_=>none
def RF(op:BinOp)(k e9:IntKind)(a b:Int):Option aq:=match op with
 | .shl=>(match b with
  | .ofNat j=>some (.i k (wW k (ZC a (b0 (Nat.ble j k.bits) j k.bits))))| _=>none)
 | .shr=>(match b with
  | .ofNat j=>some (.i k (ZD a (b0 (Nat.ble j k.bits) j k.bits)))| _=>none)
 | .add=>b0 (IntKind.m3 k e9) (some (.i k (wW k (Zy a b)))) none| .sub=>b0 (IntKind.m3 k e9) (some (.i k (wW k (RD a b)))) none| .mul=>b0 (IntKind.m3 k e9) (some (.i k (wW k (Zz a b)))) none| .quo=>b0 (IntKind.m3 k e9) (b0 (s5 b 0) none (some (.i k (wW k (ZA a b))))) none| .rem=>b0 (IntKind.m3 k e9) (b0 (s5 b 0) none (some (.i k (ZB a b)))) none| .and=>b0 (IntKind.m3 k e9) (bn (E7 .and k a b) none λr=>some (.i k r)) none| .or=>b0 (IntKind.m3 k e9) (bn (E7 .or k a b) none λr=>some (.i k r)) none| .xor=>b0 (IntKind.m3 k e9) (bn (E7 .xor k a b) none λr=>some (.i k r)) none| .andNot=>b0 (IntKind.m3 k e9) (bn (E7 .andNot k a b) none λr=>some (.i k r)) none| op=>b0 (IntKind.m3 k e9) (bn (RC op a b) none λr=>some (.b r)) none
def RG(op:BinOp)(a b:List UInt8):Option aq:=match op with
 | .eql=>some (.b (vw a b))| .neq=>some (.b (b0 (vw a b) false true))| .add=>b0 (Nat.ble (Nat.add a.length b.length) 9223372036854775807) (some (.s (a++b))) none| _=>none
def RH(op:BinOp)(c7:Option dH)(a b:Bool):Option aq:=match c7 with
 |some { bM:=.bool,.. }=>
  (match op with
  | .eql=>some (.b (a == b))| .neq=>some (.b (!(a == b)))| _=>none)
 |_=>none
def E9(agg:Bool)(l:List aq):Option aq:=bif agg then some (.a l)else match l with
 |[v]=>some v| _=>none
def CK:Nat->List aq->Option (List aq)
 |0,_=>some []| _+1,[]=>none
 |n+1,v::l=>match CK n l with
  |some r=>some (v::r)| none=>none
def CL{α:Type}:List α->Nat->List α
 |[],_=>[]| v::l,n=>bif Nat.beq n 0 then v::l else CL l (Nat.sub n 1)
def Ap(E:Env)(t o:Nat)(l:List aq):Option aq:=bn (E t) none λi=>b0 (Nat.beq i.size 0) none <| bn (CK i.size (CL l o)) none λr=>E9 i.bM.agg r
def CM(F:Nat->aq->aq->Option Bool)(E:Env)(l m:List aq):List (Nat×Nat)->Option Bool
 |[]=>some true|(t,o)::r=>bn (Ap E t o l) none λx=>bn (Ap E t o m) none λy=>bn (F t x y) none λb=>b0 b (CM F E l m r) (some false)
def ZF(P:Program)(t:Nat):Bool:=match P.underlying t with
 |some (.struct cR)=>!P.stoodInHeld t&&cR.toList.all λf=>decide (f.name ≠ "_")
 |_=>false
def yC(P:Program)(E:Env):Nat->Nat->aq->aq->Option Bool
 |0,_,_,_=>none
 |d+1,t,x,y=>bn (E t) none λi=>match i.bM,x,y with
  | .bool,.b a,.b b=>some (a == b)| .int _,.i k a,.i e9 b=>b0 (IntKind.m3 k e9) (some (s5 a b)) none| .string,.s a,.s b=>some (vw a b)| .struct cR,.a l,.a m=>b0 (ZF P t) (CM (yC P E d) E l m cR) none| .array n e,.a l,.a m=>bn (E e) none λaI=>CM (yC P E d) E l m ((List.range n).map λi=>(e,i*aI.size))
  |_,_,_=>none
def Is(P:Program)(E:Env)(op:BinOp)(t:Nat)(l m:List aq):Option aq:=b0 (P.eqGuardType P.depth t) none (bn (yC P E 8 t (.a l) (.a m)) none λb=>match op with
 | .eql=>some (.b b)| .neq=>some (.b (!b))| _=>none)
def RI:aq->Option Bool
 | .sn=>some true| .sl .. | .sx .. | .gs .. | .so=>some false| _=>none
def RJ:aq->Option Bool
 | .pn=>some true| .p .. | .g ..=>some false| _=>none
def Me(op:BinOp)(b:Bool):Option aq:=match op with
 | .eql=>some (.b b)| .neq=>some (.b (!b))| _=>none
def RK(P:Program)(E:Env)(op:BinOp)(t:Nat)(x y:aq):Option aq:=
 match x,y with
 | .i k a,.i e9 b=>RF op k e9 a b| .s a,.s b=>RG op a b| .b a,.b b=>RH op (E t) a b| .a l,.a m=>Is P E op t l m
 |x,.sn=>bn (E t) none λi=>(match i.bM with
  | .slice _=>bn (RI x) none λb=>Me op b
  |_=>none)
 |x,.pn=>bn (E t) none λi=>(match i.bM with
  | .pointer _=>bn (RJ x) none λb=>Me op b
  |_=>none)
 |_,_=>none
def wX{α:Type}:List α->Nat->Option α
 |[],_=>none| v::l,n=>bif Nat.beq n 0 then some v else wX l (Nat.sub n 1)
def yD:List aq->Nat->List aq->Option (List aq)
 |cs,0,[]=>some cs
 |_::cs,0,v::vs=>match yD cs 0 vs with
  |some r=>some (v::r)| none=>none
 |c::cs,n+1,vs=>match yD cs n vs with
  |some r=>some (c::r)| none=>none
 |[],_,_=>none
def Aq(place:Nat->Option (Nat×Nat)):List aq->List (Nat×aq)->Option (List aq)
 |cells,[]=>some cells
 |cells,(i,v)::bk=>match place i with
  |none=>none
  |some (off,size)=>bif Nat.beq v.cells.length size then(match yD cells off v.cells with
   |some cs=>Aq place cs bk| none=>none)else none
def dn(ao:be aq):Operand->Option aq
 | .tmp t=>ao.get t| .const v=>E6 v| .global g=>some (.g g 0)| .func f=>some (.f f [] [])
def oB(ao:be aq):List Operand->Option (List aq)
 |[]=>some []
 |x::xs=>match dn ao x,oB ao xs with
  |some v,some l=>some (v::l)| _,_=>none
def E'(ao:be aq):List (Nat×Operand)->Option (List (Nat×aq))
 |[]=>some []
 |(i,x)::xs=>match dn ao x,E' ao xs with
  |some v,some l=>some ((i,v)::l)| _,_=>none
abbrev GT:=Nat->Option (be aq)
def um{R:Type}(G:GT)(m:be fP)(x:aq)(n:Nat)(K:List aq->Option R):Option R:=match x with
 | .p id off=>(match m.get id with
  |some (.cells cs _ fQ)=>bif Nat.ble (Nat.add off n) fQ then cs.E5 off n K else none| _=>none)
 | .g g off=>(match G g with
  |some cs=>cs.E5 off n K| none=>none)
 |_=>none
def It(x:aq)(n:Nat):Option aq:=match x with
 | .p id off=>some (.p id (Nat.add off n))| .g g off=>some (.g g (Nat.add off n))| _=>none
def Mf(x:aq)(j sz:Nat):Option aq:=match x with
 | .sl id off n _=>bif Nat.blt j n then some (.p id (Nat.add off (Nat.mul j sz)))else none| .sx id off _ n=>bif Nat.blt j n then some (.p id (Nat.add off (Nat.mul j sz)))else none| .gs g off n _=>bif Nat.blt j n then some (.g g (Nat.add off (Nat.mul j sz)))else none| _=>none
def wY:aq->Option Nat
 | .sn | .so=>some 0| .sl _ _ n _ | .sx _ _ _ n | .gs _ _ n _=>some n| _=>none
def s6(v:aq):Option Nat:=match v with
 | .s l=>some l.length| v=>wY v
def RL(x:aq)(sz l:Nat)(h:Option Nat):Option aq:=match x with
 | .sn=>bif Nat.beq l 0&&Nat.beq (h.getD 0) 0 then some .sn else none
 | .sl id off n c=>let h:=h.getD n
  bif Nat.ble l h&&Nat.ble h c then bif Nat.beq c l then some (.sl id off (Nat.sub h l) 0)else some (.sl id (Nat.add off (Nat.mul l sz)) (Nat.sub h l) (Nat.sub c l))else none
 | .sx id off e n=>let h:=h.getD n
  bif Nat.ble l h&&Nat.ble h n then(bif Nat.beq l 0||Nat.blt l n then some (.sx id (Nat.add off (Nat.mul l sz)) (Nat.add e l) (Nat.sub h l))else some .so)else none
 |_=>none
def CN(o:Option (Option aq)):Option (Option Nat):=match o with
 |none=>some none
 |some (some v)=>(match v.nat with
  |some n=>some (some n)| none=>none)
 |some none=>none
def RM(l:List UInt8)(lo hi:Nat):List UInt8:=(CL l lo).take (Nat.sub hi lo)
def ZG(c a b:Option aq):Option aq:=match c,a,b with
 |some (.b c),some u,some v=>some (b0 c u v)| _,_,_=>none
def ZH(op:UnOp)(x:Option aq):Option aq:=match op,x with
 | .not,some (.b b)=>some (.b (b0 b false true))| .neg,some (.i k n)=>some (.i k (wW k (0-n)))| _,_=>none
def ZI(P:Program)(E:Env)(op:BinOp)(t:Nat)(x y:Option aq):Option aq:=bn x none λx=>bn y none λy=>RK P E op t x y
def ZJ(G:GT)(m:be fP)(i:Option dH)(x:Option aq):Option aq:=bn i none λi=>bn x none λx=>um G m x i.size λl=>E9 i.bM.agg l
def ZK(x:Option aq):Option aq:=match x with
 |some (.p id off)=>some (.p id off)| some (.g g off)=>some (.g g off)| _=>none
def Mg(E:Env)(t i:Nat):Option (Nat×dH):=match E t with
 |some { bM:=.struct cR,.. }=>(match wX cR i with
  |some (fy,off)=>(match E fy with
   |some hr=>some (off,hr)| none=>none)
  |none=>none)
 |_=>none
def ZL(r:Option (Nat×dH))(x:Option aq):Option aq:=bn r none λr=>bn x none λx=>b0 (Nat.beq r.2.size 0) none (It x r.1)
def Mh(aI:dH)(cs:List aq)(off:Nat):Option aq:=b0 (Nat.beq aI.size 0) none <| bn (CK aI.size (CL cs off)) none λl=>E9 aI.bM.agg l
def ZM(r:Option (Nat×dH))(x:Option aq):Option aq:=match r,x with
 |some (off,hr),some (.a cs)=>Mh hr cs off| _,_=>none
def RN(E:Env)(t:Nat):Option (Option Nat×dH):=match E t with
 |some { bM:=.slice e,.. }=>(match E e with
  |some aI=>some (none,aI)| none=>none)
 |some { bM:=.array n e,.. }=>(match E e with
  |some aI=>some (some n,aI)| none=>none)
 |_=>none
def ZN(r:Option (Option Nat×dH))(x i:Option aq):Option aq:=bn r none λr=>bn x none λx=>bn i none λi=>bn i.nat none λj=>
 bn r.1 (Mf x j r.2.size) λn=>b0 (Nat.blt j n) (It x (Nat.mul j r.2.size)) none
def RO(l:List UInt8)(j:Nat):Option aq:=bn (wX l j) none λb=>some (.i .u8 (.ofNat b.toNat))
def ZO(cs:List aq)(j n:Nat)(aI:dH):Option aq:=b0 (Nat.beq (Nat.mul n aI.size) cs.length&&Nat.blt j n) (Mh aI cs (Nat.mul j aI.size)) none
def Iu(E:Env)(t:Nat)(x i:Option aq):Option aq:=match E t,x,i with
 |some { bM:=.string,.. },some (.s l),some i=>bn i.nat none λj=>RO l j
 |some { bM:=.array n e,.. },some (.a cs),some i=>bn (E e) none λaI=>bn i.nat none λj=>ZO cs j n aI
 |_,_,_=>none
def Iv(o:Option (List aq)):Option aq:=bn o none λl=>some (.a l)
def ZP(E:Env)(t:Nat)(ps:Option (List (Nat×aq))):Option aq:=match E t,ps with
 |some i,some vs=>bn (yB i.zero) none λz=>(match i.bM with
  | .struct cR=>b0 (DY E cR) (Iv (Aq (places E cR) z vs)) none| .array _ e=>bn (E e) none λaI=>Iv (Aq (λj=>some (j*aI.size,aI.size)) z vs)
  |_=>none)
 |_,_=>none
def ZQ(f:Fn)(cR cs:Option (List aq)):Option aq:=match f,cR,cs with
 | .func g,some cR,some cs=>some (.f g cR cs)| _,_,_=>none
def RP(aI:dH)(x:aq)(lo hi:Option Nat):Option aq:=match lo,hi with
 |none,none=>(match x with
  | .sn | .sl .. | .sx .. | .so=>some x| _=>none)
 |lo,hi=>RL x aI.size (lo.getD 0) hi
def RQ(l:List UInt8)(lo hi:Option Nat):Option aq:=match lo,hi with
 |none,none=>some (.s l)| lo,hi=>b0 (Nat.ble (lo.getD 0) (hi.getD l.length)&&Nat.ble (hi.getD l.length) l.length) (some (.s (RM l (lo.getD 0) (hi.getD l.length)))) none
def Iw(E:Env)(t:Nat)(x:Option aq)(lo hi:Option (Option Nat)):Option aq:=match E t,x,lo,hi with
 |some { bM:=.slice e,.. },some x,some lo,some hi=>bn (E e) none λaI=>RP aI x lo hi
 |some { bM:=.string,.. },some (.s l),some lo,some hi=>RQ l lo hi| _,_,_,_=>none
def ZR(x:Option aq)(i:Nat):Option aq:=match x with
 |some (.t vs)=>wX vs i| _=>none
def ZS(E:Env)(s d:Nat)(x:Option aq):Option aq:=match E s,E d,x with
 |some _,some { bM:=.int k,.. },some (.i _ n)=>some (.i k (wW k n))| _,_,_=>none
def Mi(o:Option Nat):Option aq:=bn o none λn=>some (.i .i64 (.ofNat n))
def ZT(E:Env)(fT:List Nat)(l:Option (List aq)):Option aq:=match fT,l with
 |[t],some [v]=>(match E t,v with
  |some { bM:=.slice _,.. },v=>Mi (wY v)| some { bM:=.string,.. },.s l=>Mi (some l.length)| some { bM:=.array n _,.. },_=>Mi (some n)| _,_=>none)
 |_,_=>none
def ZU(l:Option (List aq)):Option aq:=match l with
 |some [.i k a,.i _ b]=>some (.i k (b0 (CJ a b) b a))| _=>none
def ZV(l:Option (List aq)):Option aq:=match l with
 |some [.i k a,.i _ b]=>some (.i k (b0 (CJ a b) a b))| _=>none
def ZW(E:Env)(fT:List Nat)(l:Option (List aq)):Option aq:=match fT,l with
 |[t],some [.sl _ _ _ c]=>(match E t with
  |some { bM:=.slice _,.. }=>some (.i .i64 (.ofNat c))| _=>none)
 |_,_=>none
def ZX(l:Option (List aq)):Option aq:=match l with
 |some [.sn]=>some .pn| some [.sl id off n c]=>b0 (Nat.beq c 0) none (some (.p id off))| some [.sx id off e n]=>b0 (Nat.beq n 0) none (some (.p id off))| _=>none
def RR(E:Env)(b:Builtin)(fT:List Nat)(l:Option (List aq)):Option aq:=match b with
 | .len=>ZT E fT l| .max=>ZU l| .min=>ZV l| .cap=>ZW E fT l| .unsafeSliceData=>ZX l| _=>none
def RS(P:Program)(E:Env)(G:GT)(m:be fP)(op:Op)(ao:be aq):Option aq:=
 match op with
 | .move x=>dn ao x| .assign x=>dn ao x| .pick c a b=>ZG (dn ao c) (dn ao a) (dn ao b)| .unOp op _ x=>ZH op (dn ao x)| .binOp op t x y _=>ZI P E op t (dn ao x) (dn ao y)| .load t x=>ZJ G m (E t) (dn ao x)| .nilCheck x=>ZK (dn ao x)| .fieldAddr t x i=>ZL (Mg E t i) (dn ao x)| .field t x i=>ZM (Mg E t i) (dn ao x)| .indexAddr t x i=>ZN (RN E t) (dn ao x) (dn ao i)| .index t x i=>Iu E t (dn ao x) (dn ao i)| .build t parts=>ZP E t (E' ao parts.toList)| .makeFunc f first captured=>ZQ f (oB ao first.toList) (oB ao captured.toList)
 | .slice t x lo hi none=>Iw E t (dn ao x) (CN (lo.map (dn ao))) (CN (hi.map (dn ao)))| .extract x i=>ZR (dn ao x) i| .convert s d x=>ZS E s d (dn ao x)| .call { callee:=.builtin b,args,argTypes }=>RR E b argTypes.toList (oB ao args.toList)| _=>none
def RT(E:Env)(t:Nat)(x hi mx:Option aq):Option aq:=match E t,x,hi,mx with
 |some { bM:=.slice e,.. },some (.sl id off n c),some (.i _ (.ofNat h)),some (.i _ (.ofNat k))=>bn (E e) none λaI=>
  b0 (Nat.ble h k&&(Nat.ble k c&&Nat.blt 0 k)) (some (.sl id off h k)) none
 |some { bM:=.slice e,.. },some (.sx id off a4 n),some (.i _ (.ofNat h)),some (.i _ (.ofNat k))=>bn (E e) none λaI=>
  b0 (Nat.ble h k&&(Nat.ble k n&&Nat.blt 0 k)) (some (.sl id off h k)) none
 |_,_,_,_=>none
def RU(E:Env)(t:Nat)(x lo hi mx:Option aq):Option aq:=match E t,x,lo,hi,mx with
 |some { bM:=.slice e,.. },some (.sl id off n c),some (.i _ (.ofNat l)),some (.i _ (.ofNat h)),some (.i _ (.ofNat k))=>bn (E e) none λaI=>
  b0 (Nat.ble l h&&(Nat.ble h k&&(Nat.ble k c&&Nat.blt l k))) (some (.sl id (Nat.add off (Nat.mul l aI.size)) (Nat.sub h l) (Nat.sub k l))) none
 |_,_,_,_,_=>none
def RV(x:Option aq):Option aq:=match x with
 |some (.i .u64 n)=>some (.i .u64 (iv n))| _=>none
def vx(P:Program)(E:Env)(G:GT)(m:be fP)(op:Op)(ao:be aq):Option aq:=
 match op with
 | .unOp .xor t x=>RV (dn ao x)| .slice t x (some lo) (some hi) (some mx)=>RU E t (dn ao x) (dn ao lo) (dn ao hi) (dn ao mx)| .slice t x none (some hi) (some mx)=>RT E t (dn ao x) (dn ao hi) (dn ao mx)| op=>RS P E G m op ao
def sh{R:Type}(n:Nat)(K:Nat->R):R:=Nat.casesOn (Nat.add n 1) (K 0) K
def ZY{R:Type}(n:Int)(K:Int->R):R:=match n with
 | .ofNat n=>sh n λn=>K (.ofNat n)
 | .negSucc n=>sh n λn=>K (.negSucc n)
def ZZ{R:Type}(b:Bool)(K:Bool->R):R:=b0 b (K true) (K false)
def RW{R:Type}(v:aq)(K:aq->R):R:=match v with
 | .b x=>ZZ x λx=>K (.b x)
 | .i k n=>ZY n λn=>K (.i k n)
 | .p id off=>sh off λoff=>K (.p id off)
 | .g id off=>sh off λoff=>K (.g id off)
 | .sl id off n c=>sh off λoff=>sh n λn=>sh c λc=>K (.sl id off n c)
 | .sx id off e n=>sh off λoff=>sh e λe=>sh n λn=>K (.sx id off e n)
 |v=>K v
def CO{R:Type}(m:br)(e:fP)(K:Nat->br->R):R:=sh m.n λn=>m.t.n7 (some e) n λt=>K n ⟨t,Nat.add n 1⟩
def vy{R:Type}(m:br)(l:List aq)(T:Nat)(K:Nat->br->R):R:=be.yA l .nil 0 λcs=>CO m (.cells cs T l.length) K
def yE{R:Type}(m:br)(x:aq)(l:List aq)(K:br->Option R):Option R:=match x with
 | .p id off=>(match m.t.get id with
  |some (.cells cs T fQ)=>bif Nat.ble (Nat.add off l.length) fQ&&l.all aq.one then be.yA l cs off λcs=>m.t.n7 (some (.cells cs T fQ)) id λt=>K ⟨t,m.n⟩else none
  |_=>none)
 |_=>none
def CP:Nat->List aq->List aq
 |0,_=>[]| n+1,z=>z++CP n z
def Fa(i:Option dH):Bool:=match i with
 |some { bM:=.int .u8,.. }=>true| _=>false
def wZ(u:Option dH)(aI:dH)(x:aq):Bool:=match u,x with
 |some { bM:=.slice _,.. },.sn=>true| some { bM:=.slice _,.. },.so=>true| some { bM:=.slice _,.. },.sl ..=>true| some { bM:=.slice _,.. },.sx ..=>true| some { bM:=.string,.. },.s _=>Nat.beq aI.size 1| _,_=>false
def Fb(G:GT)(m:be fP)(x:aq)(sz:Nat){R:Type}(K:List aq->Option R):Option R:=match x with
 | .sn | .so=>K []| .sl id off n _ | .sx id off _ n=>um G m (.p id off) (Nat.mul n sz) K| .s l=>K (l.map λb=>.i .u8 (.ofNat b.toNat))| _=>none
def RX(G:GT)(m:br)(id off n c:Nat)(l:List aq)(k sz T:Nat):Option (aq×br):=
 b0 (Nat.ble (Nat.add n k) c) (yE m (.p id (Nat.add off (Nat.mul n sz))) l λm=>some (.sl id off (Nat.add n k) c,m)) (um G m.t (.p id off) (Nat.mul n sz) λdI=>vy m (dI++l) T λid m=>some (.sx id 0 0 (Nat.add n k),m))
def RY(m:br)(id:Nat)(n:Nat)(cs:be aq)(fQ:Nat)(l:List aq)(k sz T:Nat):Option (aq×br):=
 b0 (Nat.ble (Nat.mul n sz) fQ) (m.t.n7 none id λt=>be.yA l cs (Nat.mul n sz) λcs=>CO ⟨t,m.n⟩ (.cells cs T (Nat.mul (Nat.add n k) sz)) λid m=>some (.sx id 0 0 (Nat.add n k),m)) none
def Ix(G:GT)(m:br)(s:aq)(l:List aq)(k sz bytes T:Nat):Option (aq×br):=match s with
 | .sn=>b0 (Nat.ble (Nat.mul k bytes) 140737488355328&&Nat.ble k 9223372036854775807) (vy m l T λid m=>some (.sx id 0 0 k,m)) none| .sl id off n c=>b0 (Nat.ble (Nat.mul (Nat.add n k) bytes) 140737488355328&&Nat.ble (Nat.add n k) 9223372036854775807) (RX G m id off n c l k sz T) none
 | .sx id off e n=>(match m.t.get id with
  |some (.cells cs kB fQ)=>b0 ((Nat.beq off 0&&Nat.beq e 0)&&(Nat.beq kB T&&(Nat.ble (Nat.mul (Nat.add n k) bytes) 140737488355328&&Nat.ble (Nat.add n k) 9223372036854775807))) (RY m id n cs fQ l k sz T) none| _=>none)
 |_=>none
def Iy:List aq->List UInt8->Option (List UInt8)
 |[],aZ=>some aZ.reverse| .i .u8 (.ofNat n)::l,aZ=>bif Nat.ble n 255 then Iy l (UInt8.ofNat n::aZ)else none| _,_=>none
def RZ(l:List aq):Option (List UInt8):=Iy l []
def Iz:aq->List (aq×aq)->Option (Option aq)
 |_,[]=>some none
 |k,(x,v)::l=>match E8 k x with
  |some true=>some (some v)| some false=>Iz k l| none=>none
def IA(k v:aq):List (aq×aq)->Option (List (aq×aq))
 |[]=>some [(k,v)]
 |(x,u)::l=>match E8 k x with
  |some true=>some ((k,v)::l)
  |some false=>(match IA k v l with
   |some r=>some ((x,u)::r)| none=>none)
  |none=>none
abbrev mg:=Nat->List aq->br->Option (aq×br)
structure gP where
 P:Program
 E:Env
 G:GT
 pr:mg
def Z0(i:Option dH)(t:Nat)(x:Option aq):Option (List aq×Nat×Nat×(Nat->aq)):=bn i none λi=>bn x none λv=>b0 (Nat.beq v.cells.length i.size) (some (v.cells,t,1,λid=>.p id 0)) none
def Z1(i:Option dH)(t:Nat):Option (List aq×Nat×Nat×(Nat->aq)):=bn i none λi=>bn (yB i.zero) none λz=>some (z,t,1,λid=>.p id 0)
def Z2(E:Env)(t len:Nat)(ps:Option (List (Nat×aq))):Option (List aq×Nat×Nat×(Nat->aq)):=match E t,ps with
 |some { bM:=.slice e,.. },some vs=>bn (E e) none λaI=>bn (yB aI.zero) none λz=>
  b0 (Nat.ble (Nat.mul len aI.size) 16777216&&Nat.blt 0 (Nat.mul len aI.size)) (bn (Aq (λj=>some (j*aI.size,aI.size)) (CP len z) vs) none λcs=>some (cs,e,len,λid=>.sl id 0 len len)) (b0 (Nat.beq len 0&&vs.isEmpty) (some ([],e,0,λid=>.sl id 0 0 0)) none)
 |_,_=>none
def Z3(E:Env)(t:Nat)(l c:Option aq):Option (List aq×Nat×Nat×(Nat->aq)):=match E t,l,c with
 |some { bM:=.slice e,.. },some l,some c=>bn (E e) none λaI=>bn l.nat none λn=>bn c.nat none λk=>bn (yB aI.zero) none λz=>
  b0 (Nat.ble n k&&(Nat.ble (Nat.mul aI.bytes k) 140737488355328&&Nat.ble k 9223372036854775807)) (some (CP k z,e,k,λid=>.sl id 0 n k)) none
 |_,_,_=>none
def CQ(E:Env)(o:Oper)(ao:be aq):Option (List aq×Nat×Nat×(Nat->aq)):=
 match o.op with
 | .box t x=>Z0 (E t) t (dn ao x)| .alloc t=>Z1 (E t) t| .buildSlice t len parts=>Z2 E t len (E' ao parts.toList)| .makeSlice t l c=>Z3 E t (dn ao l) (dn ao c)| _=>none
def Mj(i:Option dH)(m:br)(x y:Option aq):Option (aq×br):=bn i none λi=>bn x none λx=>bn y none λv=>b0 (Nat.beq v.cells.length i.size) (yE m x v.cells λm=>some (.t [],m)) none
def Mk(i:Option dH)(m:br):Option (aq×br):=match i with
 |some { bM:=.map k e,.. }=>CO m (.map []) λid m=>some (.m id,m)
 |_=>none
def Ml(i:Option dH)(v:aq):Bool:=match i,v with
 |some { bM:=.int k,.. },.i e9 _=>IntKind.m3 k e9| some { bM:=.string,.. },.s _=>true| _,_=>false
def Z4(ok:Bool)(z:aq)(r:Option aq):aq:=b0 ok (bn r (.t [z,.b false]) λv=>.t [v,.b true]) (bn r z λv=>v)
def R0(P:Program)(E:Env)(t:Nat)(m:br)(x y:Option aq)(ok:Bool):Option (aq×br):=match E t,x,y with
 |some { bM:=.map k e,.. },some (.m id),some y=>b0 (Ml (E k) y) (match m.t.get id with
  |some (.map es)=>bn (Iz y es) none λr=>bn (P.info? e) none λinf=>bn inf.zero none λz=>bn (E6 z) none λz=>some (Z4 ok z r,m)
  |_=>none) none
 |_,_,_=>none
def IB(E:Env)(t:Nat)(m:br)(x y z:Option aq):Option (aq×br):=match E t,x,y,z with
 |some { bM:=.map k e,.. },some (.m id),some y,some v=>b0 (Ml (E k) y) (match m.t.get id with
  |some (.map es)=>bn (IA y v es) none λes=>m.t.n7 (some (.map es)) id λt=>some (.t [],⟨t,m.n⟩)
  |_=>none) none
 |_,_,_,_=>none
def Mm(G:GT)(m:br)(id off n:Nat):Option (aq×br):=um G m.t (.p id off) n λl=>bn (RZ l) none λl=>some (.s l,m)
def Mn(Y:gP)(m:br)(s d:Nat)(x:Option aq):Option (aq×br):=match Y.E s,Y.E d,x with
 |some { bM:=.slice e,.. },some { bM:=.string,.. },some (.sl id off n _)=>b0 (Fa (Y.E e)) (Mm Y.G m id off n) none| some { bM:=.slice e,.. },some { bM:=.string,.. },some (.sx id off _ n)=>b0 (Fa (Y.E e)) (Mm Y.G m id off n) none| some { bM:=.slice e,.. },some { bM:=.string,.. },some .sn=>b0 (Fa (Y.E e)) (some (.s [],m)) none| _,_,_=>none
def Fc:aq->Bool
 | .sn | .so | .sx ..=>true| .sl _ _ n c=>Nat.ble n c| _=>false
def R1(Y:gP)(m:br)(fT:List Nat)(l:Option (List aq)):Option (aq×br):=match fT,l with
 |[t,u],some [s,x]=>(match Y.E t with
  |some { bM:=.slice e,.. }=>bn (Y.E e) none λaI=>b0 (wZ (Y.E u) aI x) (Fb Y.G m.t x aI.size λl=>bn (s6 x) none λk=>
    b0 (Nat.beq k 0) (b0 (Fc s) (some (s,m)) none) (b0 (l.all aq.one) (Ix Y.G m s l k aI.size aI.bytes e) none)) none
  |_=>none)
 |_,_=>none
def R2(Y:gP)(m:br)(fT:List Nat)(l:Option (List aq)):Option (aq×br):=match fT,l with
 |[t,u],some [.sl id off n c,.s q]=>(match Y.E t with
  |some { bM:=.slice e,.. }=>bn (Y.E e) none λaI=>b0 (Nat.beq aI.size 1&&Nat.ble q.length n) (yE m (.p id off) (q.map λb=>.i .u8 (.ofNat b.toNat)) λm=>some (.i .i64 (.ofNat q.length),m)) none
  |_=>none)
 |_,_=>none
def R3(Y:gP)(m:br)(fT:List Nat)(l:Option (List aq)):Option (aq×br):=match fT,l with
 |[uY,it],some [.pn,.i .i64 (.ofNat 0)]=>some (.s [],m)
 |[uY,it],some [.p id 0,.i .i64 (.ofNat n)]=>(match Y.E uY,m.t.get id with
  |some { bM:=.pointer e,.. },some (.cells cs T fQ)=>bn (Y.E e) none λaI=>
   b0 (Nat.beq aI.size 1&&(Nat.beq T e&&Nat.blt 0 n)) (um Y.G m.t (.p id 0) n λl=>bn (RZ l) none λl=>b0 (Nat.ble n 9223372036854775807) (m.t.n7 none id λt=>some (.s l,⟨t,m.n⟩)) none) none
  |_,_=>none)
 |_,_=>none
def Z5(Y:gP)(m:br)(b:Builtin)(fT:List Nat)(l:Option (List aq)):Option (aq×br):=match b with
 | .append=>R1 Y m fT l| .copy=>R2 Y m fT l| .unsafeString=>R3 Y m fT l| _=>none
def R4(Y:gP)(m:br)(o:Oper)(ao:be aq):Option (aq×br):=
 match o.op with
 | .store t x y=>bn o.dst (Mj (Y.E t) m (dn ao x) (dn ao y)) λ_=>none
 | .makeMap t none=>Mk (Y.E t) m
 | .makeMap t (some x)=>(match dn ao x with
  |some (.i _ _)=>Mk (Y.E t) m| _=>none)
 | .lookup t x y ok=>R0 Y.P Y.E t m (dn ao x) (dn ao y) ok| .mapUpdate t x y z=>bn o.dst (IB Y.E t m (dn ao x) (dn ao y) (dn ao z)) λ_=>none
 | .insert t x y z=>bn o.dst (IB Y.E t m (dn ao x) (dn ao y) (dn ao z)) λ_=>none
 | .convert s d x=>Mn Y m s d (dn ao x)| .call { callee:=.builtin b,args,argTypes }=>Z5 Y m b argTypes.toList (oB ao args.toList)| _=>none
def lS(E:Env)(op:Op):Nat:=match op with
 | .move _ | .assign _ | .pick .. | .binOp .. | .load .. | .nilCheck _ | .fieldAddr .. | .field .. | .indexAddr .. | .index .. | .build .. | .makeFunc .. | .extract .. | .unOp .. | .slice ..=>0| .alloc _ | .box .. | .buildSlice .. | .makeSlice ..=>1
 | .convert s d _=>(match E d with
  |some { bM:=.int _,.. }=>0| _=>2)
 | .call { callee:=.builtin .len,argTypes,.. }=>(match argTypes.toList with
  |[t]=>(match E t with
   |some { bM:=.map ..,.. }=>2| _=>0)
  |_=>2)
 | .call { callee:=.builtin .cap,.. }=>0| .call { callee:=.builtin .max,.. }=>0| .call { callee:=.builtin .min,.. }=>0| .call { callee:=.builtin .unsafeSliceData,.. }=>0| _=>2
def qd{R:Type}(dst:Option Nat)(ao:be aq)(v:aq)(K:be aq->Option R):Option R:=bn dst (K ao) λd=>RW v λv=>ao.n7 (some v) d K
def Z6{R:Type}(call:aq->List aq->br->Option (aq×br))(dst:Option Nat)(f:Option aq)(l:Option (List aq))(ao:be aq)(m:br)(K:be aq->br->Option R):Option R:=
 bn f none λf=>bn l none λl=>bn (call f l m) none λr=>b0 (Nat.ble m.n r.2.n) (qd dst ao r.1 λao=>K ao r.2) none
def Z7{R:Type}(dst:Option Nat)(r:Option (List aq×Nat×Nat×(Nat->aq)))(ao:be aq)(m:br)(K:be aq->br->Option R):Option R:=
 bn dst none λd=>bn r none λr=>vy m r.1 r.2.1 λid m=>qd (some d) ao (r.2.2.2 id) λao=>K ao m
def Z8{R:Type}(dst:Option Nat)(v:Option aq)(ao:be aq)(m:br)(K:be aq->br->Option R):Option R:=
 bn v none λv=>qd dst ao v λao=>K ao m
def Z9{R:Type}(dst:Option Nat)(n:Nat)(r:Option (aq×br))(ao:be aq)(K:be aq->br->Option R):Option R:=
 bn r none λr=>b0 (Nat.ble n r.2.n) (qd dst ao r.1 λao=>K ao r.2) none
def Z'{R:Type}(Y:gP)(k:Nat)(o:Oper)(ao:be aq)(m:br)(K:be aq->br->Option R):Option R:=match k with
 |0=>Z8 o.dst (vx Y.P Y.E Y.G m.t o.op ao) ao m K| 1=>Z7 o.dst (CQ Y.E o ao) ao m K| _=>Z9 o.dst m.n (R4 Y m o ao) ao K
def Ar{R:Type}(Y:gP)(call:aq->List aq->br->Option (aq×br))(o:Oper)(ao:be aq)(m:br)(K:be aq->br->Option R):Option R:=
 match o.op with
 | .call { callee:=.value f,args,.. }=>Z6 call o.dst (dn ao f) (oB ao args.toList) ao m K| op=>Z' Y (lS Y.E op) o ao m K
def CR{R:Type}(o:Oper)(ao:be aq)(K:be aq->Option R):Option R:=match o.dst with
 |none=>K ao| some d=>ao.n7 (some (.t [])) d K
def vz(ops:List Oper)(o:Oper)(ao:be aq):Option Bool:=match o.guard with
 |none=>some true
 |some (j,b)=>match(wX ops j).bind (·.dst)with
  |none=>none
  |some d=>match ao.get d with
   |some (.b c)=>some (c == b)| some (.t _)=>some false| _=>none
def Fe(Y:gP)(call:aq->List aq->br->Option (aq×br))(ops:List Oper)(l:List Oper):be aq->br->Option (be aq×br):=
 @List.rec Oper (λ_=>be aq->br->Option (be aq×br)) (λao m=>some (ao,m)) (λo _ aF ao m=>bn (vz ops o ao) none λw=>b0 w (Ar Y call o ao m aF) (CR o ao λao=>aF ao m)) l
def CS(E:Env)(ops:List Oper)(i:Nat):Nat:=bn (wX ops i) 2 λo=>lS E o.op
def yF(E:Env)(ops:List Oper):List Nat:=(List.range ops.length).filter λi=>Nat.beq (CS E ops i) 2
def Ff(es g1:List Nat)(i:Nat):Nat:=(es.filter λe=>(g1.getD i 0).testBit e).length
def q6(es g1:List Nat)(i:Nat):Nat:=(es.filter λe=>!(g1.getD e 0).testBit i).length
def aaa(E:Env)(ops:List Oper)(es g1:List Nat)(j:Nat):List (Nat×Nat):=((List.range ops.length).filter λi=>!Nat.beq (CS E ops i) 2&&Nat.beq (Ff es g1 i) j).map λi=>(i,CS E ops i)
def aab(E:Env)(ops:List Oper)(es g1:List Nat):List Nat->Nat->List (Nat×Nat)
 |[],j=>aaa E ops es g1 j| e::l,j=>aaa E ops es g1 j++(e,2)::aab E ops es g1 l (j+1)
def IC(E:Env)(ops:List Oper):List (Nat×Nat):=aab E ops (yF E ops) (lD ops) (yF E ops) 0
def w0(ops:List Oper):List (Nat×Nat)->Nat->Bool
 |[],k=>Nat.beq k (2^ops.length-1)
 |(i,_)::l,k=>!k.testBit i&&(match ops[i]? with
  |some o=>G2 o k&&w0 ops l (k ||| 2^i)| none=>false)
def Mo(g1:List Nat):List Nat->Bool
 |[]=>true| x::l=>l.all (λy=>(g1.getD y 0).testBit x)&&Mo g1 l
def aac(E:Env)(ops:List Oper):Bool:=BT ops&&(w0 ops (IC E ops) 0&&(Mo (lD ops) (yF E ops)&&(((IC E ops).filter λr=>Nat.beq r.2 2).map (·.1) == yF E ops)))
mutual
def Fg:aq->aq->Bool
 | .b x,.b w=>x == w| .i k x,.i l w=>IntKind.m3 k l&&s5 x w| .s x,.s w=>vw x w| .pn,.pn=>true| .p i x,.p j w=>Nat.beq i j&&Nat.beq x w| .g i x,.g j w=>Nat.beq i j&&Nat.beq x w| .sn,.sn=>true| .sl i x n c,.sl j w m d=>Nat.beq i j&&(Nat.beq x w&&(Nat.beq n m&&Nat.beq c d))| .sx i x n c,.sx j w m d=>Nat.beq i j&&(Nat.beq x w&&(Nat.beq n m&&Nat.beq c d))| .gs i x n c,.gs j w m d=>Nat.beq i j&&(Nat.beq x w&&(Nat.beq n m&&Nat.beq c d))| .mn,.mn=>true| .m i,.m j=>Nat.beq i j| .f g l r,.f h m s=>Nat.beq g h&&(w1 l m&&w1 r s)| .y i,.y j=>Nat.beq i j| .fn,.fn=>true| .ni,.ni=>true| .t l,.t m=>w1 l m| .a l,.a m=>w1 l m| _,_=>false
def w1:List aq->List aq->Bool
 |[],[]=>true| x::l,w::m=>Fg x w&&w1 l m| _,_=>false
end
inductive q7 where
 |made(i id:Nat)(l:List aq)(T:Nat)| load (i:Nat) (o:Oper) (ao:be aq) (v:aq)
def px(Y:gP)(call:aq->List aq->br->Option (aq×br))(ops:List Oper):List (Nat×Nat)->be aq->br->List br->List q7->Option (be aq×br×List br×List q7)
 |[],ao,m,S,A=>some (ao,m,m::S,A)|(i,k)::bk,ao,m,S,A=>bn (wX ops i) none λo=>bn (vz ops o ao) none λw=>b0 (Nat.beq (lS Y.E o.op) k) (b0 w (b0 (Nat.beq k 0) (bn (vx Y.P Y.E Y.G m.t o.op ao) none λv=>qd o.dst ao v λc6=>px Y call ops bk c6 m S (b0 (qC o.op) (.load i o ao v::A) A)) (b0 (Nat.beq k 1) (bn o.dst none λd=>bn (CQ Y.E o ao) none λr=>vy m r.1 r.2.1 λid m=>qd (some d) ao (r.2.2.2 id) λao=>px Y call ops bk ao m S (.made i id r.1 r.2.1::A)) (Ar Y call o ao m λao m'=>px Y call ops bk ao m' (m::S) A))) (CR o ao λao=>px Y call ops bk ao m (b0 (Nat.beq k 2) (m::S) S) A)) none
def Fh(S:List br)(lo hi:Nat)(p:br->Bool):Bool:=((S.drop lo).take (hi+1-lo)).all p
def R5(Y:gP)(o:Oper)(ao:be aq)(v:aq)(m:br):Bool:=match vx Y.P Y.E Y.G m.t o.op ao with
 |some u=>Fg u v| none=>false
def R6(id:Nat)(l:List aq)(T:Nat)(m:br):Bool:=Nat.blt id m.n&&(match m.t.get id with
 |some (.cells cs kB fQ)=>Nat.beq kB T&&(Nat.beq fQ l.length&&(match cs.E5 0 l.length (λeB=>some eB)with
  |some eB=>w1 l eB| none=>false))
 |_=>false)
def R7(Y:gP)(es g1:List Nat)(S:List br):q7->Bool
 | .made i id l T=>Fh S (Ff es g1 i) (q6 es g1 i) (R6 id l T)| .load i o ao v=>Fh S (Ff es g1 i) (q6 es g1 i) (R5 Y o ao v)
def R8(Y:gP)(call:aq->List aq->br->Option (aq×br))(ops:List Oper)(ao:be aq)(m:br):Option (be aq×br):=
 b0 (aac Y.E ops) (match px Y call ops (IC Y.E ops) ao m [] []with
  |none=>none| some (ao,m,S,A)=>b0 (A.all (R7 Y (yF Y.E ops) (lD ops) S.reverse)) (some (ao,m)) none) none
def Fi{R:Type}:List Nat->List aq->be aq->(be aq->Option R)->Option R
 |[],[],ao,K=>K ao| t::ps,v::vs,ao,K=>ao.n7 (some v) t λao=>Fi ps vs ao K
 |_,_,_,_=>none
def As(Y:gP)(ao:be aq)(m:be fP):List ResultVar->Option (List aq)
 |[]=>some []
 | .tmp t::l=>(match ao.get t,As Y ao m l with
  |some v,some vs=>some (v::vs)| _,_=>none)
 | .cell t ty::l=>(match ao.get t,Y.E ty,As Y ao m l with
  |some x,some i,some vs=>(match um Y.G m x i.size λl=>E9 i.bM.agg l with
   |some v=>some (v::vs)| none=>none)
  |_,_,_=>none)
abbrev qe:=tA×be aq×br
abbrev uo:=Bool->Nat->Code->be aq->br->Option qe
def aad:List aq->aq
 |[v]=>v| vs=>.t vs
def Mp(Y:gP)(ao:be aq)(m:br)(a2:List ResultVar):Option (aq×br):=bn (As Y ao m.t a2) none λvs=>some (aad vs,m)
def aae(Y:gP)(r:Option qe)(a2:List ResultVar):Option (aq×br):=match r with
 |some (.normal,ao,m)=>Mp Y ao m a2| some (.ret,ao,m)=>Mp Y ao m a2| _=>none
def Mq(Y:gP)(rec:uo)(g:Nat)(args:List aq)(m:br):Option (aq×br):=
 bn (Y.P.funcs[g]?) none λfn=>bn fn.body none λc=>b0 (Nat.ble args.length fn.ntmps) (be.yA args (be.bare 12) 0 λao=>aae Y (rec true fn.ntmps c ao m) fn.results.toList) none
def At(Y:gP)(rec:uo)(g:Nat)(args:List aq)(m:br):Option (aq×br):=bn (Y.pr g args m) (Mq Y rec g args m) some
def R9(l:Nat)(e:Option fP)(jump:Option Code)(m:br):Option (aq×br):=match e with
 |some (.loop true n nC ps fp body)=>m.t.n7 (some (bn jump (.loop false n nC ps fp body) λc=>.done c n nC ps fp body)) l λt=>some (.b jump.isNone,⟨t,m.n⟩)
 |_=>none
def aaf(l:Nat)(r:Option qe):Option (aq×br):=bn r none λr=>R9 l (r.2.2.t.get l) (Eh r.1) r.2.2
def R'(rec:uo)(l n:Nat)(body:Code)(e:Option fP)(ao:be aq)(m:br):Option (aq×br):=match e with
 |some (.loop false h2 nC ps fp Sa)=>m.t.n7 (some (.loop true h2 nC ps fp Sa)) l λt=>aaf l (rec false n body ao ⟨t,m.n⟩)
 |_=>none
def aag(rec:uo)(l n:Nat)(body:Code)(r:Option qe):Option (aq×br):=match r with
 |some (.normal,ao,m)=>R' rec l n body (m.t.get l) ao m| _=>none
def Sb(rec:uo)(l:Nat)(args:List aq)(m:br):Option (aq×br):=match m.t.get l with
 |some (.loop false n nC ps fp body)=>Fi ps args nC λao=>aag rec l n body (rec false n fp ao m)
 |_=>none
def Ms(Y:gP)(rec:uo)(f:aq)(args:List aq)(m:br):Option (aq×br):=match f with
 | .f g l r=>At Y rec g (l++(args++r)) m| .y l=>Sb rec l args m| _=>none
def Sc:Code->Option tA
 | .exit id=>some (.exit id)| .goto l=>some (.goto l)| .ret=>some .ret| _=>none
def ID(r:Option qe)(k:be aq->br->Option qe):Option qe:=match r with
 |some (.normal,ao,m)=>k ao m| r=>r
def aah(id:Nat)(r:Option qe):Option qe:=match r with
 |some (.exit j,ao,m)=>b0 (Nat.beq j id) (some (.normal,ao,m)) (some (.exit j,ao,m))| r=>r
def Mt(r:Option (be aq×br)):Option qe:=bn r none λr=>some (.normal,r.1,r.2)
def aai(v:Option aq)(x y:Option qe):Option qe:=match v with
 |some (.b b)=>b0 b x y| _=>none
def IE(rec:uo)(gL:Bool)(n:Nat)(c:Code)(k:Nat):Code->be aq->br->Option qe:=@Nat.rec (λ_=>Code->be aq->br->Option qe) (λ_ _ _=>none)
 (λ_ aF x ao m=>match rec gL n x ao m with
  |some (.goto l,ao,m)=>bn (findLabel c l) none λbk=>aF bk ao m
  |r=>r) k
def aaj(l:Nat)(ao:be aq)(r:Option (aq×br)):Option qe:=bn r none λr=>match r.2.t.get l with
 |some (.loop false ..)=>r.2.t.n7 none l λt=>some (.normal,ao,⟨t,r.2.n⟩)
 |some (.done c ..)=>bn (Sc c) none λex=>r.2.t.n7 none l λt=>some (ex,ao,⟨t,r.2.n⟩)
 |_=>none
def Sd(Y:gP)(rec:uo)(gL:Bool)(n:Nat)(v:Option aq)(ps:List Nat)(fp body:Code)(ao:be aq)(m:br):Option qe:=match gL,v with
 |true,some (.f g [] r)=>CO m (.loop false n ao ps fp body) λl m=>aaj l ao (Mq Y rec g (.y l::r) m)
 |_,_=>none
def Se(Y:gP)(f:Nat)(rec:uo):uo:=λgL n c ao m=>match c with
 | .skip=>some (.normal,ao,m)| .label _=>some (.normal,ao,m)| .ret=>some (.ret,ao,m)| .exit id=>some (.exit id,ao,m)| .goto l=>some (.goto l,ao,m)| .seq x y=>ID (rec gL n x ao m) (rec gL n y)| .block id c=>aah id (rec gL n c ao m)| .cond c x y=>aai (dn ao c) (rec gL n x ao m) (rec gL n y ao m)| .loop c=>ID (rec gL n c ao m) (rec gL n (.loop c))| .region _ ops false=>Mt (Fe Y (Ms Y rec) ops.toList ops.toList ao m)| .region _ ops true=>Mt (R8 Y (Ms Y rec) ops.toList ao m)| .scope c=>IE rec gL n c f c ao m| .rangeFunc x ps fp body=>Sd Y rec gL n (dn ao x) ps.toList fp body ao m| .refuse _=>none
def mh(Y:gP)(f:Nat):uo:=@Nat.rec (λ_=>uo) (λ_ _ _ _ _=>none) (λf aF=>Se Y f aF) f
end
section
variable{α R:Type}
def kT{α:Type}(b:Bool)(x y:α):b0 b x y=bif b then x else y:=by cases b<;>rfl
def cx{α R:Type}{o:Option α}{f:α->Option R}{r:R}(h:bn o none f=some r):∃ v,o=some v/\f v=some r:=by
 cases o with
 |none=>cases h| some v=>exact⟨v,rfl,h⟩
def fZ{α:Type}{b:Bool}{x:Option α}{r:α}(h:b0 b x none=some r):b=true/\x=some r:=by
 cases b with
 |true=>exact⟨rfl,h⟩| false=>cases h
def Au{α:Type}{b:Bool}{x:Option α}{r:α}(h:b0 b none x=some r):b=false/\x=some r:=by
 cases b with
 |false=>exact⟨rfl,h⟩| true=>cases h
def be.IF(x:Option α)(l r:be α)(k:Nat):(be.node x l r).get k=bif Nat.beq k 0 then x else bif Nat.beq (k%2) 1 then l.get (k/2)else r.get (k/2-1):=by show b0 _ _ (b0 _ _ _)=_;rw[kT,kT];rfl
def be.py(v:Option α):∀ (t:be α) (k:Nat),∃ bo:be α,(∀ {R:Type} (K:be α->R),t.n7 v k K=K bo)/\∀ j x,bo.get j=some x->(j=k/\v=some x)\/(j≠k/\t.get j=some x)
 | .nil,k=>by
  cases ae:Nat.beq k 0 with
  |true=>
   have:=dR ae;subst this;refine⟨.node v .nil .nil,λK=>rfl,λj x h=>?_⟩;rw[be.IF]at h;cases ai:Nat.beq j 0 with
   |true=>rw[ai]at h;exact .inl ⟨dR ai,h⟩
   |false=>
    rw[ai]at h;cases hm:Nat.beq (j%2) 1<;>(rw[hm]at h;cases h)
  |false=>refine⟨.nil,λK=>?_,λj x h=>by cases h⟩;show b0 _ _ _=_;rw[kT,ae];rfl
 | .node x l r,k=>by
  cases ae:Nat.beq k 0 with
  |true=>
   have:=dR ae;subst this;refine⟨.node v l r,λK=>rfl,λj y h=>?_⟩;rw[be.IF]at h |-;cases ai:Nat.beq j 0 with
   |true=>rw[ai]at h;exact .inl ⟨dR ai,h⟩| false=>rw[ai]at h;exact .inr ⟨(λe=>by subst e;cases ai),h⟩
  |false=>
   have lb:k≠0:=λe=>by subst e;cases ae
   cases hm:Nat.beq (k%2) 1 with
   |true=>
    have sI:=dR hm;obtain⟨eB,aa,ab⟩:=be.py v l (k/2);refine⟨.node x eB r,λK=>?_,λj y h=>?_⟩;·show b0 _ _ (b0 _ _ _)=_;rw[kT,kT,ae];show(bif Nat.beq (k%2) 1 then _ else _)=_;rw[hm];exact aa _
    ·rw[be.IF]at h |-;cases ai:Nat.beq j 0 with
     |true=>rw[ai]at h;exact .inr ⟨λe=>by have:=dR ai;omega,h⟩
     |false=>
      rw[ai]at h;have Sf:j≠0:=λe=>by subst e;cases ai
      cases qY:Nat.beq (j%2) 1 with
      |true=>
       have alP:=dR qY;rw[qY]at h;rcases ab _ _ h with⟨e,ah⟩ | ⟨e,ah⟩;·exact .inl ⟨by omega,ah⟩
       ·exact .inr ⟨λcQ=>e (by rw[cQ]),ah⟩
      |false=>rw[qY]at h;exact .inr ⟨(λe=>by subst e;rw[hm]at qY;cases qY),h⟩
   |false=>
    have sI:k%2≠1:=λe=>by rw[e]at hm;cases hm
    obtain⟨rC,aa,ab⟩:=be.py v r (k/2-1);refine⟨.node x l rC,λK=>?_,λj y h=>?_⟩;·show b0 _ _ (b0 _ _ _)=_;rw[kT,kT,ae];show(bif Nat.beq (k%2) 1 then _ else _)=_;rw[hm];exact aa _
    ·rw[be.IF]at h |-;cases ai:Nat.beq j 0 with
     |true=>rw[ai]at h;exact .inr ⟨λe=>by have:=dR ai;omega,h⟩
     |false=>
      rw[ai]at h;have Sf:j≠0:=λe=>by subst e;cases ai
      cases qY:Nat.beq (j%2) 1 with
      |true=>rw[qY]at h;exact .inr ⟨(λe=>by subst e;rw[hm]at qY;cases qY),h⟩
      |false=>
       have alP:j%2≠1:=λe=>by rw[e]at qY;cases qY
       rw[qY]at h;rcases ab _ _ h with⟨e,ah⟩ | ⟨e,ah⟩;·exact .inl ⟨by omega,ah⟩
       ·exact .inr ⟨λcQ=>e (by rw[cQ]),ah⟩
def be.Fj(t:be α):∀ (n off:Nat) (K:List α->Option R) (r:R),t.E5 off n K=some r->∃ l,l.length=n/\(∀ i,i<n->t.get (off+i)=l[i]?)/\K l=some r
 |0,off,K,r,h=>⟨[],rfl,λi hi=>by omega,h⟩
 |n+1,off,K,r,h=>by
  have bc:bn (t.get off) none (λv=>t.E5 (off+1) n λl=>K (v::l))=some r:=h;obtain⟨v,ah,bc⟩:=cx bc;obtain⟨l,aa,ab,aj⟩:=be.Fj t n (off+1) _ r bc;refine⟨v::l,by simp[aa],λi hi=>?_,aj⟩;cases i with
  |zero=>simpa using ah| succ i=>have:=ab i (by omega);rw[show off+(i+1)=off+1+i by omega,this];simp
def be.yG:∀ (l:List α) (t:be α) (off:Nat),∃ bo:be α,(∀ {R:Type} (K:be α->R),be.yA l t off K=K bo) /\ ∀ j x,bo.get j=some x->(off<=j/\l[j-off]?=some x)\/((j<off\/off+l.length<=j)/\t.get j=some x)
 |[],t,off=>⟨t,λK=>rfl,λj x h=>.inr ⟨by simp;omega,h⟩⟩
 |v::l,t,off=>by
  obtain⟨t1,aa,ab⟩:=be.py (some v) t off;obtain⟨t2,aj,aG⟩:=be.yG l t1 (off+1);refine⟨t2,λK=>(aa _).trans (aj K),λj x h=>?_⟩;rcases aG j x h with⟨a8,ba⟩ | ⟨a8,ba⟩;·exact .inl ⟨by omega,by rw[show j-off=(j-(off+1))+1 by omega];simpa using ba⟩
  ·rcases ab j x ba with⟨rfl,e⟩ | ⟨e,bR⟩
   ·exact .inl ⟨b2 _,by simp at e;simp[e]⟩
   ·exact .inr ⟨by simp only[c2];omega,bR⟩
end
def Sg(n:Nat)(K:Nat->R):sh n K=K n:=rfl
def alQ(n:Int)(K:Int->R):ZY n K=K n:=by cases n<;>rfl
def alR(b:Bool)(K:Bool->R):ZZ b K=K b:=by cases b<;>rfl
def alS(v:aq)(K:aq->R):RW v K=K v:=by
 cases v with
 |b x=>exact alR x λx=>K (.b x)
 |i k n=>exact alQ n λn=>K (.i k n)
 |_=>rfl
def Sh(a b:Nat):Nat.beq a b=decide (a=b):=by
 by_cases h:a=b
 ·subst h;simp
 ·rw[hE h];simp[h]
def Mu(a b:Nat):Nat.ble a b=decide (a<=b):=by
 by_cases h:a<=b
 ·rw[CF h];simp[h]
 ·cases ag:Nat.ble a b with
  |false=>simp[h]| true=>exact absurd (bI ag) h
def CT(a b:Int):s5 a b=decide (a=b):=by
 cases a<;>cases b<;>simp only[s5,Sh]<;>simp
 omega
def Mv(a b:Int):CJ a b=decide (a<=b):=by
 cases a<;>cases b<;>simp only[CJ]
 ·rw[Mu];simp only[LZ];exact Int.ofNat_le.symm
 ·symm;simp only[qz];rename_i a b;have:=Int.negSucc_lt_zero b;have:(0:Int)<=Int.ofNat a:=ES a;omega
 ·symm;simp only[hq];rename_i a b;have:=Int.negSucc_lt_zero a;have:(0:Int)<=Int.ofNat b:=ES b;omega
 ·rw[Mu];simp only[LZ,Int.negSucc_eq];omega
def alT(a b:Int):D1 a b=decide (a<b):=by
 unfold D1;rw[Mv];by_cases h:a<b
 ·simp[h]
 ·simp[h];omega
def alU(op:BinOp)(x y:Int):RC op x y=xK op x y:=by cases op<;>simp only[RC,xK,CT,alT,Mv]
def Av(k:IntKind)(n:Int):wW k n=k.wrap n:=by
 cases n with
 |negSucc n=>rfl
 |ofNat n=>
  simp only[wW];cases h:Nat.ble n (Md k)with
  |false=>rfl
  |true=>
   have bc:=bI h;simp only[cb];cases k<;>simp only[Md]at bc<;>simp only[IntKind.wrap,IntKind.signed,IntKind.bits]<;>simp<;>omega
def alV(a b:Int):Zy a b=a+b:=by cases a<;>cases b<;>rfl
def alW(a b:Int):RD a b=a-b:=by
 cases a<;>cases b<;>try rfl
 rename_i a b;simp only[RD];cases h:Nat.ble b a with
 |false=>rfl| true=>have:=bI h;show((a-b:Nat):Int)=(a:Int)-b;omega
def alX(a b:Int):Zz a b=a*b:=by cases a<;>cases b<;>rfl
def alY(a b:Int):ZA a b=a.tdiv b:=by cases a<;>cases b<;>rfl
def alZ(a b:Int):ZB a b=a.tmod b:=by cases a<;>cases b<;>rfl
def al0(a:Int)(j:Nat):ZC a j=a*2^j:=by
 cases a with
 |negSucc a=>rfl| ofNat a=>show((a*2^j:Nat):Int)=(a:Int)*2^j;simp
def al1(a:Int)(j:Nat):ZD a j=a.fdiv (2^j):=by
 cases a with
 |negSucc a=>rfl| ofNat a=>show((a/2^j:Nat):Int)=(a:Int).fdiv (2^j);rw[show(2:Int)^j=((2^j:Nat):Int) by simp];rw[K6 _ (ES _)];simp
def aak(j b:Nat):(bif Nat.ble j b then j else b)=min j b:=by
 rw[Mu];by_cases h:j<=b
 ·simp[h,uL h]
 ·simp[h];omega
def Aw{a:Nat}(h:a<=18446744073709551615):(BitVec.ofInt IntKind.u64.bits (Int.ofNat a)).toNat=a:=by show(BitVec.ofInt 64 (a:Int)).toNat=a;rw[BitVec.ofInt_natCast,LY];omega
def wrap64{a:Nat}(h:a<=18446744073709551615):IntKind.u64.wrap (a:Int)=Int.ofNat a:=by show IntKind.u64.wrap (.ofNat a)=_;rw[<-Av];simp only[wW,Md,CF h,cb]
def Mw{op:BinOp}{k:IntKind}{x y r:Int}(h:E7 op k x y=some r):uO op k x y=some r:=by
 unfold E7 at h;split at h
 ·rename_i a b;cases an:(Nat.ble a 18446744073709551615&&Nat.ble b 18446744073709551615)with
  |false=>rw[an]at h;cases h
  |true=>
   rw[an]at h;rw[cz]at an;have a6:=bI an.1;have ag:=bI an.2;have IG:a<2^64:=by omega
   have Mx:b<2^64:=by omega
   simp only[cb]at h;split at h;·rw[<-h];simp only[uO,La,Aw a6,Aw ag];rw[wrap64 (by have:=Nat.and_lt_two_pow a Mx;omega)];rfl
   ·rw[<-h];simp only[uO,BitVec.toNat_or,Aw a6,Aw ag];rw[wrap64 (by have:=Nat.or_lt_two_pow IG Mx;omega)];rfl
   ·rw[<-h];simp only[uO,BitVec.toNat_xor,Aw a6,Aw ag];rw[wrap64 (by have:=Nat.xor_lt_two_pow IG Mx;omega)];rfl
   ·rw[<-h];have aC:(~~~(BitVec.ofInt IntKind.u64.bits (Int.ofNat b))).toNat=18446744073709551615-b:=by rw[BitVec.toNat_not,Aw ag];rfl
    simp only[uO,La,Aw a6,aC];rw[wrap64 (by have:=Nat.and_lt_two_pow a (show 18446744073709551615-b<2^64 by omega);omega)];rfl
   ·cases h
 ·exact h
def al2(a b:UInt8):RE a b=decide (a=b):=by unfold RE;rw[Sh];simp only[LZ];exact UInt8.toNat_inj
def Fk:∀ (l m:List UInt8),vw l m=decide (l=m)
 |[],[]=>by simp[vw]
 |[],_::_=>by simp[vw]
 |_::_,[]=>by simp[vw]
 |a::l,b::m=>by
  simp only[vw,al2,Fk l m];by_cases h:a=b;·subst h;simp
  ·simp[h]
def Ax{α:Type}:∀ (l:List α) (n:Nat),wX l n=l[n]?
 |[],n=>by simp[wX]
 |v::l,n=>by
  unfold wX;cases n with
  |zero=>rfl| succ n=>exact(Ax l n).trans (by simp)
def IH{α:Type}:∀ (l:List α) (n:Nat),CL l n=l.drop n
 |[],n=>by simp[CL]
 |v::l,n=>by
  unfold CL;cases n with
  |zero=>rfl| succ n=>exact(IH l n).trans (by simp)
def aal{n:Nat}{l r:List aq}(h:CK n l=some r):r=l.take n/\r.length=n:=by
 induction n generalizing l r with
 |zero=>simp[CK]at h;subst h;simp
 |succ n aF=>
  cases l with
  |nil=>simp[CK]at h
  |cons v l=>
   simp only[CK]at h;split at h;·rename_i q aN;obtain⟨rfl,ab⟩:=aF aN;cases h;simp at ab |-;omega
   ·cases h
structure Loc where
 b:Nat
 o:Nat
 c:Nat
abbrev bQ:=Nat->Option Loc
def bQ.le(D bC:bQ):Prop:=∀ i a,D i=some a->bC i=some a
mutual
def aT(D:bQ):aq->Value->Prop
 | .b x,u=>u=.bool x| .i k n,u=>u=.int k n| .s l,u=>u=.string ⟨l.toArray⟩| .pn,u=>u=.pointer none| .p id off,u=>∃ a,D id=some a/\u=.pointer (some ⟨a.b,a.o+off,none⟩)| .g n off,u=>u=.pointer (some ⟨n,off,none⟩)| .sn,u=>u=.slice none 0 0| .sl id off n c,u=>∃ a,D id=some a/\u=.slice (some ⟨a.b,a.o+off,none⟩) n c| .sx id off e n,u=>∃ a,D id=some a/\e+n<=a.c/\u=.slice (some ⟨a.b,a.o+off,none⟩) n (a.c-e)| .gs n off k c,u=>u=.slice (some ⟨n,off,none⟩) k c| .so,u=>∃ a c,u=.slice (some a) 0 c| .mn,u=>u=.map none| .m id,u=>∃ a,D id=some a/\u=.map (some a.b)| .f g l r,u=>∃ vs ws,bL D l vs/\bL D r ws/\u=.func (.func g) vs.toArray ws.toArray| .y id,u=>∃ a,D id=some a/\u=.func (.yield a.b) #[] #[]| .fn,u=>u=.nilFunc| .ni,u=>u=.nilIface| .Iq t v,u=>∃ x,aT D v x/\u=.iface t x| .t l,u=>∃ vs,bL D l vs/\u=.tuple vs.toArray| .a l,u=>∃ vs,bL D l vs/\u=.agg vs.toArray
def bL(D:bQ):List aq->List Value->Prop
 |[],us=>us=[]| v::l,us=>∃ x xs,aT D v x/\bL D l xs/\us=x::xs
end
section
variable{D bC:bQ}
mutual
def aT.mono(h:D.le bC):∀ {v:aq} {u:Value},aT D v u->aT bC v u
 | .b _,_,ah | .i _ _,_,ah | .s _,_,ah | .pn,_,ah | .g _ _,_,ah | .sn,_,ah | .gs ..,_,ah | .so,_,ah | .mn,_,ah | .fn,_,ah | .ni,_,ah=>by simpa only[aT]using ah
 | .p ..,_,ah | .sl ..,_,ah | .m _,_,ah | .y _,_,ah=>by simp only[aT]at ah |-;obtain⟨a,aa,ab⟩:=ah;exact⟨a,h _ _ aa,ab⟩
 | .sx ..,_,ah=>by simp only[aT]at ah |-;obtain⟨a,aa,ab⟩:=ah;exact⟨a,h _ _ aa,ab⟩
 | .f _ l r,_,ah=>by simp only[aT]at ah |-;obtain⟨vs,ws,aa,ab,aj⟩:=ah;exact⟨vs,ws,bL.mono h aa,bL.mono h ab,aj⟩
 | .Iq _ v,_,ah=>by simp only[aT]at ah |-;obtain⟨x,aa,ab⟩:=ah;exact⟨x,aT.mono h aa,ab⟩
 | .t l,_,ah=>by simp only[aT]at ah |-;obtain⟨x,aa,ab⟩:=ah;exact⟨x,bL.mono h aa,ab⟩
 | .a l,_,ah=>by simp only[aT]at ah |-;obtain⟨x,aa,ab⟩:=ah;exact⟨x,bL.mono h aa,ab⟩
def bL.mono(h:D.le bC):∀ {l:List aq} {us:List Value},bL D l us->bL bC l us
 |[],_,ah=>by simpa only[bL]using ah
 |v::l,_,ah=>by simp only[bL]at ah |-;obtain⟨x,xs,aa,ab,aj⟩:=ah;exact⟨x,xs,aT.mono h aa,bL.mono h ab,aj⟩
end
def bL.nil:bL D [] []:=by simp[bL]
def bL.cons{v:aq}{l:List aq}{x:Value}{xs:List Value}(h:aT D v x)(k:bL D l xs):bL D (v::l) (x::xs):=by simp only[bL];exact⟨x,xs,h,k,rfl⟩
def bL.kU{v:aq}{l:List aq}{us:List Value}(h:bL D (v::l) us):∃ x xs,aT D v x/\bL D l xs/\us=x::xs:=by simpa only[bL]using h
def bL.n8{us:List Value}(h:bL D [] us):us=[]:=by simpa only[bL]using h
def bL.len:∀ {l:List aq} {us:List Value},bL D l us->us.length=l.length
 |[],_,h=>by rw[h.n8];rfl
 |v::l,_,h=>by obtain⟨x,xs,aa,ab,rfl⟩:=h.kU;simp[bL.len ab]
def bL.get:∀ {l:List aq} {us:List Value} {i:Nat} {v:aq},bL D l us->l[i]?=some v->∃ x,us[i]?=some x/\aT D v x
 |[],_,i,v,h,hi=>by simp at hi
 |w::l,_,i,v,h,hi=>by
  obtain⟨x,xs,aa,ab,rfl⟩:=h.kU;cases i with
  |zero=>simp at hi;subst hi;exact⟨x,rfl,aa⟩| succ i=>simpa using bL.get ab (by simpa using hi)
def bL.Si:∀ {l:List aq} {us:List Value},us.length=l.length->(∀ (i:Nat) (v:aq),l[i]?=some v->∃ x,us[i]?=some x/\aT D v x)->bL D l us
 |[],us,ay,h=>by have:us=[]:=iq (by simpa using ay);subst this;exact .nil
 |w::l,us,ay,h=>by
  cases us with
  |nil=>simp at ay| cons x xs=>obtain⟨y,aH,aa⟩:=h 0 w rfl;simp at aH;subst aH;exact .cons aa (bL.Si (by simpa using ay) λi v hi=>by simpa using h (i+1) v (by simpa using hi))
def bL.append:∀ {l:List aq} {us:List Value} {m:List aq} {ws:List Value},bL D l us->bL D m ws->bL D (l++m) (us++ws)
 |[],_,m,ws,h,k=>by rw[h.n8];exact k
 |w::l,_,m,ws,h,k=>by obtain⟨x,xs,aa,ab,rfl⟩:=h.kU;exact .cons aa (bL.append ab k)
def bL.take:∀ {l:List aq} {us:List Value} (n:Nat),bL D l us->bL D (l.take n) (us.take n)
 |[],_,n,h=>by rw[h.n8];simpa using bL.nil
 |w::l,_,n,h=>by
  obtain⟨x,xs,aa,ab,rfl⟩:=h.kU;cases n with
  |zero=>simpa using bL.nil| succ n=>simpa using bL.cons aa (bL.take n ab)
def bL.drop:∀ {l:List aq} {us:List Value} (n:Nat),bL D l us->bL D (l.drop n) (us.drop n)
 |[],_,n,h=>by rw[h.n8];simpa using bL.nil
 |w::l,us,n,h=>by
  cases n with
  |zero=>simpa using h| succ n=>obtain⟨x,xs,aa,ab,rfl⟩:=h.kU;simpa using bL.drop n ab
def bL.Hx{l:List aq}{us:List Value}(h:bL D l us):∀ n,bL D (CP n l) ((List.replicate n us).flatten)
 |0=>by simpa[CP]using bL.nil
 |n+1=>by rw[HM,Qt];exact h.append (bL.Hx h n)
def aT.bool{x:Bool}{u:Value}(h:aT D (.b x) u):u=.bool x:=by simpa only[aT]using h
def aT.int{k:IntKind}{n:Int}{u:Value}(h:aT D (.i k n) u):u=.int k n:=by simpa only[aT]using h
def aT.str{l:List UInt8}{u:Value}(h:aT D (.s l) u):u=.string ⟨l.toArray⟩:=by simpa only[aT]using h
def aT.ptr{id off:Nat}{u:Value}(h:aT D (.p id off) u):∃ a,D id=some a/\u=.pointer (some ⟨a.b,a.o+off,none⟩):=by simpa only[aT]using h
def aT.q8{id off:Nat}{u:Value}(h:aT D (.g id off) u):u=.pointer (some ⟨id,off,none⟩):=by simpa only[aT]using h
def aT.s7{id off n c:Nat}{u:Value}(h:aT D (.sl id off n c) u):∃ a,D id=some a/\u=.slice (some ⟨a.b,a.o+off,none⟩) n c:=by simpa only[aT]using h
def aT.vA{id off e n:Nat}{u:Value}(h:aT D (.sx id off e n) u):∃ a,D id=some a/\e+n<=a.c/\u=.slice (some ⟨a.b,a.o+off,none⟩) n (a.c-e):=by simpa only[aT]using h
def aT.Sj{id off n c:Nat}{u:Value}(h:aT D (.gs id off n c) u):u=.slice (some ⟨id,off,none⟩) n c:=by simpa only[aT]using h
def aT.My{u:Value}(h:aT D .so u):∃ a c,u=.slice (some a) 0 c:=by simpa only[aT]using h
def aT.CU{u:Value}(h:aT D .sn u):u=.slice none 0 0:=by simpa only[aT]using h
def aT.agg{l:List aq}{u:Value}(h:aT D (.a l) u):∃ vs,bL D l vs/\u=.agg vs.toArray:=by simpa only[aT]using h
def aT.Sk{l:List aq}{u:Value}(h:aT D (.t l) u):∃ vs,bL D l vs/\u=.tuple vs.toArray:=by simpa only[aT]using h
def aT.Mz{l:List aq}(h:bL D l vs):aT D (.a l) (.agg vs.toArray):=by simp only[aT];exact⟨vs,h,rfl⟩
def aT.MA{l:List aq}(h:bL D l vs):aT D (.t l) (.tuple vs.toArray):=by simp only[aT];exact⟨vs,h,rfl⟩
def aT.undef:aT D (.t []) undef:=by simp only[aT];exact⟨[],.nil,rfl⟩
def aT.cells{v:aq}{u:Value}(h:aT D v u):bL D v.cells u.cells.toList:=by
 cases v<;>simp only[aq.cells]
 case a l=>obtain⟨vs,aa,rfl⟩:=h.agg;simpa[Value.cells]using aa
 all_goals
  have key:∀ w:Value,(∀ cs,w≠.agg cs)->w.cells.toList=[w]:=λw hw=>by cases w<;>first | rfl | exact(hw _ rfl).elim
  rw[key u ?_];·exact .cons h .nil
  ·rintro cs rfl;simp[aT]at h
def aT.one{v:aq}{u:Value}(h:aT D v u)(aK:v.one=true):u.oneCell'=true:=by
 cases v<;>simp only[aq.one,lv]at aK<;>simp only[aT]at h
 all_goals first
  |(subst h;rfl)|(obtain⟨_,_,rfl⟩:=h;rfl)|(obtain⟨_,_,_,rfl⟩:=h;rfl)|(obtain⟨_,_,_,_,rfl⟩:=h;rfl)
def bL.one{l:List aq}{us:List Value}(h:bL D l us)(aK:l.all aq.one=true):gA us=true:=by refine fi.2 λx ad=>?_;obtain⟨i,hi⟩:=LX ad;have a1:=(ij.1 hi).1;rw[h.len]at a1;obtain⟨y,aH,ah⟩:=h.get (db a1);rw[hi]at aH;cases aH;exact ah.one (fi.1 aK _ (bi a1))
def aT.aam{u:Value}{v:aq}(h:Ir u=some v):aT D v u:=by
 unfold Ir at h;split at h<;>cases h<;>simp[aT]
def bL.Fl:∀ {us:List Value} {l:List aq},yB us=some l->bL D l us
 |[],l,h=>by simp only[yB]at h;cases h;exact .nil
 |u::us,l,h=>by
  simp only[yB]at h;split at h;·rename_i x m aa ab;cases h;exact .cons (.aam aa) (bL.Fl ab)
  ·cases h
def aT.of{u:Value}{v:aq}(h:E6 u=some v):aT D v u:=by
 unfold E6 at h;split at h
 ·split at h
  ·rename_i l ay;cases h;have:=bL.Fl (D:=D) ay;simpa using aT.Mz this
  ·cases h
 ·exact .aam h
def MB{agg:Bool}{l:List aq}{v:aq}(h:E9 agg l=some v)(ay:bL D l vs):aT D v (pack agg vs):=by
 unfold E9 at h;cases agg with
 |true=>simp only[cb]at h;cases h;exact .Mz ay
 |false=>
  simp only[b5]at h;split at h;·cases h;obtain⟨x,xs,aa,ab,rfl⟩:=ay.kU;rw[ab.n8];exact aa
  ·cases h
def Sl:∀ {cs:List aq} {off:Nat} {vs r:List aq} {us xs:List Value},yD cs off vs=some r->bL D cs us->bL D vs xs->bL D r (ck us off xs)/\off+xs.length<=us.length
 |cs,0,[],r,us,xs,h,an,ah=>by simp[yD]at h;subst h;rw[ah.n8];exact⟨by simpa[ck]using an,by simp⟩
 |[],0,_::_,r,us,xs,h,an,ah=>by simp[yD]at h
 |[],_+1,_,r,us,xs,h,an,ah=>by simp[yD]at h
 |c::cs,0,v::vs,r,us,xs,h,an,ah=>by
  simp only[yD]at h;split at h
  ·rename_i q aN;cases h;obtain⟨x,us,aa,ab,rfl⟩:=an.kU;obtain⟨y,xs,aj,aG,rfl⟩:=ah.kU;obtain⟨bx,bZ⟩:=Sl aN ab aG;refine⟨?_,by simp at bZ |-;omega⟩;have e:ck (x::us) 0 (y::xs)=y::ck us 0 xs:=by simp[ck]
   rw[e];exact .cons aj bx
  ·cases h
 |c::cs,n+1,vs,r,us,xs,h,an,ah=>by
  simp only[yD]at h;split at h
  ·rename_i q aN;cases h;obtain⟨x,us,aa,ab,rfl⟩:=an.kU;obtain⟨bx,bZ⟩:=Sl aN ab ah;refine⟨?_,by simp;omega⟩;have e:ck (x::us) (n+1) xs=x::ck us n xs:=by simp only[ck,qB,mF,ya,true_and];rw[show n+1+xs.length=(n+xs.length)+1 by omega,Ig]
   rw[e];exact .cons aa bx
  ·cases h
inductive II(D:bQ):List (Nat×aq)->List (Nat×Value)->Prop
 |nil:II D [] []| cons {i v u l us} (h:aT D v u) (k:II D l us):II D ((i,v)::l) ((i,u)::us)
def MC{place:Nat->Option (Nat×Nat)}:∀ {vs:List (Nat×aq)} {cells r:List aq} {us:List Value} {xs:List (Nat×Value)},Aq place cells vs=some r->bL D cells us->II D vs xs -> ∃ a2,ts place us xs=some a2/\bL D r a2
 |[],cells,r,us,_,h,an,.nil=>by simp only[Aq]at h;cases h;exact⟨us,rfl,an⟩
 |(i,v)::vs,cells,r,us,_,h,an,.cons (u:=u) (us:=xs) ah iU=>by
  simp only[Aq]at h;split at h;·cases h
  ·rename_i off size aB;cases ag:Nat.beq v.cells.length size with
   |false=>rw[ag]at h;cases h
   |true=>
    rw[ag]at h;simp only[cb]at h;split at h
    ·rename_i cs nR;obtain⟨aa,ab⟩:=Sl nR an ah.cells;obtain⟨a2,aj,aG⟩:=MC h aa iU;refine⟨a2,?_,aG⟩;have ay:u.cells.size=v.cells.length:=by simpa using ah.cells.len
     simp only[ts,aB,ay,ag];rw[show Nat.ble (off+size) us.length=true by rw[Mu,hq];have:=dR ag;simp at ab;omega];exact aj
    ·cases h
end
def gx(D:bQ)(x:dD)(v:aq):Prop:=(∃ u,x=.val u/\aT D v u)\/∃ q,v=.b q/\x=.lit q
def gx.val{D:bQ}{u:Value}{v:aq}(h:aT D v u):gx D (.val u) v:=.inl ⟨u,rfl,h⟩
def gx.mono{D bC:bQ}(dk:D.le bC){x:dD}{v:aq}(h:gx D x v):gx bC x v:=by
 rcases h with⟨u,rfl,h⟩ | ⟨q,rfl,rfl⟩
 ·exact .val (h.mono dk)
 ·exact .inr ⟨q,rfl,rfl⟩
def q9(D:bQ)(F:Fr)(ao:be aq):Prop:=∀ t v,ao.get t=some v->gx D (F t) v
def jz(D:bQ)(F:Fr)(ao:be aq)(xs:List Operand):Prop:=∀ x∈xs,∀ v,dn ao x=some v->gx D (dq F x) v
def q9.op{D:bQ}{F:Fr}{ao:be aq}(h:q9 D F ao)(xs:List Operand):jz D F ao xs:=λx _ v ah=>by
 cases x with
 |tmp t=>exact h t v ah
 |const c=>
  have kd:E6 c=some v:=ah;cases c with
  |bool q=>
   have:v=.b q:=by simp[E6,Ir]at kd;exact kd.symm
   exact .inr ⟨q,this,rfl⟩
  |_=>exact .val (.of kd)
 |global g=>
  have:v=.g g 0:=by simpa[dn]using ah.symm
  subst this;exact .val (by simp[aT])
 |func f=>
  have:v=.f f [] []:=by simpa[dn]using ah.symm
  subst this;exact .val (by simp only[aT];exact⟨[],[],.nil,.nil,rfl⟩)
section
variable{D:bQ}{F:Fr}{ao:be aq}{xs:List Operand}
def gx.dC{x:Operand}{v:aq}(h:gx D (dq F x) v):∃ u,bF F x=.val u/\aT D v u:=by
 unfold bF Go.V.dC;rcases h with⟨u,h,ah⟩ | ⟨q,rfl,h⟩
 ·rw[h];exact⟨u,rfl,ah⟩
 ·rw[h];exact⟨.bool q,rfl,by simp[aT]⟩
def gx.w2{x:dD}{v:aq}(h:gx D x v)(ah:∀ q,v≠.b q):∃ u,x=.val u/\aT D v u:=by
 rcases h with h | ⟨q,h,_⟩
 ·exact h
 ·exact(ah q h).elim
def jz.bF(h:jz D F ao xs){x:Operand}(ad:x∈xs){v:aq}(ah:dn ao x=some v):∃ u,bF F x=.val u/\aT D v u:=(h x ad v ah).dC
def jz.m1(h:jz D F ao xs):∀ {l:List Operand} {vs:List aq},(∀ x∈l,x∈xs)->oB ao l=some vs->∃ us,m1 F l=some us/\bL D vs us
 |[],vs,_,ah=>by simp only[oB]at ah;cases ah;exact⟨[],rfl,.nil⟩
 |x::l,vs,ay,ah=>by
  simp only[oB]at ah;split at ah;·rename_i v vs aa ab;cases ah;obtain⟨u,aJ,a8⟩:=h.bF (ay x (by simp)) aa;obtain⟨us,a4,ba⟩:=jz.m1 h (λy aH=>ay y (by simp[aH])) ab;refine⟨u::us,?_,.cons a8 ba⟩;show kb (dq F) (x::l)=_;rw[kb];have er:dC (dq F) x=.val u:=aJ;have rv:kb (dq F) l=some us:=a4;rw[er,rv]
  ·cases ah
def jz.parts(h:jz D F ao xs):∀ {l:List (Nat×Operand)} {vs:List (Nat×aq)},(∀ x∈l.map (·.2),x∈xs)->E' ao l=some vs->∃ us,BA F l=some us/\II D vs us
 |[],vs,_,ah=>by simp only[E']at ah;cases ah;exact⟨[],rfl,.nil⟩
 |(i,x)::l,vs,ay,ah=>by
  simp only[E']at ah;split at ah;·rename_i v vs aa ab;cases ah;obtain⟨u,aJ,a8⟩:=h.bF (ay x (by simp)) aa;obtain⟨us,a4,ba⟩:=jz.parts h (λy aH=>ay y (by simp only[bX,eg];exact .inr aH)) ab;refine⟨(i,u)::us,?_,.cons a8 ba⟩;show tt (dq F) ((i,x)::l)=_;rw[tt];have er:dC (dq F) x=.val u:=aJ;have rv:tt (dq F) l=some us:=a4;rw[er,rv]
  ·cases ah
end
inductive q'(D:bQ):List (aq×aq)->List MapEntry->Prop
 |nil:q' D [] []| cons {k v es e l} (ae:aT D k e.key) (ah:aT D v e.val) (t:q' D es l):q' D ((k,v)::es) (e::l)
def ie(n:Nat):Code->Bool
 | .seq x y=>ie n x&&ie n y| .block _ c=>ie n c| .cond _ x y=>ie n x&&ie n y| .loop c=>ie n c| .scope c=>ie n c| .region _ ops _=>xW n ops| .rangeFunc _ ps fp body=>ie n fp&&(ie n body&&ps.toList.all λt=>Nat.blt t n)| _=>true
structure aan(D:bQ)(busy:Bool)(n:Nat)(ao:be aq)(ps:List Nat)(fp body:Code)(L:Loop):Prop where
 aX:L.state=bif busy then .busy else .ready
 qG:L.pending=none
 sz:L.tmps.size=n
 ao:∀ t v,ao.get t=some v->aT D v (L.tmps.getD t undef)
 ps:L.params.toList=ps
 fp:L.assign=fp
 body:L.body=body
 yi:ie n L.assign=true
 nY:ie n L.body=true
 op:∀ t∈L.params.toList,t<n
inductive lT(D:bQ)(E:Env)(M:List aE)(a:Loc):fP->Prop
 |cells{cs:be aq}{T fQ:Nat}(arr:Array Value)(aK:a.o=0)(a':(⟨a.b,.cells arr T (0,0)⟩:aE)∈M)(ay:a.o+fQ<=arr.size)(an:∀ i v,i<fQ->cs.get i=some v->∃ x,arr[a.o+i]?=some x/\aT D v x)(ae:∀ i,E T=some i->arr.size=a.o+a.c*i.size)(hm:a.c<=maxLen):lT D E M a (.cells cs T fQ)| map {es:List (aq×aq)} (l:List MapEntry) (clock:Nat) (a':(⟨a.b,.map l.toArray clock⟩:aE)∈M) (he:q' D es l):lT D E M a (.map es)| loop {busy n ao ps fp body} (L:Loop) (a':(⟨a.b,.loop L⟩:aE)∈M) (cc:aan D busy n ao ps fp body L):lT D E M a (.loop busy n ao ps fp body)| done {c n ao ps fp body} (L:Loop) (a':(⟨a.b,.loop L⟩:aE)∈M) (au:L.state=.done) (aB:L.pending=some c):lT D E M a (.done c n ao ps fp body)
def q'.mono{D bC:bQ}(dk:D.le bC){es:List (aq×aq)}{l:List MapEntry}(h:q' D es l):q' bC es l:=by
 induction h with
 |nil=>exact .nil| cons ae ah t aF=>exact .cons (ae.mono dk) (ah.mono dk) aF
def lT.mono{D bC:bQ}{M':List aE}{a:Loc}(dk:D.le bC)(a':∀ x∈M,x.num=a.b->x∈M'){e:fP}(h:lT D E M a e):lT bC E M' a e:=by
 cases h with
 |cells arr az aa ab aj aG bx=>exact .cells arr az (a' _ aa rfl) ab (λi v hi av=>by obtain⟨x,a8,ba⟩:=aj i v hi av;exact⟨x,a8,ba.mono dk⟩) aG bx| map l clock aa ab=>exact .map l clock (a' _ aa rfl) (ab.mono dk)| loop L aa ab=>exact .loop L (a' _ aa rfl) { ab with ao:=λt v ax=>(ab.ao t v ax).mono dk }| done L aa ab aj=>exact .done L (a' _ aa rfl) ab aj
def IJ(G:GT)(I:aM):Prop:=∀ g cs,G g=some cs->∃ (arr:Array Value) (T:Nat) (f:Nat×Nat),I g=some (.cells arr T f)/\∀ i v,cs.get i=some v->∃ x,arr[i]?=some x/\∀ D,aT D v x
structure c8(Y:gP)(D:bQ)(m:br)(I:aM)(M:List aE):Prop where
 jb:∀ id e a,m.t.get id=some e->D id=some a->lT D Y.E M a e
 inj:∀ id jc e cQ a bO,m.t.get id=some e->m.t.get jc=some cQ->D id=some a->D jc=some bO->a.b=bO.b->id=jc
 j5:∀ id a,D id=some a->id<m.n
 q8:IJ Y.G I
section
variable{Y:gP}{D:bQ}{m:br}{I:aM}{M:List aE}{R:Type}
def w3(h:c8 Y D m I M){x:aq}{u:Value}(ad:aT D x u){n:Nat}{K:List aq->Option R}{r:R}(af:um Y.G m.t x n K=some r) :
  ∃ aU l vs,u=.pointer (some aU)/\cO I M aU n vs/\bL D l vs/\K l=some r:=by
 have key:∀ (arr:Array Value) (cS off:Nat) (l:List aq),l.length=n->cS+off+n<=arr.size->(∀ i,i<n->∀ v,l[i]?=some v->∃ x,arr[cS+off+i]?=some x/\aT D v x) ->
   ((arr.toList.drop (cS+off)).take n).length=n/\bL D l ((arr.toList.drop (cS+off)).take n):=by
  intro arr cS off l ay da av;have c1:((arr.toList.drop (cS+off)).take n).length=n:=by simp;omega
  refine⟨c1,bL.Si (by rw[c1,ay]) λi v hi=>?_⟩;have e8:i<n:=by rw[<-ay];exact(ij.1 hi).1
  obtain⟨x,aa,ab⟩:=av i e8 v hi;refine⟨x,?_,ab⟩;rw[lu,bN e8,od];simpa using aa
 unfold um at af;split at af
 ·rename_i id off;split at af
  ·rename_i cs T fQ av;cases ag:Nat.ble (Nat.add off n) fQ with
   |false=>rw[ag]at af;cases af
   |true=>
    rw[ag]at af;have jG:off+n<=fQ:=bI ag;simp only[cb]at af;obtain⟨l,aa,ab,aj⟩:=be.Fj cs n off K r af;obtain⟨a,a6,hu⟩:=ad.ptr;have he:=h.jb _ _ _ av a6;obtain⟨arr,-,a',ay,an,-,-⟩:=he;obtain⟨en,cE⟩:=key arr a.o off l aa (by omega) λi hi v ah=>by have:=an (off+i) v (by omega) (by rw[ab i hi,ah]);rw[<-tr]at this;exact this
    exact⟨_,l,_,hu,⟨rfl,arr,T,(0,0),.inr ⟨_,a',rfl,rfl⟩,rfl,en⟩,cE,aj⟩
  ·cases af
 ·rename_i g off;split at af
  ·rename_i cs av;obtain⟨l,aa,ab,aj⟩:=be.Fj cs n off K r af;obtain⟨arr,T,f,bz,an⟩:=h.q8 _ _ av;have hu:=ad.q8;have gU:∀ i,i<n->∀ v,l[i]?=some v->∃ x,arr[0+off+i]?=some x/\aT D v x:=λi hi v ah=>by obtain⟨x,a8,ba⟩:=an (off+i) v (by rw[ab i hi,ah]);exact⟨x,by simpa using a8,ba D⟩
   by_cases aC:n=0;·subst aC;have:l=[]:=iq aa;subst this;exact⟨_,[],[],hu,⟨rfl,arr,T,f,.inl bz,by simp,rfl⟩,.nil,aj⟩
   ·have da:0+off+n<=arr.size:=by
     have a1:n-1<l.length:=by omega
     obtain⟨x,a8,_⟩:=gU (n-1) (by omega) l[n-1] (db a1);have:=(l4.1 a8).1;omega
    obtain⟨en,cE⟩:=key arr 0 off l aa da gU;simp only[cX]at en cE;exact⟨_,l,_,hu,⟨rfl,arr,T,f,.inl bz,rfl,en⟩,cE,aj⟩
  ·cases af
 ·cases af
end
def al3{k:IntKind}(h:IntKind.m3 k e9=true):k=e9:=IntKind.D2 h
def MD(l m:List UInt8):decide ((⟨l.toArray⟩:ByteArray)=⟨m.toArray⟩)=decide (l=m):=by
 simp only[LZ];constructor
 ·intro h;simpa using h
 ·rintro rfl;rfl
def al4(a b:ByteArray):(a == b)=decide (a=b):=by
 rw[sC];simp only[hq];constructor
 ·intro h
  first | exact eq_of_beq h | exact wa (eq_of_beq (a:=a.data) (b:=b.data) h)
 ·rintro rfl
  first | exact GZ _ | exact GZ a.data
section
variable{P:Program}{E:Env}{D:bQ}
def ME(aQ:cU P E){o:Nat}{l:List aq}{x:aq}(h:Ap E t o l=some x){us:List Value}(ay:bL D l us):∃ u,aT D x u/\∀ w,(part t us.toArray o).run P w=.ok u w:=by
 unfold Ap at h;obtain⟨i,aa,h⟩:=cx h;obtain⟨az,h⟩:=Au h;have iG:i.size≠0:=λe=>by rw[e]at az;cases az
 obtain⟨r,ab,h⟩:=cx h;obtain⟨aJ,a4⟩:=aal ab;rw[IH]at aJ;have c1:=ay.len;subst aJ;refine⟨_,MB h ((ay.drop o).take _),λw=>?_⟩;have:=Pb (aQ _ _ aa) (cs:=us.toArray) (off:=o) (by rw[hT,tD]at a4;simp;omega) w;simpa using this
def Sm{F:Nat->aq->aq->Option Bool}{l m:List aq}{α β:Type}{pl:α->Nat×Nat}{g:α->β->Sem (ForInStep β)}{cC s1:β}{w:World}:∀ (L:List α) {b:Bool},CM F E l m (L.map pl)=some b -> (∀ a∈L,∀ x y c,Ap E (pl a).1 (pl a).2 l=some x->Ap E (pl a).1 (pl a).2 m=some y->F (pl a).1 x y=some c->(g a cC).run P w=.ok (if c then .yield cC else .done s1) w) -> (forIn L cC g).run P w=.ok (if b then cC else s1) w
 |[],b,h,_=>by cases h;simp[c3]
 |a::L,b,h,av=>by
  simp only[bX]at h;unfold CM at h;obtain⟨x,aa,h⟩:=cx h;obtain⟨y,ab,h⟩:=cx h;obtain⟨c,aj,h⟩:=cx h;simp only[List.forIn_cons,ct];rw[av a (by simp) x y c aa ab aj];rw[kT]at h;cases c with
  |true=>simp only[pO,bY];exact Sm L h λbO a6=>av bO (by simp[a6])
  |false=>cases h;simp[bY,c3]
def Sn(aQ:cU P E):∀ (d:Nat) {t:Nat} {x y:aq} {b:Bool} {u v:Value},yC P E d t x y=some b->aT D x u->aT D y v->∀ n,d<=n->∀ w,(Op.equalIn n t u v).run P w=.ok b w
 |0,t,x,y,b,u,v,h,ad,aH,n,aC,w=>by cases h
 |d+1,t,x,y,b,u,v,h,ad,aH,0,aC,w=>by omega
 |d+1,t,x,y,b,u,v,h,ad,aH,n+1,aC,w=>by
  unfold yC at h;obtain⟨i,hi,h⟩:=cx h;obtain⟨qJ,fM,og⟩:=(aQ _ _ hi).fx;rw[Op.equalIn];simp only[ct,run_underlying fM,bY];split at h
  ·rename_i a bO au _;cases h;have a8:qJ=.bool:=by cases qJ<;>simp_all[fw]
   subst a8;rw[ad.bool,aH.bool];rfl
  ·rename_i e9 k a cE bO au _;obtain⟨aJ,h⟩:=fZ h;cases h;have a8:qJ=.int e9:=by cases qJ<;>simp_all[fw]
   subst a8;rw[ad.int,aH.int];rw[al3 aJ];have ag:(a == bO)=s5 a bO:=by
    rw[CT];by_cases e:a=bO;·subst e;simp
    ·simp[e]
   simp[ag]
  ·rename_i a bO au _;cases h;have a8:qJ=.string:=by cases qJ<;>simp_all[fw]
   subst a8;rw[ad.str,aH.str];show Result.ok _ _=_;rw[Fk,<-MD];congr 1;exact al4 _ _
  ·rename_i cR l m au _;obtain⟨aJ,h⟩:=fZ h;unfold ZF at aJ;rw[fM]at aJ;cases qJ with
   |struct fields=>
    simp only[cz,tC,fi,hq]at aJ;obtain⟨aJ,a4⟩:=aJ;rw[au]at og;simp only[fw,GC.struct.injEq]at og;subst og;obtain⟨us,aa,rfl⟩:=ad.agg;obtain⟨ws,ab,rfl⟩:=aH.agg;simp only[ct,run_program,bY,aJ,lv,l6];rw[<-Array.forIn_toList];rw[Sm (P:=P) (s1:=⟨some false,⟨⟩⟩) fields.toList h (λf aA x y c w4 lU an=>by
     obtain⟨p,en,cE⟩:=ME aQ w4 aa;obtain⟨q,gD,mH⟩:=ME aQ lU ab;have aN:=Sn aQ d an en gD n (by omega) w;simp only[a4 f aA,pO,ne_eq,not_false_eq_true,ct,cE,mH,bY,aN];cases c<;>simp[c3])]
    cases b<;>simp[bY,c3]
   |_=>cases aJ
  ·rename_i len e l m au _;obtain⟨aI,hF,h⟩:=cx h;have a8:qJ=.array len e:=by cases qJ<;>simp_all[fw]
   subst a8;obtain⟨us,aa,rfl⟩:=ad.agg;obtain⟨ws,ab,rfl⟩:=aH.agg;simp only[ct,(aQ _ _ hF).run_sizeOf,bY,V5];have af:List.range' 0 ([:len]:Std.Legacy.Range).size=List.range len:=by simp[Std.Legacy.Range.size,xH]
   rw[af];rw[Sm (P:=P) (s1:=⟨some false,⟨⟩⟩) (List.range len) h (λf aA x y c w4 lU an=>by
    obtain⟨p,en,cE⟩:=ME aQ w4 aa;obtain⟨q,gD,mH⟩:=ME aQ lU ab;have aN:=Sn aQ d an en gD n (by omega) w;simp only[ct,cE,mH,bY,aN];cases c<;>simp[c3])]
   cases b<;>simp[bY,c3]
  ·cases h
end
section
variable{X:cV}{D:bQ}
def aao(aQ:cU X.P X.E){op:BinOp}{l m:List aq}{v:aq}{x:Operand}{us ws:List Value}{O:Prop}(h:Is X.P X.E op t l m=some v)(ay:bL D l us)(hm:bL D m ws)(ae:∀ u,aT D v u->K u) :
  gB X.P op t x y (.val (.agg us.toArray)) (.val (.agg ws.toArray)) K O:=by
 unfold Is at h;obtain⟨av,h⟩:=Au h;obtain⟨b,aa,h⟩:=cx h;have aN:=Sn (D:=D) aQ 8 aa (u:=.agg us.toArray) (v:=.agg ws.toArray) (by simp only[aT];exact⟨us,ay,rfl⟩) (by simp only[aT];exact⟨ws,hm,rfl⟩) Op.maxDepth (by decide);split at h
 ·cases h;refine .mk _ _ _ rfl rfl (λw=>?_) (ae _ (by simp only[aT];rfl));simp only[ct,run_eqGuard_agg (hm:=av),bY,binOp,Op.equal,aN,c3]
 ·cases h;refine .mk _ _ _ rfl rfl (λw=>?_) (ae _ (by simp only[aT];rfl));simp only[ct,run_eqGuard_agg (hm:=av),bY,binOp,Op.equal,aN,c3]
 ·cases h
end
def Fm(x y:Int):Int:=IntKind.u64.wrap ((BitVec.ofInt 64 x ||| BitVec.ofInt 64 y).toNat:Int)
def MF(x y:BitVec 64):Fm x.toNat y.toNat=((x ||| y).toNat:Int):=by unfold Fm;rw[L',L',Zo]
def So(x y:Int):Int:=IntKind.u64.wrap ((BitVec.ofInt 64 x &&& BitVec.ofInt 64 y).toNat:Int)
def al5(x y:BitVec 64):So x.toNat y.toNat=((x &&& y).toNat:Int):=by unfold So;rw[L',L',Zo]
def al6(x y:BitVec 64):s5 (x.toNat:Int) (y.toNat:Int)=decide (x=y):=by rw[CT,<-alE,sC];simp
def Fo(v:α)(x:R)(f:α->R):bn (some v) x f=f v:=rfl
def aap(a9 mid post:List Value)(k:Nat)(vs:List Value)(h:k+vs.length<=mid.length):ck (a9++(mid++post)) (a9.length+k) vs=a9++(ck mid k vs++post):=by
 unfold ck;have aa:(a9++(mid++post)).take (a9.length+k)=a9++mid.take k:=by rw[Ih,Nat.add_sub_cancel_left,fN (by omega),BO (by omega)]
 have ab:(a9++(mid++post)).drop (a9.length+k+vs.length)=mid.drop (k+vs.length)++post:=by rw[tr,V6,Rc h]
 rw[aa,ab];simp
def al7(f:α->List Value)(size:Nat)(aA:∀ x,(f x).length=size)(l:List α)(i:Nat)(hi:i<l.length)(k:Nat)(vs:List Value)(ae:k+vs.length<=size)(lz:α)(ad:ck (f l[i]) k vs=f lz) :
  ck (l.flatMap f) (i*size+k) vs=(l.set i lz).flatMap f:=by
 have e:l=l.take i++l[i]::l.drop (i+1):=by rw[<-e1 hi,rY]
 have aJ:l.flatMap f=(l.take i).flatMap f++(f l[i]++(l.drop (i+1)).flatMap f):=by
  calc l.flatMap f=(l.take i++l[i]::l.drop (i+1)).flatMap f:=congrArg _ e
   _=_:=by rw[hn,jT]
 have a4:((l.take i).flatMap f).length=i*size:=by rw[jm f size aA,Qp (by omega)]
 rw[aJ,<-a4,aap _ _ _ _ _ (by rw[aA];exact ae),D8,bN hi,hn,jT,ad]
def al8{aS:List Value}{j m:Nat}(h:j+vs.length<=m)(hm:m<=aS.length):(ck aS j vs).take m=ck (aS.take m) j vs:=by
 unfold ck;have aa:(aS.take m).take j=aS.take j:=by rw[BR,uL (by omega)]
 have ab:(aS.take m).drop (j+vs.length)=(aS.drop (j+vs.length)).take (m-(j+vs.length)):=by rw[G0]
 have aj:(aS.take j).length=j:=by rw[hT];omega
 rw[aa,ab,dY,dY,Ih,aj,fN (by omega),Ih,fN (by omega:vs.length<=m-j)];congr 3;omega
def aY.put(f:α->List Value)(size:Nat)(aA:∀ x,(f x).length=size){l:List α}{e:Nat}(h:os.ok size (l.flatMap f)){i:Nat}(hi:i<l.length)(k:Nat)(ae:k+vs.length<=size)(aa:gA vs=true)(lz:α)(ad:ck (f l[i]) k vs=f lz)(a9 post:List aE)(a':M=a9++(os.ar e++post)){g:Nat}(av:os.a=some g)(al9:off=i*size+k){K:List aE->Prop}
  (gl:∀ (bu:aY),bu.val=os.val->bu.a=os.a->bu.n=os.n->bu.ok size ((l.set i lz).flatMap f)->K (a9++(bu.ar e++post))):b8 M ⟨g,off,none⟩ vs K:=by
 have BF:=h.len;rw[jm f size aA]at BF;obtain⟨a,n,c,aS⟩:=os;have ay:l.length*size=n*size:=BF;simp only at av;subst av;obtain⟨dJ,eO,eJ,iN⟩:=h.cap g rfl;simp only at dJ eO eJ iN;have ag:n*size<=c*size:=v' _ eO;have iW:i*size+size<=l.length*size:=by have:=v' size (show i+1<=l.length from hi);rwa [l8,o2]at this
 subst a';subst al9;refine b8.mk a9 post aS.toArray e rfl rfl ?_ aa ?_
 ·simp only[oZ];omega
 ·have:=gl ⟨some g,n,c,ck aS (i*size+k) vs⟩ rfl rfl rfl ⟨?_,(λh=>by cases h),λdM av=>?_⟩
  ·simpa[aY.ar]using this
  ·rw[jm f size aA,n4];exact ay
  ·cases av;refine⟨?_,eO,eJ,?_⟩
   ·simp only[ck,b3,hT,tD];omega
   ·simp only;rw[al8 (by omega) (by omega),iN,al7 f size aA l i hi k vs ae lz ad]
def ama(l:List Value)(k:Nat)(v:Value)(h:k<l.length):ck l k [v]=l.set k v:=by rw[D8,bN h];simp[ck]
def aY.MG(f:α->List Value)(size:Nat)(aA:∀ x,(f x).length=size){l:List α}{e:Nat}(h:os.ok size (l.flatMap f)){i:Nat}(hi:i<l.length)(lz:α)(aa:gA (f lz)=true)(a9 post:List aE)(a':M=a9++(os.ar e++post))(bK:(os.a.map λg=>(⟨g,0,none⟩:Addr))=some aU){K:List aE->Prop}
  (gl:∀ (bu:aY),bu.val=os.val->bu.a=os.a->bu.n=os.n->bu.ok size ((l.set i lz).flatMap f)->K (a9++(bu.ar e++post))):b8 M (aU.add (i*size)) (f lz) K:=by
 obtain⟨g,av,rfl⟩:∃ g,os.a=some g/\aU=⟨g,0,none⟩:=by
  cases a6:os.a with
  |none=>rw[a6]at bK;cases bK| some g=>rw[a6]at bK;cases bK;exact⟨g,rfl,rfl⟩
 rw[eU (⟨g,0,none⟩:Addr) rfl];refine aY.put f size aA h hi 0 (vs:=f lz) (by rw[aA];omega) aa lz ?_ a9 post a' av (by simp) gl;unfold ck;simp[aA]
def aY.MH(f:α->List Value)(size:Nat)(aA:∀ x,(f x).length=size){l:List α}{e:Nat}(h:os.ok size (l.flatMap f)){i:Nat}(hi:i<l.length)(k:Nat)(ae:k+vs.length<=size)(aa:gA vs=true)(lz:α)(ad:ck (f l[i]) k vs=f lz)(a9 post:List aE)(a':M=a9++(os.ar e++post))(bK:(os.a.map λg=>(⟨g,0,none⟩:Addr))=some aU){K:List aE->Prop}
  (gl:∀ (bu:aY),bu.val=os.val->bu.a=os.a->bu.n=os.n->bu.ok size ((l.set i lz).flatMap f)->K (a9++(bu.ar e++post))):b8 M ((aU.add (i*size)).add k) vs K:=by
 obtain⟨g,av,rfl⟩:∃ g,os.a=some g/\aU=⟨g,0,none⟩:=by
  cases a6:os.a with
  |none=>rw[a6]at bK;cases bK| some g=>rw[a6]at bK;cases bK;exact⟨g,rfl,rfl⟩
 rw[eU (⟨g,0,none⟩:Addr) rfl,eU _ rfl];exact aY.put f size aA h hi k ae aa lz ad a9 post a' av (by simp) gl
def aaq(w:dx){k:Nat}(ae:k<64):IntKind.u64.wrap ((BitVec.ofInt 64 ((w.toNat:Int).fdiv (2^(min k 64))) &&& BitVec.ofInt 64 1).toNat:Int)=bif w.getLsbD k then 1 else 0:=by
 have aC:w.toNat<18446744073709551616:=w.isLt;have dd:min k 64=k:=by omega
 have aJ:(w.toNat:Int).fdiv (2^k)=((w.toNat/2^k:Nat):Int):=by rw[K6 _ (by exact Int.le_of_lt (Int.pow_pos (by decide)))];simp
 rw[dd,aJ];have a4:(BitVec.ofInt 64 ((w.toNat/2^k:Nat):Int) &&& BitVec.ofInt 64 1).toNat=w.toNat/2^k%2:=by
  have aa:BitVec.ofInt 64 ((w.toNat/2^k:Nat):Int)=BitVec.ofNat 64 (w.toNat/2^k):=(show ∀ m:Nat,BitVec.ofInt 64 (m:Int)=BitVec.ofNat 64 m from λm=>by simp) _;have ab:BitVec.ofInt 64 1=BitVec.ofNat 64 1:=by decide
  rw[aa,ab,La,LY,LY];have aj:w.toNat/2^k%2^64=w.toNat/2^k:=Rh (Nat.lt_of_le_of_lt (Nat.div_le_self _ _) aC);rw[aj,show 1%2^64=1 by decide,Nat.and_one_is_mod]
 rw[a4];have cn:IntKind.u64.wrap ((w.toNat/2^k%2:Nat):Int)=((w.toNat/2^k%2:Nat):Int):=by have:w.toNat/2^k%2<2:=Nat.mod_lt _ (by decide);unfold IntKind.wrap;simp only[IntKind.bits,IntKind.signed];simp;omega
 rw[cn];have dc:w.getLsbD k=w.toNat.testBit k:=rfl;rw[dc,Nat.testBit_eq_decide_div_mod_eq];have:w.toNat/2^k%2<2:=Nat.mod_lt _ (by decide);by_cases h:w.toNat/2^k%2=1
 ·rw[h];rfl
 ·have az:w.toNat/2^k%2=0:=by omega
  rw[az];rfl
def Sp{k:Nat}(ae:k<64):IntKind.u64.wrap (1*2^(min k 64))=((lR k).toNat:Int):=by
 have dd:min k 64=k:=by omega
 have aa:(2:Nat)^k<2^64:=Nat.pow_lt_pow_right (by decide) ae;have e:(lR k).toNat=2^k:=by unfold lR;rw[BitVec.toNat_shiftLeft];simp only[LY];rw[Nat.shiftLeft_eq,show 1%2^64=1 by decide,o2,Rh aa]
 rw[dd,e,Int.one_mul];have a4:((2:Int)^k)=((2^k:Nat):Int):=by simp
 rw[a4];unfold IntKind.wrap;simp only[IntKind.bits,IntKind.signed];simp;omega
def pz(w:dx):Value:=.int .u64 w.toNat
def aar{w:dx}{i:Nat}(a1:i<64)(ab:¬ IntKind.u64.wrap ((BitVec.ofInt 64 ((w.toNat:Int).fdiv (2^(min i 64))) &&& BitVec.ofInt 64 1).toNat:Int)=0):w.getLsbD i=true:=by
 have ag:=aaq w a1;cases av:w.getLsbD i with
 |true=>rfl| false=>rw[av]at ag;exact absurd ag ab
def aas{w:dx}{i:Nat}(a1:i<64)(ab:IntKind.u64.wrap ((BitVec.ofInt 64 ((w.toNat:Int).fdiv (2^(min i 64))) &&& BitVec.ofInt 64 1).toNat:Int)=0):w.getLsbD i=false:=by
 have ag:=aaq w a1;cases av:w.getLsbD i with
 |false=>rfl| true=>rw[av,ab]at ag;cases ag
def aat{a b:Int}(h:(!decide (a=b))=true):¬ a=b:=by simpa using h
def aau{a b:Int}(h:(!decide (a=b))=false):a=b:=by simpa using h
def aav(w:dx):Spec Tryz.prog 105 [.int .u64 w.toNat] I M0 λv I' M'=>I'=I/\∃ os:aY,os.ok 1 ((bitsOf w 64).map λn:Nat=>Value.int .i64 n)/\v=os.val/\M'=os.ar 3++M0:=by
 refine cg [] a7 Tryz.func105 rfl rfl rfl ?_;intro B az;refine dg.inv (ι:=Nat×aY) (λx=>{ bj:=[(0,.val (.int .u64 w.toNat)),(3,.val x.2.val),(5,.val (.int .i64 x.1))],cI:=I,de:=x.2.ar 3++M0 }) (λx=>x.1<=64/\x.2.ok 1 ((bitsOf w x.1).map λn:Nat=>Value.int .i64 n)) (λx=>64-x.1) ?_ ?_
 ·exact⟨(0,ib),⟨by simp,lM 1⟩,.refl,ht,.nil⟩
 rintro⟨i,os⟩⟨hi,bU⟩;simp only at hi bU;have jA:os.n<=64:=by have aa:=bU.len;rw[bE]at aa;have:=alK w i;omega
 refine a3.mk (λh=>?_) (λh=>?_)
 rotate_left
 ·have cJ:i=64:=by have:¬ (i:Int)<64:=eu h;omega
  rw[cJ]at bU;exact⟨_,_,.refl,rfl,os,bU,rfl,rfl⟩
 have a1:i<64:=by have:(i:Int)<64:=dB h;omega
 refine xL.mk i rfl ?_;refine a3.mk (λab=>?_) (λab=>?_)
 ·have hw:=aar (w:=w) a1 (aat ab);refine b'.mk λb9 lf vh=>?_;refine bB.pw a7 rfl (by simp) (e:=3) rfl rfl rfl os bU rfl (cs:=[.int .i64 i]) rfl rfl rfl [] M0 rfl (by omega) (by show(os.n+1)*8<=_;omega) ?_;intro kq oC et mA;refine bg.mk _ (cL (i:=i) (by omega)) ?_;refine⟨(i+1,kq),⟨⟨a1,?_⟩,by simp only;omega⟩,.refl,ht,.nil⟩;simp only;rw[Zx,hw,cP];exact mA
 ·have hw:=aas (w:=w) a1 (aau ab);refine bg.mk _ (cL (i:=i) (by omega)) ?_;refine⟨(i+1,os),⟨⟨a1,?_⟩,by simp only;omega⟩,.refl,ht,.nil⟩;simp only;rw[Zx,hw,b5,ed];exact bU
def Ay(w:dx):aq:=.i .u64 w.toNat
def aaw{e:Nat}(he:E e=some aI)(au:aI.size=1)(a6:aI.bM.agg=false)(P:List aq)(x:aq)(r:List aq):Ap E e (P.length*aI.size) (P++x::r)=some x:=by unfold Ap;rw[he,Fo,au,fa,IH,List.drop_left,a6];rfl
def aax{F:Nat->aq->aq->Option Bool}{E:Env}{e:Nat}{aI:dH}(he:E e=some aI)(au:aI.size=1)(a6:aI.bM.agg=false)(bG:∀ a b,F e (.i .u64 a) (.i .u64 b)=some (s5 a b)):∀ (l m:List dx) (Fp Fq:List aq),l.length=m.length->Fp.length=Fq.length -> CM F E (Fp++l.map Ay) (Fq++m.map Ay) ((List.range' Fp.length l.length).map λi=>(e,i*aI.size))=some (decide (l=m))
 |[],[],Fp,Fq,_,_=>rfl| [],_::_,_,_,h,_=>by simp at h
 |_::_,[],_,_,h,_=>by simp at h
 |a::l,b::m,Fp,Fq,h,aB=>by
  have aF:=aax he au a6 bG l m (Fp++[Ay a]) (Fq++[Ay b]) (by simpa using h) (by simpa using aB);rw[b3,p8,dY,dY,r',r']at aF;rw[c2,Gz,bX,bX,bX,CM,aaw he au a6,Fo,aB,aaw he au a6,Fo,<-aB];rw[show F e (Ay a) (Ay b)=some (decide (a=b)) by rw[<-al6];exact bG _ _,Fo,kT];by_cases aJ:a=b;·subst aJ;simp only[Ly,pO];rw[aF];simp
  ·simp[aJ]
def lp(m:List dx):List Value:=(List.range 64).map λi=>pz (m.getD i 0)
def MI{m:List dx}(h:m.length=64):lp m=m.map pz:=by
 unfold lp;apply lC
 ·simp[h]
 ·intro i aa ab;have:i<m.length:=by simpa using ab
  simp[bt,this]
def uq(m:List dx):(lp m).length=64:=by simp[lp]
def amb{x:Operand}{p q:List dx}(aB:p.length=64)(aN:q.length=64){V:Value->Prop}{other:Prop}(h:V (.bool (decide (p=q)))) :
  gB Tryz.prog .eql 156 x y (.val (.agg (lp p).toArray)) (.val (.agg (lp q).toArray)) V other:=by
 rw[MI aB,MI aN];have ah:∀ l:List dx,bL (λ_=>none) (l.map Ay) (l.map pz):=λl=>by
  induction l with
  |nil=>exact .nil| cons a l aF=>exact .cons (by simp only[Ay,pz,aT]) aF
 refine aao (X:=⟨Tryz.prog,qK,[],0,0,default,λ_=>none,[],none⟩) (D:=λ_=>none) (v:=.b (decide (p=q))) a7 ?_ (ah p) (ah q) (λu hu=>by simp only[aT]at hu;rw[hu];exact h);show Is Tryz.prog qK .eql 156 _ _=_;obtain⟨i1,aa,fz⟩:∃ i,qK 156=some i/\i.bM=.array 64 62:=⟨_,rfl,rfl⟩;obtain⟨i2,ab,iA,amc⟩:∃ i,qK 62=some i/\i.bM=.int .u64/\i.size=1:=⟨_,rfl,rfl,rfl⟩;have bG:∀ a b,yC Tryz.prog qK 7 62 (.i .u64 a) (.i .u64 b)=some (s5 a b):=λa b=>by simp only[yC,ab,Fo,iA];rfl
 have ae:=aax (F:=yC Tryz.prog qK 7) ab amc (by rw[iA];rfl) bG p q [] [] (by omega) rfl;unfold Is;rw[yC];simp only[aa,Fo,fz,ab];rw[iF,iF,fs,aB]at ae;rw[xH,ae,show Tryz.prog.eqGuardType Tryz.prog.depth 156=false by kernel_rfl];rfl
structure dV where
 n:Nat
 m:List dx
 w:dx
def dV.cells(s:dV):List Value:=.int .i64 s.n::(lp s.m++[pz s.w])
def dV.val(s:dV):Value:=.agg s.cells.toArray
def dV.amd(s:dV):Prop:=s.m.length=64/\s.n<=64
def w5(b:Nat)(m:List dx):aE:=⟨b,.cells (lp m).toArray 156 (0,0)⟩
def IK{b:Nat}{m:List dx}(a':w5 b m∈M):cO I M (⟨b,0,none⟩:Addr) 64 (lp m):=
 ⟨rfl,_,_,_,.inr ⟨_,a',rfl,rfl⟩,by simp only[wu];exact fN (by simp[uq]),uq m⟩
def aay{b:Nat}{m:List dx}(a':w5 b m∈M){j:Nat}(ai:j<64):cO I M ((⟨b,0,none⟩:Addr).add (j*1)) 1 [pz (m.getD j 0)]:=by rw[eU _ rfl];refine⟨rfl,_,_,_,.inr ⟨_,a',rfl,rfl⟩,?_,rfl⟩;simp only[cX,fa];rw[e1 (by simpa[lp]using ai),qB,rG];simp[lp]
def aaz(m:List dx)(hm:m.length=64)(j:Nat)(ai:j<64)(w:dx):ck (lp m) (0+j*1) [pz w]=lp (m.set j w):=by rw[MI hm,MI (by simpa using hm),cX,fa,ama _ _ _ (by simp[hm];exact ai),o1]
def oD(m:List dx)(i:Nat):List dx:=(List.range i).map (λq=>nB m 0 64 (m.getD q 0))++m.drop i
def aaA{m:List dx}(hm:m.length=64){i:Nat}(hi:i<=64):(oD m i).length=64:=by simp[oD,hm];omega
def ame{m:List dx}(hm:m.length=64){i:Nat}(hi:i<64):(oD m i).set i (m.getD i 0)=oD m i:=by
 unfold oD;have h:i<m.length:=by omega
 rw[HL _ _ (by simp)];simp only[bE,wU,p3];rw[e1 h,HN];simp[bt,h]
def amf{m:List dx}(hm:m.length=64){i:Nat}(hi:i<64):(oD m i).set i (nB m 0 64 (m.getD i 0))=oD m (i+1):=by
 unfold oD;have h:i<m.length:=by omega
 rw[HL _ _ (by simp)];simp only[bE,wU,p3];rw[e1 h,HN,Co,cP,dY];rfl
def aaB{m:List dx}(hm:m.length=64):oD m 64=sg m:=by unfold oD sg;rw[vt (by omega),ed]
def Az(m:List dx)(k:Nat):dx:=(List.range k).foldl (λw i=>w ||| ((m.getD i 0) &&& lR i)) 0
def amg(m:List dx)(k:Nat):Az m (k+1)=Az m k ||| (m.getD k 0 &&& lR k):=by unfold Az;rw[Co,r4];rfl
def amh{a b:Int}(h:a=b):zn (.val (.int .u64 a)) (.val (.int .u64 b)):=by subst h;exact .refl
def ami(m:List dx)(k:Nat):Fm (Az m k).toNat (So (m.getD k 0).toNat (lR k).toNat)=((Az m (k+1)).toNat:Int):=by rw[al5,MF,amg]
def amj{m:List dx}{k:Nat}{w:dx}(ae:k<64)(h:w.getLsbD k=true):nB m k (64-k) w=nB m (k+1) (64-(k+1)) (w ||| m.getD k 0):=by rw[show 64-k=(64-(k+1))+1 by omega,nB,h];rfl
def amk{m:List dx}{k:Nat}{w:dx}(ae:k<64)(h:w.getLsbD k=false):nB m k (64-k) w=nB m (k+1) (64-(k+1)) w:=by rw[show 64-k=(64-(k+1))+1 by omega,nB,h];rfl
def Sq{m:List dx}{i:Nat}(hi:i<m.length)(w:dx):(m.set i w).getD i 0=w:=by simp[bt,hi]
def aml(s:dV)(au:s.amd):Spec Tryz.prog 106 [s.val] I M0 λv I' M'=>I'=I/\M'=M0/\∃ b:dx,v=.int .u64 b.toNat/\∀ i,i<64->(b.getLsbD i=true ↔ q5 s.m i i):=by
 refine cg [1,3,4] a7 Tryz.func106 rfl rfl rfl ?_;intro B az;obtain⟨fz,iA⟩:=au;refine b'.mk λb1 hb Rk=>?_;refine aR.mk (lp s.m) ?_ ?_
 ·refine⟨rfl,_,_,_,.inr ⟨_,.head _,rfl,rfl⟩,?_,uq _⟩;show((s.cells).drop 1).take 64=_;rw[dV.cells,Ig,wu];exact qO (uq _)
 refine b'.mk λcw r6 aju=>?_;refine b8.sd [] _ _ _ rfl rfl rfl rfl (lp s.m) rfl ?_;refine dg.inv (ι:=List dx) (λm=>{ bj:=[(3,.val (ptr cw))],cI:=I,de:=w5 cw m::M0 }) (An s.m) Ao ?_ ?_
 ·exact⟨s.m,.start fz,.sub (.cons_cons _ (.cons _ (.refl _))) .refl,.cons .refl (.nil),.nil⟩
 intro m hm;have jq:=hm.len;refine aR.mk _ (IK (.head _)) ?_;refine b'.mk λhB IL awS=>?_;refine b8.sd [] _ _ _ rfl rfl rfl rfl (lp m) rfl ?_;refine dg.inv (ι:=Nat) (λi=>{ bj:=[(3,.val (ptr cw)),(4,.val (ptr hB)),(13,.val (.int .i64 i))],cI:=I,de:=w5 hB (oD m i)::(w5 cw m::M0) }) (λi=>i<=64) (λi=>64-i) ?_ ?_
 ·refine⟨0,dw _,.refl,ht,.nil⟩
 intro i hi;refine a3.mk (λh=>?_) (λh=>?_)
 rotate_left
 ·have cJ:i=64:=by have:¬ (i:Int)<64:=eu h;omega
  subst cJ;refine aR.mk _ (IK (.head _)) ?_;refine aR.mk _ (IK (.tail _ (.head _))) ?_;refine amb (aaA jq (b2 _)) jq ?_;rw[aaB jq];refine a3.mk (λhe=>?_) (λhe=>?_)
  ·have rH:sg m=m:=dB he;refine aR.mk _ (IK (.tail _ (.head _))) ?_;refine dg.inv (ι:=Nat) (λk=>{ bj:=[(7,.val (.int .u64 (Az m k).toNat)),(40,.val (.agg (lp m).toArray)),(41,.val (.int .i64 k))],cI:=I,de:=M0 }) (λk=>k<=64) (λk=>64-k) ?_ ?_
   ·exact⟨0,dw _,.sub (.cons _ (.cons _ (.refl _))) .refl,ht,.nil⟩
   intro k ae;refine a3.mk (λh=>?_) (λh=>?_)
   rotate_left
   ·have cJ:k=64:=by have:¬ (k:Int)<64:=eu h;omega
    subst cJ;exact⟨_,_,.refl,rfl,rfl,Az m 64,rfl,λi hi=>by rw[show Az m 64=Rz m from rfl,alJ m hi,hm.done rH hi hi]⟩
   have eS:k<64:=by have:(k:Int)<64:=dB h;omega
   clear h ae;have an:k=0\/k=1\/k=2\/k=3\/k=4\/k=5\/k=6\/k=7\/k=8\/k=9\/k=10\/k=11\/k=12\/k=13\/k=14\/k=15\/k=16\/k=17\/k=18\/k=19\/k=20\/k=21\/k=22\/k=23\/k=24\/k=25\/k=26\/k=27\/k=28\/k=29\/k=30\/k=31\/k=32\/k=33\/k=34\/k=35\/k=36\/k=37\/k=38\/k=39\/k=40\/k=41\/k=42\/k=43\/k=44\/k=45\/k=46\/k=47\/k=48\/k=49\/k=50\/k=51\/k=52\/k=53\/k=54\/k=55\/k=56\/k=57\/k=58\/k=59\/k=60\/k=61\/k=62\/k=63:=by omega
   rcases an with rfl | rfl | rfl | rfl | rfl | rfl | rfl | rfl | rfl | rfl | rfl | rfl | rfl | rfl | rfl | rfl | rfl | rfl | rfl | rfl | rfl | rfl | rfl | rfl | rfl | rfl | rfl | rfl | rfl | rfl | rfl | rfl | rfl | rfl | rfl | rfl | rfl | rfl | rfl | rfl | rfl | rfl | rfl | rfl | rfl | rfl | rfl | rfl | rfl | rfl | rfl | rfl | rfl | rfl | rfl | rfl | rfl | rfl | rfl | rfl | rfl | rfl | rfl | rfl
   all_goals
    refine eH.mk _ rfl eS ?_;refine xL.mk _ rfl ?_;refine bg.mk _ (Sp eS) ?_;refine bg.mk _ (cL (by omega)) ?_;exact⟨_,⟨eS,by omega⟩,.refl,.cons (amh (ami m _)) (uV),.nil⟩
  ·have rH:sg m≠m:=eu he;refine aR.mk _ (IK (.head _)) ?_;refine b8.sd [_] _ _ _ rfl rfl rfl rfl (lp (oD m 64)) rfl ?_;refine⟨sg m,⟨hm.next,alI jq rH⟩,.sub (.cons _ (.refl _)) (.pu ?_),.cons .refl (.nil),.nil⟩;rw[aaB jq];rfl
 have a1:i<64:=by have:(i:Int)<64:=dB h;omega
 have rQ:=aaA jq hi;refine dg.inv (ι:=Nat×dx) (λs=>{ bj:=[(3,.val (ptr cw)),(4,.val (ptr hB)),(5,.val (.int .i64 i)),(13,.val (.int .i64 i)),(16,.val (.int .i64 s.1))],cI:=I,de:=w5 hB ((oD m i).set i s.2)::(w5 cw m::M0) }) (λs=>s.1<=64/\nB m 0 64 (m.getD i 0)=nB m s.1 (64-s.1) s.2) (λs=>64-s.1) ?_ ?_
 ·refine⟨(0,m.getD i 0),⟨dw _,rfl⟩,.pu ?_,hv,.nil⟩;simp only;rw[ame jq a1]
 rintro⟨k,w⟩⟨ae,eK⟩;simp only at ae eK;refine a3.mk (λh=>?_) (λh=>?_)
 rotate_left
 ·have cJ:k=64:=by have:¬ (k:Int)<64:=eu h;omega
  subst cJ;have yz:nB m 0 64 (m.getD i 0)=w:=eK;refine bg.mk _ (cL (i:=i) (by omega)) ?_;refine⟨i+1,⟨a1,by omega⟩,.pu ?_,ht,.nil⟩;rw[<-amf jq a1,yz]
 have eS:k<64:=by have:(k:Int)<64:=dB h;omega
 have fc:((oD m i).set i w).length=64:=by rw[n4,rQ]
 have aaC:∀ {M:List aE},w5 hB ((oD m i).set i w)∈M->cO I M ((⟨hB,0,none⟩:Addr).add (i*1)) 1 [.int .u64 w.toNat]:=λa'=>by have:=aay (I:=I) a' a1;rwa [Sq (by omega) w]at this
 have sM:∀ {M:List aE},w5 cw m∈M->cO I M ((⟨cw,0,none⟩:Addr).add (k*1)) 1 [.int .u64 (m.getD k 0).toNat]:=λa'=>aay (I:=I) a' eS;refine eH.mk i rfl a1 ?_;refine aR.mk _ (aaC (.head _)) ?_;refine xL.mk k rfl ?_;refine a3.mk (λab=>?_) (λab=>?_)
 ·have hw:=aar (w:=w) eS (aat ab);refine c4.draw a7 rfl rfl rfl ?_;refine eH.mk i rfl a1 ?_;refine aR.mk _ (aaC (.head _)) ?_;refine eH.mk k rfl eS ?_;refine aR.mk _ (sM (.tail _ (.head _))) ?_;refine eH.mk i rfl a1 ?_;refine b8.iJ [] (w5 cw m::M0) (lp ((oD m i).set i w)) _ rfl ?_ rfl (lp ((oD m i).set i (w ||| m.getD k 0))) ?_ ?_
  ·rw[n5,uq];show 0+i*1+1<=64;omega
  ·show ck _ _ [Value.int .u64 (Fm w.toNat (m.getD k 0).toNat)]=_;rw[MF];have:=aaz ((oD m i).set i w) fc i a1 (w ||| m.getD k 0);rw[Lc]at this;exact this
  refine bg.mk _ (cL (i:=k) (by omega)) ?_;exact⟨(k+1,w ||| m.getD k 0),⟨⟨eS,by rw[eK,amj eS hw]⟩,by simp only;omega⟩,.refl,hv,.nil⟩
 ·have hw:=aas (w:=w) eS (aau ab);refine bg.mk _ (cL (i:=k) (by omega)) ?_;exact⟨(k+1,w),⟨⟨eS,by rw[eK,amk eS hw]⟩,by simp only;omega⟩,.refl,hv,.nil⟩
section
end
def vB(t:bP):Prop:=∀ n∈t.ns,n.aO<=3000000000000
abbrev dP(X:cV)(G:GT)(pr:mg):gP:=⟨X.P,X.E,G,pr⟩
section
variable{X:cV}{G:GT}{pr:mg}{D:bQ}{m:br}{F:Fr}{ao:be aq}{C:dF}{I:aM}{M:List aE}{V:dD->Prop}{O:Prop}
def pA{a b:α}(h:some a=some b):a=b:=by cases h;rfl
def amm{op:BinOp}{k:IntKind}{a b:Int}{v:aq}{O:Prop}(h:RF op k e9 a b=some v)(ae:∀ u,aT D v u->K u):l7 op c7 (.val (.int k a)) (.val (.int e9 b)) K O:=by
 have mk:∀ {q:aq} {u:Value},some q=some v->aT D q u->K u:=λe hu=>ae _ (pA e ▸ hu);unfold RF at h;split at h
 ·split at h
  ·rename_i j;refine⟨j,rfl,⟨_,rfl,mk h ?_⟩⟩;simp only[aT];rw[Av,al0,kT,aak]
  ·cases h
 ·split at h
  ·rename_i j;refine⟨j,rfl,mk h ?_⟩;simp only[aT];rw[al1,kT,aak]
  ·cases h
 all_goals obtain⟨aN,h⟩:=fZ h
 all_goals simp only[l7,aN,cb]
 ·exact⟨_,rfl,mk h (by simp only[aT];rw[Av,alV])⟩
 ·exact⟨_,rfl,mk h (by simp only[aT];rw[Av,alW])⟩
 ·exact⟨_,rfl,mk h (by simp only[aT];rw[Av,alX])⟩
 ·obtain⟨az,h⟩:=Au h;refine⟨λe=>?_,_,rfl,mk h (by simp only[aT];rw[Av,alY])⟩;rw[CT,e]at az;simp at az
 ·obtain⟨az,h⟩:=Au h;refine⟨λe=>?_,mk h (by simp only[aT];rw[alZ])⟩;rw[CT,e]at az;simp at az
 ·obtain⟨r,af,h⟩:=cx h;rw[Mw af];exact mk h (by simp only[aT])
 ·obtain⟨r,af,h⟩:=cx h;rw[Mw af];exact mk h (by simp only[aT])
 ·obtain⟨r,af,h⟩:=cx h;rw[Mw af];exact mk h (by simp only[aT])
 ·obtain⟨r,af,h⟩:=cx h;rw[Mw af];exact mk h (by simp only[aT])
 ·obtain⟨r,af,h⟩:=cx h;rw[alU]at af;have ah:v=.b r:=(pA h).symm;subst ah;have hg:K (.bool r):=ae _ (by simp only[aT]);cases op<;>first
   |contradiction|(rw[af];exact hg)
def Sr(b:Bool):b0 b false true=!b:=by cases b<;>rfl
def amn{op:BinOp}{a b:List UInt8}{v:aq}{x:Operand}{O:Prop}(h:RG op a b=some v)(ae:∀ u,aT D v u->K u) :
  l7 op c7 (.val (.string ⟨a.toArray⟩)) (.val (.string ⟨b.toArray⟩)) K (gB P op t x y (.val (.string ⟨a.toArray⟩)) (.val (.string ⟨b.toArray⟩)) K O):=by
 unfold RG at h;split at h
 ·cases h;refine ae _ ?_;simp only[aT];rw[MD,Fk]
 ·cases h;refine ae _ ?_;simp only[aT];rw[MD,Fk,Sr]
 ·obtain⟨ay,h⟩:=fZ h;cases h;have oh:=bI ay;refine gB.concat (by simpa[ByteArray.size]using oh) (ae _ ?_);simp only[aT];congr 1
 ·cases h
def amo{op:BinOp}{a b:Bool}{v:aq}{O:Prop}(h:RH op c7 a b=some v)(ae:∀ u,aT D v u->K u):l7 op c7 (.val (.bool a)) (.val (.bool b)) K O:=by
 unfold RH at h;split at h
 ·split at h
  ·cases h;exact ae _ (by simp only[aT])
  ·cases h;exact ae _ (by simp only[aT])
  ·cases h
 ·cases h
def amp{x:aq}{b:Bool}(h:RI x=some b){u:Value}(hu:aT D x u):∃ a n c,u=.slice a n c/\b=a.isNone:=by
 cases x<;>simp only[RI,j9,reduceCtorEq]at h<;>subst h<;>simp only[aT]at hu
 ·exact⟨_,_,_,hu,rfl⟩
 ·obtain⟨a,-,hu⟩:=hu;exact⟨_,_,_,hu,rfl⟩
 ·obtain⟨a,-,-,hu⟩:=hu;exact⟨_,_,_,hu,rfl⟩
 ·exact⟨_,_,_,hu,rfl⟩
 ·obtain⟨a,c,hu⟩:=hu;exact⟨_,_,_,hu,rfl⟩
def amq{x:aq}{b:Bool}(h:RJ x=some b){u:Value}(hu:aT D x u):∃ p,u=.pointer p/\b=p.isNone:=by
 cases x<;>simp only[RJ,j9,reduceCtorEq]at h<;>subst h<;>simp only[aT]at hu
 ·exact⟨_,hu,rfl⟩
 ·obtain⟨a,-,hu⟩:=hu;exact⟨_,hu,rfl⟩
 ·exact⟨_,hu,rfl⟩
def amr{e:Nat}(h:P.underlying t=some (.slice e))(a:Option Addr)(n c:Nat)(w:World):(Op.equal t (.slice a n c) (.slice none 0 0)).run P w=.ok a.isNone w:=by
 have key:∀ d,(Op.equalIn (d+1) t (.slice a n c) (.slice none 0 0)).run P w=.ok a.isNone w:=λd=>by cases a<;>simp[Op.equalIn,run_underlying h]
 exact key 9999
def ams{e:Nat}(h:P.underlying t=some (.pointer e))(p:Option Addr)(w:World):(Op.equal t (.pointer p) (.pointer none)).run P w=.ok p.isNone w:=by
 have key:∀ d,(Op.equalIn (d+1) t (.pointer p) (.pointer none)).run P w=.ok p.isNone w:=λd=>by cases p<;>simp[Op.equalIn,run_underlying h]
 exact key 9999
def aaD{op:BinOp}{b:Bool}{v:aq}{x:Operand}{p q:Value}(av:∀ w,op=.eql\/op=.neq->(eqGuard op t x y p q).run P w=.ok () w)(he:∀ w,(Op.equal t p q).run P w=.ok b w)(ag:∀ w,(binOp .eql t p q).run P w=.ok (.bool b) w)(aC:∀ w,(binOp .neq t p q).run P w=.ok (.bool (!b)) w)(h:Me op b=some v){O:Prop}(ae:∀ u,aT D v u->K u):gB P op t x y (.val p) (.val q) K O:=by
 unfold Me at h;split at h
 ·cases h;refine .mk p q (.bool b) rfl rfl (λw=>?_) (ae _ (by simp only[aT]));simp only[ct,av w (.inl rfl),bY,ag w]
 ·cases h;refine .mk p q (.bool (!b)) rfl rfl (λw=>?_) (ae _ (by simp only[aT]));simp only[ct,av w (.inr rfl),bY,aC w]
 ·cases h
def amt(aQ:cU X.P X.E){op:BinOp}{x y v:aq}{amu:Operand}{u:Value}{O:Prop}(h:RK X.P X.E op t x y=some v)(ad:aT D x u)(aH:aT D y w)(ae:∀ u,aT D v u->K u) :
  l7 op (X.E t) (.val u) (.val w) K (gB X.P op t p' amu (.val u) (.val w) K O):=by
 unfold RK at h;split at h
 ·rw[ad.int,aH.int];exact amm h ae
 ·rw[ad.str,aH.str];exact amn h ae
 ·rw[ad.bool,aH.bool];exact amo h ae
 ·obtain⟨us,aa,rfl⟩:=ad.agg;obtain⟨ws,ab,rfl⟩:=aH.agg;exact aao aQ h aa ab ae
 ·obtain⟨i,hi,h⟩:=cx h;split at h
  ·rename_i e og;obtain⟨b,aa,h⟩:=cx h;obtain⟨a,n,c,rfl,rfl⟩:=amp aa ad;simp only[aT]at aH;subst aH;obtain⟨d,fM,fu⟩:=(aQ _ _ hi).fx;have ab:d=.slice e:=by rw[og]at fu;cases d<;>simp_all[fw]
   subst ab;have he:=amr fM a n c;exact aaD (λw aK=>by rcases aK with rfl | rfl<;>(unfold eqGuard;rfl)) he (λw=>by simp only[binOp];simp[he w]) (λw=>by simp only[binOp];simp[he w]) h ae
  ·cases h
 ·obtain⟨i,hi,h⟩:=cx h;split at h
  ·rename_i e og;obtain⟨b,aa,h⟩:=cx h;obtain⟨p,rfl,rfl⟩:=amq aa ad;simp only[aT]at aH;subst aH;obtain⟨d,fM,fu⟩:=(aQ _ _ hi).fx;have ab:d=.pointer e:=by rw[og]at fu;cases d<;>simp_all[fw]
   subst ab;have he:=ams fM p;exact aaD (λw aK=>by rcases aK with rfl | rfl<;>(unfold eqGuard;rfl)) he (λw=>by simp only[binOp];simp[he w]) (λw=>by simp only[binOp];simp[he w]) h ae
  ·cases h
 ·cases h
variable(aQ:cU X.P X.E)(hm:c8 (dP X G pr) D m I M)
theorem Fs{v:aq}{n:Nat}(h:v.nat=some n):∃ k,v=.i k (.ofNat n):=by
 unfold aq.nat at h;split at h
 ·cases h;exact⟨_,rfl⟩
 ·cases h
theorem aaE{x v:aq}{n:Nat}{u:Value}(h:It x n=some v)(ad:aT D x u):∃ a,u=.pointer (some a)/\a.spot=none/\aT D v (.pointer (some (a.add n))):=by
 unfold It at h;split at h
 ·cases h;obtain⟨a,a6,rfl⟩:=ad.ptr;refine⟨_,rfl,rfl,?_⟩;rw[eU _ rfl];simp only[aT];exact⟨a,a6,by simp only[Ah,tr]⟩
 ·cases h;refine⟨_,ad.q8,rfl,?_⟩;rw[eU _ rfl];simp only[aT];rfl
 ·cases h
theorem amv{x v:aq}{j:Nat}{u:Value}(h:Mf x j sz=some v)(ad:aT D x u):∃ a n c,u=.slice (some a) n c/\j<n/\aT D v (.pointer (some (a.add (j*sz)))):=by
 unfold Mf at h;split at h
 ·cases ag:Nat.blt j _ with
  |false=>rw[ag]at h;cases h| true=>rw[ag]at h;cases h;obtain⟨a,a6,rfl⟩:=ad.s7;refine⟨_,_,_,rfl,bI ag,?_⟩;rw[eU _ rfl];simp only[aT];exact⟨a,a6,by simp only[Ah,EU,tr]⟩
 ·cases ag:Nat.blt j _ with
  |false=>rw[ag]at h;cases h| true=>rw[ag]at h;cases h;obtain⟨a,a6,_,rfl⟩:=ad.vA;refine⟨_,_,_,rfl,bI ag,?_⟩;rw[eU _ rfl];simp only[aT];exact⟨a,a6,by simp only[Ah,EU,tr]⟩
 ·cases ag:Nat.blt j _ with
  |false=>rw[ag]at h;cases h| true=>rw[ag]at h;cases h;refine⟨_,_,_,ad.Sj,bI ag,?_⟩;rw[eU _ rfl];simp only[aT];rfl
 ·cases h
theorem aaF{cs:List aq}{v:aq}{us:List Value}(h:Mh aI cs off=some v)(an:bL D cs us) :
  off+aI.size<=us.length/\aT D v (pack aI.bM.agg ((us.drop off).take aI.size)):=by
 unfold Mh at h;obtain⟨az,h⟩:=Au h;obtain⟨l,aa,ab⟩:=cx h;have iG:aI.size≠0:=λe=>by rw[e]at az;cases az
 obtain⟨rfl,ay⟩:=aal aa;rw[IH]at ab ay;refine⟨?_,MB ab ((an.drop off).take _)⟩;have:=an.len;simp at ay;omega
theorem aaG{i:Nat}{hr:dH}(h:Mg E t i=some (off,hr)):∃ a b z cR fy,E t=some ⟨a,b,z,.struct cR⟩/\cR[i]?=some (fy,off)/\E fy=some hr:=by
 unfold Mg at h;split at h
 ·rename_i a b z cR ax;split at h
  ·rename_i fy o aA;rw[Ax]at aA;split at h
   ·rename_i f q0;cases h;exact⟨_,_,_,_,fy,ax,aA,q0⟩
   ·cases h
  ·cases h
 ·cases h
theorem amw{r:Option Nat}(h:RN E t=some (r,aI)):(∃ a b z e,E t=some ⟨a,b,z,.slice e⟩/\E e=some aI/\r=none)\/∃ a b z n e,E t=some ⟨a,b,z,.array n e⟩/\E e=some aI/\r=some n:=by
 unfold RN at h;split at h
 ·rename_i a b z e ax;split at h
  ·cases h;exact .inl ⟨_,_,_,_,ax,by assumption,rfl⟩
  ·cases h
 ·rename_i a b z n e ax;split at h
  ·cases h;exact .inr ⟨_,_,_,_,_,ax,by assumption,rfl⟩
  ·cases h
 ·cases h
theorem amx{x i v:aq}{u:Value}(h:Iu X.E t (some x) (some i)=some v)(ad:aT D x u)(hi:aT D i w){ρ:Operand->dD}{gI:Operand}(Ss:dC ρ p'=.val u)(ir:dC ρ gI=.val w)
  (k:∀ x,gx D x v->V x):cH X (.index t p' gI) ρ C I M V O:=by
 unfold Iu at h;split at h
 ·rename_i l gX ax aa ab;cases aa;cases ab;obtain⟨j,ai,h⟩:=cx h;obtain⟨gl,rfl⟩:=Fs ai;have fv:RO l j=some v:=h;unfold RO at fv;obtain⟨b,ag,dZ⟩:=cx fv;cases dZ;rw[Ax]at ag;rw[ad.str]at Ss;rw[hi.int]at ir;have a1:=(ij.1 ag).1;simp only[cH,ax,Ss,ir];refine⟨j,rfl,by simpa[ByteArray.size]using a1,k _ (.val ?_)⟩;simp only[aT];have:(⟨l.toArray⟩:ByteArray)[j]'(by simpa[ByteArray.size]using a1)=b:=by have:=(ij.1 ag).2;show l.toArray[j]'_=b;simpa using this
  rw[this];rfl
 ·rename_i n e cs gX ax aa ab;cases aa;cases ab;obtain⟨aI,he,h⟩:=cx h;obtain⟨j,ai,h⟩:=cx h;obtain⟨gl,rfl⟩:=Fs ai;obtain⟨us,fL,rfl⟩:=ad.agg;unfold ZO at h;obtain⟨ag,h⟩:=fZ h;rw[cz]at ag;obtain⟨aj,aG⟩:=aaF h fL;rw[hi.int]at ir;simp only[cH,ax,Ss,ir,he];have da:Nat.beq (n*aI.size) us.toArray.size=true:=by have bx:=dR ag.1;rw[oZ,fL.len,<-bx];exact rq _
  rw[da];simp only[cb];exact⟨j,rfl,bI ag.2,k _ (.val aG)⟩
 ·cases h
theorem amy{x v:aq}{l:Nat}{h:Option Nat}{u:Value}(au:RL x sz l h=some v)(ad:aT D x u):∃ a n c,u=.slice a n c/\l<=h.getD n/\h.getD n<=c/\(h=none->l<=n) /\
  aT D v (.slice (if c=l then a else a.map (·.add (l*sz))) (h.getD n-l) (c-l)):=by
 unfold RL at au;split at au
 ·cases ag:(Nat.beq l 0&&Nat.beq (h.getD 0) 0)with
  |false=>rw[ag]at au;cases au| true=>rw[ag]at au;cases au;rw[cz]at ag;have aa:=dR ag.1;have ab:=dR ag.2;subst aa;refine⟨none,0,0,ad.CU,by omega,by omega,λ_=>by omega,?_⟩;rw[ab];simp[aT]
 ·rename_i id off n c;obtain⟨a,a6,rfl⟩:=ad.s7;simp only at au;cases ag:(Nat.ble l (h.getD n)&&Nat.ble (h.getD n) c)with
  |false=>rw[ag]at au;cases au
  |true=>
   rw[ag]at au;simp only[cb]at au;rw[cz]at ag;have aa:=bI ag.1;have ab:=bI ag.2;refine⟨_,n,c,rfl,aa,ab,λe=>by subst e;exact aa,?_⟩;rw[Sh]at au;by_cases e:c=l;·subst e;simp only[Ly,cb]at au;cases au;simp only[pO,aT];exact⟨a,a6,by simp only[EV,p3]⟩
   ·simp only[e,decide_false,b5]at au;cases au;simp only[e,l6,aT,lx];refine⟨a,a6,?_⟩;rw[eU _ rfl];simp only[Ah,EU,EV,tr]
 ·rename_i id off e n;obtain⟨a,a6,bq,rfl⟩:=ad.vA;simp only at au;cases ag:(Nat.ble l (h.getD n)&&Nat.ble (h.getD n) n)with
  |false=>rw[ag]at au;cases au
  |true=>
   rw[ag]at au;simp only[cb]at au;rw[cz]at ag;have aa:=bI ag.1;have ab:=bI ag.2;refine⟨_,n,a.c-e,rfl,aa,by omega,λe=>by subst e;exact aa,?_⟩;cases an:(Nat.beq l 0||Nat.blt l n)with
   |true=>
    rw[an]at au;simp only[cb]at au;cases au;rw[k6]at an;simp only[aT];refine⟨a,a6,by simp only[Ah,EV];omega,?_⟩;have aj:a.c-e-l=a.c-(e+l):=by omega
    by_cases az:l=0
    ·subst az;simp only[zw,Lx,lx,Ah,EU,EV,qt];split
     ·rfl
     ·rw[eU _ rfl];simp
    ·have aG:l<n:=by
      rcases an with an | an;·exact absurd (dR an) az
      ·exact bI an
     rw[bS (by omega)];simp only[lx];rw[eU _ rfl];simp only[Ah,EU,EV,tr,aj]
   |false=>
    rw[an]at au;simp only[b5]at au;cases au;rw[qN]at an;have aG:¬ l<n:=λa1=>by have:=CF (show l.succ<=n from a1);rw[show Nat.blt l n=Nat.ble l.succ n from rfl,this]at an;cases an.2
    have bx:h.getD n-l=0:=by omega
    simp only[aT,bx];split;·exact⟨_,_,rfl⟩
    ·exact⟨_,_,rfl⟩
 ·cases au
end
end Go.V
