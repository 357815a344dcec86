/- Part 5 of what the proofs of this seat share: the executor, data in memory, walks.
-/
import Derived.Test.YtmncamccjfmbpaaGreatDoorK4
import Derived.Test.YtmncamccjfmbpaaGreatDoorK2
import Derived.Laws.IdiomStrings
import Derived.Test.YtmncamccjfmbpaaGreatDoorK3
set_option linter.all false
set_option maxHeartbeats 8000000
set_option maxRecDepth 100000
namespace Go.V
open Go Go.Proofs
def pM:=@List.flatMap_singleton
def pN:=@List.length_singleton
def rW:=@List.singleton_append
def rX:=@List.pairwise_append
def va:=@List.drop_of_length_le
def x':=@List.length_flatMap
def ya:=@List.reverse_append
def wB:=@List.length_range
def yb:=@List.filter_append
def Ev:=@List.getElem_append_right
def Cf:=@Nat.ble_eq_true_of_le
def Cg:=@BitVec.getLsbD_or
def HQ:=@List.pairwise_flatMap
def Ew:=@Int.natCast_nonneg
def HR:=@List.drop_succ_cons
def Qz:=@List.drop_append_of_le_length
def Lo:=@List.getElem?_of_mem
def QA:=@List.pairwise_iff_getElem
def HS:=@List.take_append
def HT:=@List.countP_cons
def QB:=@List.getElem?_replicate
def QC:=@BitVec.eq_of_getLsbD_eq
def Lp:=@BitVec.toNat_ofNat
def zZ:=@Nat.add_eq
def Ex:=@Bool.or_true
def Lq:=@decide_eq_decide
def QD:=@BitVec.getLsbD_and
def Lr:=@List.foldl_nil
def Ey:=@Nat.mul_eq
def Ez:=@Nat.sub_eq
def QE:=@Nat.mod_eq_of_lt
def Ls:=@List.all_map
variable{I:aJ}{M M0:List aD}{ax:List Int}{g:cv}{t f src dst c' off sz:Nat}{α R:Type}{vs args xs:List Value}{K:Value->Prop}{y s pO:Operand}{c7:Option dG}{aF Lt:dG}{aS:Addr}{foot:List Nat}{P:Program}{E:Env}{eZ:IntKind}{os:aY}{w:Value}
def lV.mono{I':aJ}{a:Option Addr}{n:Nat}{ks:List aW}(h:lV I M a n ks)(bw:∀ b o,I b=some o->I' b=some o):lV I' M a n ks:=
 ⟨h.n,λj ai=>by
  obtain⟨aS,aa,ab⟩:=h.rd j ai;exact⟨aS,aa,ab.mono bw⟩⟩
def lV.sub{I:aJ}{M M':List aD}{a:Option Addr}{n:Nat}{ks:List aW}(h:lV I M a n ks)(a':∀ x∈M,x∈M'):lV I M' a n ks:=
 ⟨h.n,λj ai=>by
  obtain⟨aS,aa,ab⟩:=h.rd j ai;exact⟨aS,aa,ab.sub a'⟩⟩
def Lu{b:Nat}{l:List aW}(a':fM b l∈M):lV I M (some ⟨b,0,none⟩) l.length l:=
 ⟨rfl,λj ai=>⟨_,rfl,Er a' ai⟩⟩
def z0(g:cv)(bi:List aW)(t:bS):Option (List aW):=bif decide (bi.length=g.n)&&(right t&&wA (bD g.ds) t.ns)then some (en (bD g.ds) bi t.ns [])else none
def ajX(bu:ga I ax)(au:g.ok I){t:bS}(av:t.ok I){ly:Option Addr}{ln lc:Nat}{bi:List aW}(m8:lV I M0 ly ln bi) :
  Spec Tryz.prog 159 [g.val,.slice ly ln lc,t.val] I M0 λv I' M'=>(∀ b o,I b=some o->I' b=some o) /\
   ((z0 g bi t=none/\v=.tuple #[.slice none 0 0,.bool false]/\M'=M0)\/∃ r b,z0 g bi t=some r/\v=.tuple #[.slice (some ⟨b,0,none⟩) t.n t.n,.bool true]/\M'=fM b r::M0):=by
 refine cb [] a6 Tryz.func159 rfl rfl rfl ?_;intro B az;have fT:=au.n;have hD:=av.n;have jx:=av.a0.cap;have Yi:=m8.n;refine ct.mk (λh=>?_) (λh=>?_)
 rotate_left
 ·refine⟨_,_,.refl,λ_ _ h=>h,.inl ⟨?_,rfl,rfl⟩⟩;have bt:¬ (ln:Int)=(g.n:Int):=by simpa using h
  have:decide (bi.length=g.n)=false:=et (by omega);simp[z0,this]
 have rY:ln=g.n:=by
  have:(ln:Int)=(g.n:Int):=by simpa using h
  omega
 have ha:decide (bi.length=g.n)=true:=e9 (by omega);refine be.mk [] M0 _ (.refl _) (qt bu.c av) ?_;rintro v I1 M1 -⟨rfl,rfl,rfl⟩;refine a2.mk (λh=>?_) (λh=>?_)
 ·refine⟨_,_,.refl,λ_ _ h=>h,.inl ⟨?_,rfl,rfl⟩⟩;have:right t=false:=by simpa using h
  simp[z0,this]
 have af:right t=true:=by simpa using h
 refine be.mk [] M0 _ (.refl _) (X1 au) ?_;rintro v dI dq -⟨e4,rfl,hQ,rfl,EA⟩;have sN:=av.mono e4;refine di.inv (ι:=Nat) (λx=>{ bi:=[(1,.val (.slice ly ln lc)),(3,.ref 3 0),(5,.ref 5 0),(8,.val (.map (some hQ))),(27,.val (.slice t.a t.n t.c)),(28,.val (.int .i64 t.n)),(29,.val (.int .i64 x))],cl:=[(3,[.slice g.a g.n g.c]),(5,t.cells)],cD:=dI,c0:=M0 }) (λx=>x<=t.n/\∀ d∈t.ns.take x,(!decide (d.k=3)||(ez d.t (bD g.ds)).isSome)=true) (λx=>t.n-x) ?_ ?_
 ·exact⟨0,⟨dD _,λd ak=>by simp at ak⟩,.refl,ri,.cons rfl (.cons rfl .nil)⟩
 rintro i⟨hi,hv⟩;refine a2.mk (λh=>?_) (λh=>?_)
 ·have aX:i<t.n:=by have:(i:Int)<(t.n:Int):=dw h;omega
  have cj:i<t.ns.length:=by omega
  obtain⟨aS,bH,bl⟩:=sN.a0.row ao.cP aX cj;have m0:t.ns.take (i+1)=t.ns.take i++[t.ns[i]]:=gg cj;have eX:=br cj;have next:(!decide (t.ns[i].k=3)||(ez t.ns[i].t (bD g.ds)).isSome)=true->∀ d∈t.ns.take (i+1),(!decide (d.k=3)||(ez d.t (bD g.ds)).isSome)=true:=λh d ak=>by
   rw[m0]at ak;rcases cB.1 ak with ak | ak;·exact hv d ak
   ·simp only[ed]at ak;rw[ak];exact h
  refine bd.mk aS i bH rfl aX ?_;refine aM.mk _ (bl _) ?_;refine a2.mk (λaj=>?_) (λaj=>?_);·refine bg.mk _ (cL (i:=i) (by omega)) ?_;refine⟨i+1,⟨⟨by omega,next ?_⟩,by omega⟩,.refl,ri,.cons rfl (.cons rfl .nil)⟩;rw[show(!decide (t.ns[i].k=3))=true from aj];rfl
  ·refine bz.X0 a6 rfl (by simp) rfl rfl rfl rfl (λw=>Hn w) (l:=bD g.ds) (g:=hQ) rfl rfl (.inl EA) ?_;refine a2.mk (λaI=>?_) (λaI=>?_)
   ·refine⟨_,_,.refl,e4,.inl ⟨?_,rfl,rfl⟩⟩;have bB:wA (bD g.ds) t.ns=false:=by
     rw[wA,Kw];refine⟨_,eX,?_⟩;have b4:(ez t.ns[i].t (bD g.ds)).isSome=false:=by simpa using aI
     rw[b4,show(!decide (t.ns[i].k=3))=false from aj];simp
    simp[z0,bB]
   ·refine bg.mk _ (cL (i:=i) (by omega)) ?_;refine⟨i+1,⟨⟨by omega,next ?_⟩,by omega⟩,.refl,ri,.cons rfl (.cons rfl .nil)⟩;have b4:(ez t.ns[i].t (bD g.ds)).isSome=true:=by simpa using aI
    rw[b4];simp
 have cI:i=t.n:=by have:¬ (i:Int)<(t.n:Int):=ek h;omega
 rw[fA (by omega)]at hv;have ea:wA (bD g.ds) t.ns=true:=fy.2 hv;have EB:=Yg ea;rw[fT,<-rY]at EB;refine be.mk M0 [] _ perm_nil (X7 sN af EA (m8.mono e4) EB) ?_;rintro v h2 sA -⟨rfl,b,rfl,rfl⟩;rw[ee];exact⟨_,_,.refl,e4,.inr ⟨_,b,by rw[z0,ha,af,ea];rfl,rfl,rfl⟩⟩
structure wC(g:cv):Prop where
 n:g.ds.length=g.n
 right:∀ d∈g.ds,right d.t=true
 named:∀ d∈g.ds,wA (bD g.ds) d.t.ns=true
def Lv(aB:g.ds.length=g.n)(h:dz ax g=0):wC g:=by refine⟨aB,λd ak=>?_,ajV h⟩;have:=fy.1 (ajW h) d ak;simp only[normal,cz]at this;exact this.2.1
def ofM(b6 hQ eu gL b1:Nat)(g:cv)(l:List aW):List aD:=[⟨b6,.cells #[.map (some hQ)] 102 (0,0)⟩,⟨eu,.cells #[.slice (some ⟨gL,0,none⟩) g.n g.n] 223 (0,0)⟩,fM gL l,⟨b1,.cells #[.slice g.a g.n g.c] 24 (0,0)⟩]
def HU(a b c d:α):[a,b,c,d].Perm ([c]++[a,b,d]):=mw (l₁:=[a,b]) (l₂:=[d])
def ajY(x a b c d:α):[x,a,b,c,d].Perm ([c]++[x,a,b,d]):=mw (l₁:=[x,a,b]) (l₂:=[d])
def Lw{b:Nat}{f:aW}(a':(⟨b,.cells f.cells.toArray 270 (0,0)⟩:aD)∈M):cF I M (⟨b,0,none⟩:Addr) 3 f.cells:=⟨rfl,_,_,_,.inr ⟨_,a',rfl,rfl⟩,rfl,rfl⟩
def Yj{l:List aW}{i:Nat}(hi:i<l.length){x:aW}:Nat.ble (0+i*3+x.cells.length) (l.flatMap aW.cells).length=true:=by rw[nK,Cc,aW.cP];omega
def b2.rZ{a:Addr}{K:List aD->Prop}(a9 post:List aD)(cs:Array Value)(T:Nat)(a':M=a9++⟨a.block,.cells cs T (0,0)⟩::post)(ar:a.spot=none)(ag:Nat.ble (a.off+vs.length) cs.size=true)(aa:gv vs=true)(cs':List Value)(he:cm cs.toList a.off vs=cs')(k:K (a9++⟨a.block,.cells cs'.toArray T (0,0)⟩::post)):b2 M a vs K:=
 ⟨a9,post,cs,T,a',ar,bJ ag,aa,by rw[he];exact k⟩
def ajZ(au:g.ok I)(hm:wC g){b6 hQ eu gL b1:Nat}(EA:I hQ=some (jC (bD g.ds))){fs:List aW}(Bj:oY g.ds fs) :
  Spec Tryz.prog 198 [ptr b1,ptr b6,ptr eu] I (ofM b6 hQ eu gL b1 g fs) λv I' M'=>v=.bool (decide (nN (bD g.ds) 0 g.ds fs≠fs))/\I'=I/\M'=ofM b6 hQ eu gL b1 g (nN (bD g.ds) 0 g.ds fs):=by
 refine cb [] a6 Tryz.func198 rfl rfl rfl ?_;intro B az;have fT:=au.n;have jx:=au.a0.cap;have QF:∀ {M:List aD},(⟨b1,.cells #[.slice g.a g.n g.c] 24 (0,0)⟩:aD)∈M->cF I M ((⟨b1,0,none⟩:Addr).add 0) 1 [.slice g.a g.n g.c]:=λa'=>c4 (cs:=[.slice g.a g.n g.c]) (k:=0) (n:=1) a' (by simp);have aj0:∀ {M:List aD},(⟨b6,.cells #[.map (some hQ)] 102 (0,0)⟩:aD)∈M->cF I M (⟨b6,0,none⟩:Addr) 1 [.map (some hQ)]:=λa'=>⟨rfl,_,_,_,.inr ⟨_,a',rfl,rfl⟩,rfl,rfl⟩;have HV:∀ {M:List aD},(⟨eu,.cells #[.slice (some ⟨gL,0,none⟩) g.n g.n] 223 (0,0)⟩:aD)∈M->cF I M (⟨eu,0,none⟩:Addr) 1 [.slice (some ⟨gL,0,none⟩) g.n g.n]:=λa'=>⟨rfl,_,_,_,.inr ⟨_,a',rfl,rfl⟩,rfl,rfl⟩;refine aM.mk _ (QF (by simp[ofM])) ?_;refine di.inv (ι:=Nat×List aW) (λx=>{ bi:=[(0,.val (ptr b1)),(1,.val (ptr b6)),(2,.val (ptr eu)),(4,.val (.bool (decide (x.2≠fs)))),(9,.val (.slice g.a g.n g.c)),(10,.val (.int .i64 g.n)),(11,.val (.int .i64 x.1))],cD:=I,c0:=ofM b6 hQ eu gL b1 g x.2 }) (λx=>x.1<=g.n/\oY g.ds x.2/\eC fs x.2/\nN (bD g.ds) 0 g.ds fs=nN (bD g.ds) x.1 (g.ds.drop x.1) x.2) (λx=>g.n-x.1) ?_ ?_
 ·refine⟨(0,fs),⟨dD _,Bj,eC.refl _,rfl⟩,.refl,.cons .refl (.cons .refl (.cons .refl (.cons ?_ (hl)))),.nil⟩;exact Ln (by simp)
 rintro⟨i,l⟩⟨hi,n9,bm,eA⟩;simp only at hi n9 bm eA;have gX:=n9.len;refine a2.mk (λh=>?_) (λh=>?_)
 rotate_left
 ·have cI:i=g.n:=by have:¬ (i:Int)<(g.n:Int):=ek h;omega
  rw[kr (by omega),nN]at eA;exact⟨_,_,.refl,by rw[eA],rfl,by rw[eA]⟩
 have aX:i<g.n:=by have:(i:Int)<(g.n:Int):=dw h;omega
 have cj:i<g.ds.length:=by omega
 have dM:i<l.length:=by omega
 obtain⟨aS,bH,bl⟩:=au.a0.row aP.cP aX cj;have gz:=br cj;have ak:=au.ds _ gz;have af:=hm.right _ gz;have EB:=Yg (hm.named _ gz);rw[show g.ds.length=l.length from gX.symm]at EB;obtain⟨tU,kP⟩:=n9.step cj;have yc:nN (bD g.ds) 0 g.ds fs=nN (bD g.ds) (i+1) (g.ds.drop (i+1)) (l.set i (iq (bD g.ds) l g.ds[i])):=by rw[eA,eV cj,nN]
 have HW:iq (bD g.ds) l g.ds[i]=(en (bD g.ds) l g.ds[i].t.ns []).getD g.ds[i].t.bn.toNat bZ:=rfl;generalize iq (bD g.ds) l g.ds[i]=f at tU kP yc HW;generalize g.ds[i]=d at bl ak af EB HW;have tA:=qw af;have hD:=ak.t.n;have ry:=HL (bD g.ds) l d.t.ns [];simp only[fS,c8]at ry;have fv:d.t.bn.toNat<(en (bD g.ds) l d.t.ns []).length:=by omega
 have vS:(en (bD g.ds) l d.t.ns [])[d.t.bn.toNat]=f:=by rw[HW];simp[bA,fv]
 have QG:=X7 (M0:=[fM gL l]) (ln:=l.length) (lc:=g.n) ak.t af EA (Lu (I:=I) (ed.2 rfl)) EB;rw[show l.length=g.n by omega]at QG;refine bd.mk aS i bH rfl aX ?_;refine aM.mk _ (bl _) ?_;have aj1:l.getD i bZ=l[i]:=by simp[bA,dM]
 have more:(!decide (f=l[i]))=true->decide (l.set i f≠fs)=true:=λh=>by
  have bt:f≠l[i]:=by simpa using h
  rw[hV];intro e;have a7:l.set i f=l:=by refine eC.antisymm ?_ kP;rw[e];exact bm
  have aj:=HP l i i f dM;rw[a7,bN rfl,aj1]at aj;exact bt aj.symm
 have same:(!decide (f=l[i]))=false->l.set i f=l:=λh=>by
  have he:f=l[i]:=by simpa using h
  rw[he];exact List.set_getElem_self dM
 refine cV.draw a6 rfl rfl rfl ?_;refine aM.mk _ (aj0 (by simp[ofM])) ?_;refine aM.mk _ (HV (by simp[ofM])) ?_;refine⟨?_,?_⟩
 ·refine d'.oE [fM gL l] [⟨b6,.cells #[.map (some hQ)] 102 (0,0)⟩,⟨eu,.cells #[.slice (some ⟨gL,0,none⟩) g.n g.n] 223 (0,0)⟩,⟨b1,.cells #[.slice g.a g.n g.c] 24 (0,0)⟩] _ (HU ..) QG (λv I' M' h x ad=>by obtain⟨-,b,-,rfl⟩:=h;exact .tail _ ad) ?_;rintro v dI dq -⟨rfl,b,rfl,rfl⟩;refine bd.mk ⟨b,0,none⟩ d.t.bn.toNat rfl (by omega) (by omega) ?_;refine aM.mk _ (Er (.head _) fv) ?_;rw[vS];refine bX.mk λb7 yd Lx=>?_;refine b2.rZ [] [fM b (en (bD g.ds) l d.t.ns []),fM gL l,⟨b6,.cells #[.map (some hQ)] 102 (0,0)⟩,⟨eu,.cells #[.slice (some ⟨gL,0,none⟩) g.n g.n] 223 (0,0)⟩,⟨b1,.cells #[.slice g.a g.n g.c] 24 (0,0)⟩] _ _ rfl rfl rfl rfl f.cells rfl ?_;refine cV.draw a6 rfl rfl rfl ?_;refine aM.mk f.cells (Lw (by simp)) ?_;refine aM.mk _ (HV (by simp)) ?_;refine bd.mk ⟨gL,0,none⟩ i rfl rfl aX ?_;refine aM.mk _ (Er (by simp) dM) ?_;refine gw.XV (p:=f) (q:=l[i]) ?_;refine a2.mk (λh=>?_) (λh=>?_)
  ·refine aM.mk _ (HV (by simp)) ?_;refine aM.mk f.cells (Lw (by simp)) ?_;refine bd.mk ⟨gL,0,none⟩ i rfl rfl aX ?_;refine b2.iC [(⟨b7,.cells f.cells.toArray 270 (0,0)⟩:aD),fM b (en (bD g.ds) l d.t.ns [])] [⟨b6,.cells #[.map (some hQ)] 102 (0,0)⟩,⟨eu,.cells #[.slice (some ⟨gL,0,none⟩) g.n g.n] 223 (0,0)⟩,⟨b1,.cells #[.slice g.a g.n g.c] 24 (0,0)⟩] (l.flatMap aW.cells) _ rfl (Yj dM) rfl ((l.set i f).flatMap aW.cells) (by rw[c8];exact Qt l i dM f) ?_;refine bg.mk _ (cL (i:=i) (by omega)) ?_;refine⟨(i+1,l.set i f),⟨⟨by simp only;omega,tU,bm.trans kP,yc⟩,by simp only;omega⟩,.sub (M1:=[fM gL (l.set i f),⟨b6,.cells #[.map (some hQ)] 102 (0,0)⟩,⟨eu,.cells #[.slice (some ⟨gL,0,none⟩) g.n g.n] 223 (0,0)⟩,⟨b1,.cells #[.slice g.a g.n g.c] 24 (0,0)⟩]) (by exact .cons _ (.cons _ (.refl _))) (.perm (HU ..).symm .refl),.cons .refl (.cons .refl (.cons .refl (.cons (Ln (more h).symm) (hl)))),.nil⟩
  ·have he:l.set i f=l:=same h;rw[he]at yc;refine bg.mk _ (cL (i:=i) (by omega)) ?_;exact⟨(i+1,l),⟨⟨by simp only;omega,n9,bm,yc⟩,by simp only;omega⟩,.sub (M1:=[fM gL l,⟨b6,.cells #[.map (some hQ)] 102 (0,0)⟩,⟨eu,.cells #[.slice (some ⟨gL,0,none⟩) g.n g.n] 223 (0,0)⟩,⟨b1,.cells #[.slice g.a g.n g.c] 24 (0,0)⟩]) (by exact .cons _ (.cons _ (.refl _))) (.perm (HU ..).symm .refl),ri,.nil⟩
 ·refine bX.mk λb7 yd Lx=>?_;refine d'.oE [fM gL l] [(⟨b7,.cells bZ.cells.toArray 270 (0,0)⟩:aD),⟨b6,.cells #[.map (some hQ)] 102 (0,0)⟩,⟨eu,.cells #[.slice (some ⟨gL,0,none⟩) g.n g.n] 223 (0,0)⟩,⟨b1,.cells #[.slice g.a g.n g.c] 24 (0,0)⟩] _ (ajY ..) QG (λv I' M' h x ad=>by obtain⟨-,b,-,rfl⟩:=h;exact .tail _ ad) ?_;rintro v dI dq -⟨rfl,b,rfl,rfl⟩;refine bd.mk ⟨b,0,none⟩ d.t.bn.toNat rfl (by omega) (by omega) ?_;refine aM.mk _ (Er (.head _) fv) ?_;rw[vS];refine b2.rZ [fM b (en (bD g.ds) l d.t.ns []),fM gL l] [⟨b6,.cells #[.map (some hQ)] 102 (0,0)⟩,⟨eu,.cells #[.slice (some ⟨gL,0,none⟩) g.n g.n] 223 (0,0)⟩,⟨b1,.cells #[.slice g.a g.n g.c] 24 (0,0)⟩] _ _ rfl rfl rfl rfl f.cells rfl ?_;refine cV.draw a6 rfl rfl rfl ?_;refine aM.mk f.cells (Lw (by simp)) ?_;refine aM.mk _ (HV (by simp)) ?_;refine bd.mk ⟨gL,0,none⟩ i rfl rfl aX ?_;refine aM.mk _ (Er (by simp) dM) ?_;refine gw.XV (p:=f) (q:=l[i]) ?_;refine a2.mk (λh=>?_) (λh=>?_)
  ·refine aM.mk _ (HV (by simp)) ?_;refine aM.mk f.cells (Lw (by simp)) ?_;refine bd.mk ⟨gL,0,none⟩ i rfl rfl aX ?_;refine b2.iC [fM b (en (bD g.ds) l d.t.ns [])] [(⟨b7,.cells f.cells.toArray 270 (0,0)⟩:aD),⟨b6,.cells #[.map (some hQ)] 102 (0,0)⟩,⟨eu,.cells #[.slice (some ⟨gL,0,none⟩) g.n g.n] 223 (0,0)⟩,⟨b1,.cells #[.slice g.a g.n g.c] 24 (0,0)⟩] (l.flatMap aW.cells) _ rfl (Yj dM) rfl ((l.set i f).flatMap aW.cells) (by rw[c8];exact Qt l i dM f) ?_;refine bg.mk _ (cL (i:=i) (by omega)) ?_;refine⟨(i+1,l.set i f),⟨⟨by simp only;omega,tU,bm.trans kP,yc⟩,by simp only;omega⟩,.sub (M1:=[fM gL (l.set i f),⟨b6,.cells #[.map (some hQ)] 102 (0,0)⟩,⟨eu,.cells #[.slice (some ⟨gL,0,none⟩) g.n g.n] 223 (0,0)⟩,⟨b1,.cells #[.slice g.a g.n g.c] 24 (0,0)⟩]) (by exact .cons _ (.cons_cons _ (.cons _ (.refl _)))) (.perm (HU ..).symm .refl),.cons .refl (.cons .refl (.cons .refl (.cons (Ln (more h).symm) (hl)))),.nil⟩
  ·have he:l.set i f=l:=same h;rw[he]at yc;refine bg.mk _ (cL (i:=i) (by omega)) ?_;exact⟨(i+1,l),⟨⟨by simp only;omega,n9,bm,yc⟩,by simp only;omega⟩,.sub (M1:=[fM gL l,⟨b6,.cells #[.map (some hQ)] 102 (0,0)⟩,⟨eu,.cells #[.slice (some ⟨gL,0,none⟩) g.n g.n] 223 (0,0)⟩,⟨b1,.cells #[.slice g.a g.n g.c] 24 (0,0)⟩]) (by exact .cons _ (.cons_cons _ (.cons _ (.refl _)))) (.perm (HU ..).symm .refl),ri,.nil⟩
def aj2(bu:ga I ax)(au:g.ok I):Spec Tryz.prog 158 [g.val] I [] λv I' M'=>(∀ b o,I b=some o->I' b=some o) /\
  ((dz ax g≠0/\v=.tuple #[.slice none 0 0,.int .i64 (dz ax g)]/\M'=[])\/(dz ax g=0/\∃ b l,v=.tuple #[.slice (some ⟨b,0,none⟩) g.n g.n,.int .i64 0]/\M'=[fM b l]/\jO g.ds l)):=by
 refine cb [1,5,6] a6 Tryz.func158 rfl rfl rfl ?_;intro B az;have fT:=au.n;have jx:=au.a0.cap;refine bX.mk λb1 ho QH=>?_;refine aM.mk [.slice g.a g.n g.c] ⟨rfl,_,_,_,.inr ⟨_,.head _,rfl,rfl⟩,rfl,rfl⟩ ?_;refine be.mk [] [⟨b1,.cells #[.slice g.a g.n g.c] 24 (0,0)⟩] _ (.refl _) (PS bu au) ?_;rintro v I1 M1 -⟨rfl,cH,rfl⟩;refine a2.mk (λh=>?_) (λh=>?_)
 ·have hm:dz ax g≠0:=by simpa using h
  exact⟨_,_,.sub (fO _) .refl,cH,.inl ⟨hm,rfl,rfl⟩⟩
 have hm:dz ax g=0:=by simpa using h
 have a':=Lv fT hm;refine aM.mk _ (c4 (b:=b1) (cs:=[.slice g.a g.n g.c]) (k:=0) (n:=1) (T:=24) (.head _) (by simp)) ?_;refine mO.mk g.n g.n rfl rfl (ca _) (by show 3*g.n<=_;omega) (by omega) ?_;refine bX.mk λgL mf avc=>?_;have e:rowOf bZ.cells (g.n*3)=(List.replicate g.ds.length bZ).flatMap aW.cells:=by rw[fT];exact X6 g.n
 refine bX.mk λeu Ee KZ=>?_;refine b2.rZ [] _ _ _ rfl rfl rfl rfl [.slice (some ⟨gL,0,none⟩) g.n g.n] rfl ?_;refine aM.mk [.slice g.a g.n g.c] ⟨rfl,_,_,_,.inr ⟨_,.tail _ (.tail _ (.head _)),rfl,rfl⟩,rfl,rfl⟩ ?_;refine be.mk [] _ _ (.refl _) (X1 (au.mono cH)) ?_;rintro v dI dq -⟨e4,rfl,hQ,rfl,EA⟩;refine bX.mk λb6 B0 PG=>?_;refine b2.rZ [] _ _ _ rfl rfl rfl rfl [.map (some hQ)] rfl ?_;refine di.inv (ι:=List aW) (λl=>{ bi:=[(5,.val (ptr eu)),(7,.val (.func (.func 198) #[] #[ptr b1,ptr b6,ptr eu]))],cD:=dI,c0:=ofM b6 hQ eu gL b1 g l }) (oY g.ds) zY ?_ ?_
 ·refine⟨List.replicate g.ds.length bZ,.start g.ds,?_,xH,.nil⟩;simp only[ofM,fM];rw[<-e];exact .refl
 intro l ay;refine be.mk (ofM b6 hQ eu gL b1 g l) [] _ (.refl _) (ajZ ((au.mono cH).mono e4) a' EA ay) ?_;rintro v h2 sA -⟨rfl,rfl,rfl⟩;obtain⟨iT,n7,-⟩:=Qw g.ds [] rfl ay;refine a2.mk (λh=>?_) (λh=>?_)
 ·exact⟨_,⟨iT,ajT n7 (dw h)⟩,.refl,xH,.nil⟩
 ·have aA:nN (bD g.ds) 0 g.ds l=l:=by have:=ek h;exact Classical.not_not.1 this
  rw[aA];refine aM.mk [.slice (some ⟨gL,0,none⟩) g.n g.n] ⟨rfl,_,_,_,.inr ⟨_,.tail _ (.head _),rfl,rfl⟩,rfl,rfl⟩ ?_;refine⟨h2,[fM gL l],.sub (.cons _ (.cons _ (.cons_cons _ (fO _)))) .refl,λb o h=>e4 _ _ (cH _ _ h),.inr ⟨hm,gL,l,rfl,rfl,ay.done aA⟩⟩
def bS.a1(t:bS):bS:=⟨t.ns.map ao.a1,none,t.n,0,t.bn⟩
def aP.a1(d:aP):aP:=⟨d.name,d.t.a1⟩
def cv.a1(g:cv):cv:=⟨g.ds.map aP.a1,none,g.n,0⟩
def Yk:∀ (ds:List ao) (i:Nat) (s:List Bool),jw i (ds.map ao.a1) s=jw i ds s
 |[],i,s=>rfl| d::ds,i,s=>by have h:∀ b3,jw (i+1) (ds.map ao.a1) b3=jw (i+1) ds b3:=λb3=>Yk ds (i+1) b3;rw[b0,jw,jw];simp only[h];rfl
def ye(t:bS):right t.a1=right t:=by unfold right bS.a1;simp only[Yk,bI]
def Yl(ns:List ao)(k:Int):iG (ns.map ao.a1) k=iG ns k:=by unfold iG;rw[gA];rfl
def Ym(ns:List ao)(kind:Int):∀ ks,kA (ns.map ao.a1) kind ks=kA ns kind ks
 |[]=>rfl| k::ks=>by rw[kA,kA,Yl,Ym ns kind ks]
def Yn(ns:List ao):∀ ds:List ao,kZ (ns.map ao.a1) (ds.map ao.a1)=kZ ns ds
 |[]=>rfl| d::ds=>by have h:=Ym ns d.k d.aw;rw[b0,kZ,kZ,Yn ns ds];show(bif !decide (d.k=4) && !decide (d.k=5)then kZ ns ds else bif kA (ns.map ao.a1) d.k d.aw then kZ ns ds else false)=_;rw[h]
def aj3(t:bS):normal t.a1=normal t:=by unfold normal;rw[ye];congr 1;exact Yn t.ns t.ns
def Yo:∀ (ds:List ao) (i:Nat) (g1:List Int),wc i (ds.map ao.a1) g1=wc i ds g1
 |[],i,g1=>rfl| d::ds,i,g1=>by rw[b0,wc,wc,Yo ds];rfl
def aj4(t:bS):depth t.a1=depth t:=by unfold depth;rw[ye];simp only[bS.a1,Yo,bI]
def aj5(t:bS):pD t.a1=pD t:=by unfold pD;rw[ye,aj4];rfl
def HX{α:Type}{z:α}{f g:ao->(Int->α)->α}(h:∀ d q,f d.a1 q=g d q):∀ (ds:List ao) (a5:List α),gI z f (ds.map ao.a1) a5=gI z g ds a5
 |[],a5=>rfl| d::ds,a5=>by rw[b0,gI,gI,h,HX h ds]
def aj6(ax:List Int)(ns:List ao)(k:Int):kY ax (ns.map ao.a1) k=kY ax ns k:=by unfold kY ml;rw[HX (g:=D' ax ns) (λd q=>?_)];show rJ ax d++(uW (D9 d) (λk=>paren (hB d.k (iG (ns.map ao.a1) k)) (q k)) false d.aw++pJ d)=_;simp only[Yl];rfl
def aj7(ax:List Int)(t:bS):nG ax t.a1=nG ax t:=by unfold nG;rw[ye];have:kY ax t.a1.ns t.a1.bn=kY ax t.ns t.bn:=aj6 ax t.ns t.bn;rw[this]
def aj8(ax:List Int)(d:aP):qA ax d.a1=qA ax d:=by unfold qA;have:nG ax d.a1.t=nG ax d.t:=aj7 ax d.t;rw[this];rfl
def Yp(ax:List Int):∀ (ds:List aP) (a5:List UInt8),qB ax (ds.map aP.a1) a5=qB ax ds a5
 |[],a5=>rfl| d::ds,a5=>by rw[b0,qB,qB,aj8,Yp ax ds]
def aj9(g:cv):mu g.a1=mu g:=by unfold mu cv.a1;rw[gA];congr 1;refine fR λd _=>?_;show rN d.t.a1=rN d.t;unfold rN;rw[ye];rfl
def Yq{q:aP->Bool}(h:∀ d,q d.a1=q d)(ds:List aP):(ds.map aP.a1).all q=ds.all q:=by rw[Ls];congr 1;funext d;exact h d
def aka(ax:List Int)(g:cv):oQ ax g.a1=oQ ax g:=by unfold oQ;rw[aj9];have aa:(g.a1.ds.all λd=>pD d.t)=g.ds.all λd=>pD d.t:=Yq (λd=>aj5 d.t) g.ds;have ab:qB ax g.a1.ds []=qB ax g.ds []:=Yp ax g.ds [];rw[aa,ab];rfl
def akb(ds:List aP):nL (ds.map aP.a1)=nL ds:=Yq (q:=λd=>nD d.name&&normal d.t) (λd=>by
 show(nD d.name&&normal d.t.a1)=_;rw[aj3]) ds
def Yr:∀ (ds:List aP) (a5:List (ByteArray×Int)) (i:Nat),lS a5 i (ds.map aP.a1)=lS a5 i ds
 |[],a5,i=>rfl| d::ds,a5,i=>by rw[b0,lS,lS];show(bif (ez d.name a5).isSome then none else lS (a5++[(d.name,(i:Int))]) (i+1) (ds.map aP.a1))=_;rw[Yr ds]
def Ys:∀ (ds:List aP) (i:Nat),qE i (ds.map aP.a1)=(qE i ds).map λp=>(p.1,p.2.a1)
 |[],i=>rfl| d::ds,i=>by rw[b0,qE,qE,Ys ds,cM,gA];show(d.t.ns.map ao.a1).map (λn=>(i,n))++_=_;rw[gA];rfl
def akc(a5:List (ByteArray×Int))(ds:List aP):rP a5 (ds.map aP.a1)=rP a5 ds:=by unfold rP;rw[Ys,Ls];rfl
def z1(ax:List Int)(g:cv):dz ax g.a1=dz ax g:=by unfold dz;rw[aka];have aa:nL g.a1.ds=nL g.ds:=akb g.ds;have ab:lS [] 0 g.a1.ds=lS [] 0 g.ds:=Yr g.ds [] 0;have aj:∀ a5,rP a5 g.a1.ds=rP a5 g.ds:=λa5=>akc a5 g.ds;rw[aa,ab];simp only[aj];rfl
def Yt(ns:List ao)(j:Nat):(nodeAt (ns.map ao.a1) j).a1=(nodeAt ns j).a1:=by
 unfold nodeAt;simp only[bA,jH];cases ns[j]?<;>rfl
def Yu(ns:List ao)(j:Nat):(nodeAt (ns.map ao.a1) j).aw=(nodeAt ns j).aw:=by have h:=congrArg ao.aw (Yt ns j);exact h
def Yv(ns:List ao):∀ (f:Nat) (todo b:List Int),tO (ns.map ao.a1) f todo b=tO ns f todo b
 |0,todo,b=>rfl
 |f+1,todo,b=>by
  unfold tO;cases todo.getLast? with
  |none=>rfl| some n=>simp only;rw[Yu,Yv ns f]
def Yw(d:ao)(l:List Int):d.a1.eB l=d.eB l:=rfl
def akd(ns:List ao):Cb (ns.map ao.a1)=Cb ns:=by funext aZ b;unfold Cb;rw[Yu,<-Yw (nodeAt (ns.map ao.a1) b.toNat),Yt,Yw]
def Yx(ns:List ao)(node:Int):rT (ns.map ao.a1) node=rT ns node:=by unfold rT zW;rw[akd,Yv,bI]
def Yy(pl:List (ByteArray×Int))(bi:List aW):∀ (ds:List ao) (a5:List aW),en pl bi (ds.map ao.a1) a5=en pl bi ds a5
 |[],a5=>rfl| d::ds,a5=>by rw[b0,en,en,Yy pl bi ds];rfl
def Yz:∀ (ds:List aP) (a5:List (ByteArray×Int)) (i:Nat),n8 a5 i (ds.map aP.a1)=n8 a5 i ds
 |[],a5,i=>rfl| d::ds,a5,i=>by rw[b0,n8,n8,Yz ds];rfl
def EC(ds:List aP):bD (ds.map aP.a1)=bD ds:=Yz ds [] 0
def Ly(pl:List (ByteArray×Int))(bi:List aW)(d:aP):iq pl bi d.a1=iq pl bi d:=by unfold iq;have:en pl bi d.a1.t.ns []=en pl bi d.t.ns []:=Yy pl bi d.t.ns [];rw[this];rfl
def ake{ds:List aP}{l:List aW}(h:jO ds l):jO (ds.map aP.a1) l:=by
 refine⟨by rw[h.len,bI],λi hi=>?_,λm hm an=>?_⟩
 ·have cZ:i<ds.length:=by simpa using hi
  rw[EC,f',Ly];exact h.fix i cZ
 ·refine h.least m (by rw[hm,bI]) λi hi=>?_;have:=an i (by simpa using hi);rwa [EC,f',Ly]at this
def mB(l:List ao):bS:=⟨l,none,l.length,0,(l.length:Int)-1⟩
structure YA(I:aJ)(t:bS)(l:List ao):Prop where
 ok:t.ok I
 a1:t.ns.map ao.a1=l
 bn:t.bn=(l.length:Int)-1
def YA.len{t:bS}{l:List ao}(h:YA I t l):t.n=l.length:=by rw[<-h.ok.n,<-h.a1,bI]
def eO(ns:List ao):List Int:=ns.flatMap (·.aw)
def hR(l:List Int):Prop:=l.Pairwise (·≠·)
def ED(s:List Bool)(l:List Int):Prop:=∀ j,s.getD j false=true ↔ ((j:Int)∈l/\j<s.length)
def YB{i:Nat}:∀ {ks seen:List Int} {s:List Bool},i<=s.length->ED s seen->hR seen -> ((∃ b3,kU i ks s=some b3) ↔ ((∀ k∈ks,0<=k/\k<i)/\hR (seen++ks)))/\∀ b3,kU i ks s=some b3->b3.length=s.length/\ED b3 (seen++ks)
 |[],seen,s,hi,hm,ak=>by refine⟨⟨λ_=>⟨λk ae=>by(cases ae),by simpa using ak⟩,λ_=>⟨s,rfl⟩⟩,λb3 h=>?_⟩;simp only[kU,jY]at h;subst h;exact⟨rfl,by simpa using hm⟩
 |k::ks,seen,s,hi,hm,ak=>by
  unfold kU;cases ag:decide (k<0)||(decide ((i:Int)<=k)||s.getD k.toNat false)with
  |true=>
   refine⟨⟨λ⟨b3,h⟩=>(by cases h),λ⟨aa,ab⟩=>?_⟩,λb3 h=>by cases h⟩;exfalso;have aj:=aa k (.head _);simp only[kQ,hV]at ag;rcases ag with ag | ag | ag;·omega
   ·omega
   ·have:=(hm _).1 ag;rw[zu aj.1]at this;exact(rX.1 ab).2.2 k this.1 k (.head _) rfl
  |false=>
   simp only[sF,ss]at ag;obtain⟨b1,bW,cY⟩:=ag;have ae:k.toNat<s.length:=by omega
   have eR:k ∉ seen:=λh=>by have:=(hm k.toNat).2 ⟨by rw[zu (by omega)];exact h,ae⟩;rw[cY]at this;cases this
   have sw:ED (s.set k.toNat true) (seen++[k]):=λj=>by
    have:=hm j;simp only[bA,ih,n5,cB,ed]at this |-;by_cases e:k.toNat=j;·subst e;rw[bN rfl,bN ae];simp only[kk,true_iff];exact⟨.inr (by omega),ae⟩
    ·rw[bR e,this];constructor
     ·rintro⟨aa,ab⟩;exact⟨.inl aa,ab⟩
     ·rintro⟨aa | aa,ab⟩
      ·exact⟨aa,ab⟩
      ·omega
   have fz:hR (seen++[k]):=rX.2 ⟨ak,by simp,λa a4 b ag e=>by
    simp only[ed]at ag;subst ag;subst e;exact eR a4⟩
   have aL:=YB (i:=i) (ks:=ks) (seen:=seen++[k]) (s:=s.set k.toNat true) (by simpa using hi) sw fz;simp only[b'];rw[dV,rW]at aL;refine⟨aL.1.trans ⟨λ⟨aa,ab⟩=>⟨λx ad=>?_,ab⟩,λ⟨aa,ab⟩=>⟨λx ad=>aa x (.tail _ ad),ab⟩⟩,λb3 h=>?_⟩
   ·rcases ec.1 ad with rfl | ad
    ·omega
    ·exact aa x ad
   ·have:=aL.2 b3 h;simpa using this
def YC:∀ {ds:List ao} {i:Nat} {seen:List Int} {s:List Bool},i+ds.length<=s.length->ED s seen->hR seen -> ((∃ b3,jw i ds s=some b3) ↔ ((∀ j (h:j<ds.length),fits ds[j] ds[j].aw.length=true/\∀ k∈ds[j].aw,0<=k/\k<i+j)/\hR (seen++eO ds)))/\∀ b3,jw i ds s=some b3->b3.length=s.length/\ED b3 (seen++eO ds)
 |[],i,seen,s,hi,hm,ak=>by refine⟨⟨λ_=>⟨λj ai=>by simp at ai,by simpa[eO]using ak⟩,λ_=>⟨s,rfl⟩⟩,λb3 h=>?_⟩;simp only[jw,jY]at h;subst h;exact⟨rfl,by simpa[eO]using hm⟩
 |d::ds,i,seen,s,hi,hm,ak=>by
  unfold jw;have ae:=YB (i:=i) (ks:=d.aw) (by simp at hi;omega) hm ak;have gR:eO (d::ds)=d.aw++eO ds:=rfl;cases aA:fits d d.aw.length with
  |false=>refine⟨⟨λ⟨b3,h⟩=>(by cases h),λ⟨aa,ab⟩=>?_⟩,λb3 h=>by cases h⟩;have:=(aa 0 (by simp)).1;simp only[uE]at this;rw[aA]at this;cases this
  |true=>
   simp only[b5];cases aR:kU i d.aw s with
   |none=>
    refine⟨⟨λ⟨b3,h⟩=>(by cases h),λ⟨aa,ab⟩=>?_⟩,λb3 h=>by cases h⟩;exfalso;have:∃ b3,kU i d.aw s=some b3:=ae.1.2 ⟨λk ae=>by
     have:=(aa 0 (by simp)).2 k ae;omega,by
     rw[gR,<-dV]at ab;exact(rX.1 ab).1⟩
    obtain⟨b3,h⟩:=this;rw[aR]at h;cases h
   |some s1=>
    obtain⟨akf,c5⟩:=ae.2 s1 aR;obtain⟨iT,d1⟩:=ae.1.1 ⟨s1,aR⟩;have aL:=YC (ds:=ds) (i:=i+1) (seen:=seen++d.aw) (s:=s1) (by simp at hi;omega) c5 d1;rw[dV,<-gR]at aL;simp only;refine⟨aL.1.trans ⟨λ⟨aa,ab⟩=>⟨λj ai=>?_,ab⟩,λ⟨aa,ab⟩=>⟨λj ai=>?_,ab⟩⟩,λb3 h=>?_⟩
    ·cases j with
     |zero=>exact⟨aA,λk ae=>by have:=iT k ae;omega⟩| succ j=>have:=aa j (by simpa using ai);refine⟨this.1,λk ae=>?_⟩;have:=this.2 k ae;omega
    ·have:=aa (j+1) (by simpa using ai);refine⟨this.1,λk ae=>?_⟩;have:=this.2 k ae;omega
    ·have:=aL.2 b3 h;exact⟨this.1.trans akf,this.2⟩
def akg(n:Nat):ED (List.replicate n false) []:=λj=>by
 by_cases h:j<n<;>simp[bA,QB,h]
structure hG(t:bS):Prop where
 bn:0<=t.bn/\t.bn<t.ns.length
 fits:∀ j (h:j<t.ns.length),fits t.ns[j] t.ns[j].aw.length=true
 aw:∀ j (h:j<t.ns.length),∀ k∈t.ns[j].aw,0<=k/\k<j
 diff:hR (eO t.ns)
 all:∀ j:Nat,j<t.ns.length->((j:Int)∈eO t.ns ↔ (j:Int)≠t.bn)
def nc{t:bS}:right t=true ↔ hG t:=by
 have h:=YC (ds:=t.ns) (i:=0) (seen:=[]) (s:=List.replicate t.ns.length false) (by simp) (akg _) (by simp[hR]);simp only[iz,c8,sE]at h;unfold right;constructor
 ·intro af;simp only[cz,hV]at af;obtain⟨iT,n7,qK⟩:=af;split at qK
  ·rename_i s ar;obtain⟨dF,eJ⟩:=h.1.1 ⟨s,ar⟩;obtain⟨c5,m2⟩:=h.2 s ar;refine⟨⟨iT,n7⟩,λj ai=>(dF j ai).1,λj ai k ae=>(by have:=(dF j ai).2 k ae;omega),eJ,λj ai=>?_⟩;have ag:(s.getD j false == decide (((0+j:Nat):Int)=t.bn))=false:=by
    cases ag:(s.getD j false == decide (((0+j:Nat):Int)=t.bn))with
    |false=>rfl| true=>have:=Qj (by omega) ag;rw[this]at qK;cases qK
   rw[c8]at ag;have hm:=m2 j;constructor;·intro ad e;have:=hm.2 ⟨ad,by omega⟩;rw[this,e9 e]at ag;cases ag
   ·intro bt;rw[et bt]at ag;have:s.getD j false=true:=by
     revert ag;cases s.getD j false<;>simp
    exact(hm.1 this).1
  ·cases qK
 ·intro af;obtain⟨s,ar⟩:=h.1.2 ⟨λj ai=>⟨af.fits j ai,λk ae=>by have:=af.aw j ai k ae;omega⟩,af.diff⟩;obtain⟨c5,m2⟩:=h.2 s ar;rw[ar];simp only[cz,hV];refine⟨af.bn.1,af.bn.2,XK λj ai=>?_⟩;rw[c8];have a4:=af.all j (by omega);have hm:=m2 j;by_cases e:(j:Int)=t.bn
  ·have aA:s.getD j false=false:=by
    cases ag:s.getD j false with
    |false=>rfl| true=>exact absurd e (a4.1 (hm.1 ag).1)
   rw[aA,e9 e];rfl
  ·have:=hm.2 ⟨a4.2 e,by omega⟩;rw[this,et e];rfl
def hG.node{t:bS}(af:hG t){j:Nat}(ai:j<t.ns.length){k:Int}(ae:k∈(nodeAt t.ns j).aw):0<=k/\k<j:=by rw[gm ai]at ae;exact af.aw j ai k ae
def hG.two{t:bS}(af:hG t){i j:Nat}(hi:i<t.ns.length)(ai:j<t.ns.length)(bt:i≠j){k:Int}(aa:k∈(nodeAt t.ns i).aw)(ab:k∈(nodeAt t.ns j).aw):False:=by
 rw[gm hi]at aa;rw[gm ai]at ab;have:=(HQ.1 af.diff).2;rw[QA]at this;rcases Nat.lt_or_gt_of_ne bt with h | h
 ·exact this i j hi ai h k aa k ab rfl
 ·exact this j i ai hi h k ab k aa rfl
def hG.akh{t:bS}(af:hG t){j:Nat}(ai:j<t.ns.length):hR (nodeAt t.ns j).aw:=by rw[gm ai];exact(HQ.1 af.diff).1 _ (br ai)
def EE(ns:List ao):Nat->Int->List Int
 |0,_=>[]| f+1,n=>(nodeAt ns n.toNat).aw.flatMap (EE ns f)++[n]
def jP(ns:List ao)(n:Int):List Int:=EE ns (n.toNat+1) n
def r0{α β:Type}{f g:α->List β}:∀ {l:List α},(∀ x∈l,f x=g x)->l.flatMap f=l.flatMap g
 |[],_=>rfl| a::l,h=>by rw[j6,j6,h a (.head _),r0 λx ad=>h x (.tail _ ad)]
section
variable{t:bS}(af:hG t)
include af
theorem aki:∀ (f j:Nat),j<t.ns.length->j<f->EE t.ns f j=jP t.ns j:=by
 intro f
 induction f using Nat.strongRecOn with
 |_ f aL=>
  intro j ai aA
  match f,aA,aL with
  |f+1,aA,aL=>unfold jP;rw[EE,EE];congr 1;refine r0 λk ae=>?_;obtain⟨az,aa⟩:=af.node ai ae;obtain⟨k,rfl⟩:=eH az;have aG:=aL f (by omega) k (by omega) (by omega);have a7:=aL j (by omega) k (by omega) (by omega);exact aG.trans a7.symm
theorem pP{j:Nat}(ai:j<t.ns.length):jP t.ns j=(nodeAt t.ns j).aw.flatMap (jP t.ns)++[(j:Int)]:=by unfold jP;rw[EE];congr 1;refine r0 λk ae=>?_;obtain⟨az,aa⟩:=af.node ai ae;obtain⟨k,rfl⟩:=eH az;exact aki af _ k (by omega) (by omega)
theorem Ch:∀ (j:Nat),j<t.ns.length->∀ x∈jP t.ns j,(0<=x/\x<=j)/\(x=j\/∃ y:Nat,(y:Int)∈jP t.ns j/\y<t.ns.length/\x∈(nodeAt t.ns y).aw):=by
 intro j
 induction j using Nat.strongRecOn with
 |_ j aL=>
  intro ai x ad;rw[pP af ai]at ad;rcases cB.1 ad with ad | ad
  ·obtain⟨k,ae,ad⟩:=hb.1 ad;obtain⟨az,aa⟩:=af.node ai ae;obtain⟨k,rfl⟩:=eH az;obtain⟨b,c⟩:=aL k (by omega) (by omega) x ad;refine⟨by omega,.inr ?_⟩;rcases c with rfl | ⟨y,aE,KH,QI⟩
   ·exact⟨j,by rw[pP af ai];simp,ai,ae⟩
   ·exact⟨y,by rw[pP af ai];exact cB.2 (.inl (hb.2 ⟨k,ae,aE⟩)),KH,QI⟩
  ·simp only[ed]at ad;subst ad;exact⟨by omega,.inl rfl⟩
theorem akj{j:Nat}(ai:j<t.ns.length){a b:Nat}(a4:(a:Int)∈(nodeAt t.ns j).aw)(ag:(b:Int)∈(nodeAt t.ns j).aw)(bt:a≠b):∀ (m:Nat) (x:Int),x∈jP t.ns a->x∈jP t.ns b->t.ns.length-x.toNat<=m->False:=by
 have aa:=af.node ai a4;have ab:=af.node ai ag;intro m
 induction m with
 |zero=>intro x QJ ky hm;have:=(Ch af a (by omega) x QJ).1;omega
 |succ m aL=>
  intro x QJ ky hm;obtain⟨avd,akk⟩:=Ch af a (by omega) x QJ;obtain⟨ave,YD⟩:=Ch af b (by omega) x ky;rcases akk with r1 | ⟨QK,YE,QL,QM⟩
  ·rcases YD with Lz | ⟨QN,g3,QO,QP⟩
   ·omega
   ·have:=(Ch af b (by omega) QN g3).1;subst r1;exact af.two ai QO (by omega) a4 QP
  ·rcases YD with Lz | ⟨QN,g3,QO,QP⟩
   ·have:=(Ch af a (by omega) QK YE).1;subst Lz;exact af.two ai QL (by omega) ag QM
   ·by_cases e:QK=QN
    ·subst e;have:=af.node QL QM;exact aL QK YE g3 (by omega)
    ·exact af.two QL QO e QM QP
theorem akl:∀ (j:Nat),j<t.ns.length->hR (jP t.ns j):=by
 intro j
 induction j using Nat.strongRecOn with
 |_ j aL=>
  intro ai;rw[pP af ai];have cw:=af.akh ai;refine rX.2 ⟨HQ.2 ⟨λk ae=>?_,?_⟩,by simp,λx ad y aE=>?_⟩;·obtain⟨az,aa⟩:=af.node ai ae;obtain⟨k,rfl⟩:=eH az;exact aL k (by omega) (by omega)
  ·refine cw.imp_of_mem ?_;intro a b a4 ag bt x ad y aE e;subst e;obtain⟨az,aa⟩:=af.node ai a4;obtain⟨ab,aj⟩:=af.node ai ag;obtain⟨a,rfl⟩:=eH az;obtain⟨b,rfl⟩:=eH ab;exact akj af ai a4 ag (by intro e;subst e;exact bt rfl) _ x ad aE (ca _)
  ·simp only[ed]at aE;subst aE;obtain⟨k,ae,ad⟩:=hb.1 ad;obtain⟨az,aa⟩:=af.node ai ae;obtain⟨k,rfl⟩:=eH az;have:=(Ch af k (by omega) x ad).1;omega
def pQ(ns:List ao)(l:List Int):Prop:=∀ i (h:i<l.length),∀ k∈(nodeAt ns (l[i]).toNat).aw,k∈l.take i
omit af in
theorem pQ.append{ns:List ao}{l m:List Int}(h:pQ ns l)(bc:pQ ns m):pQ ns (l++m):=by
 intro i hi k ae;by_cases ay:i<l.length
 ·rw[zL ay]at ae;rw[Bt (by omega)];exact h i ay k ae
 ·rw[Ev (by omega)]at ae;have:=bc (i-l.length) (by simp at hi;omega) k ae;rw[HS,fA (by omega)];exact cB.2 (.inr this)
omit af in
theorem pQ.flat{ns:List ao}{f:Int->List Int}:∀ {ks:List Int},(∀ k∈ks,pQ ns (f k))->pQ ns (ks.flatMap f)
 |[],_=>λi h=>by simp at h
 |k::ks,h=>by rw[j6];exact(h k (.head _)).append (pQ.flat λx ad=>h x (.tail _ ad))
theorem akm{j:Nat}(ai:j<t.ns.length):(j:Int)∈jP t.ns j:=by rw[pP af ai];simp
theorem akn:∀ (j:Nat),j<t.ns.length->pQ t.ns (jP t.ns j):=by
 intro j
 induction j using Nat.strongRecOn with
 |_ j aL=>
  intro ai;have ae:∀ k∈(nodeAt t.ns j).aw,∃ q:Nat,k=q/\q<j:=λk ae=>by obtain⟨az,aa⟩:=af.node ai ae;exact⟨k.toNat,by omega,by omega⟩
  have aa:pQ t.ns ((nodeAt t.ns j).aw.flatMap (jP t.ns)):=pQ.flat λk hd=>by obtain⟨q,rfl,aR⟩:=ae k hd;exact aL q aR (by omega)
  rw[pP af ai];intro i hi k pR;by_cases ay:i<((nodeAt t.ns j).aw.flatMap (jP t.ns)).length;·rw[zL ay]at pR;rw[Bt (by omega)];exact aa i ay k pR
  ·rw[Ev (by omega)]at pR;have e:i-((nodeAt t.ns j).aw.flatMap (jP t.ns)).length=0:=by simp only[ch,dx,fS]at hi;omega
   simp only[e,uE,g6]at pR;rw[HS,fA (by omega)];refine cB.2 (.inl (hb.2 ⟨k,pR,?_⟩));obtain⟨q,rfl,aR⟩:=ae k pR;exact akm af (by omega)
theorem ako:∀ (j:Nat),j<t.ns.length->(jP t.ns j).length=nb t.ns j:=by
 intro j
 induction j using Nat.strongRecOn with
 |_ j aL=>
  intro ai;rw[pP af ai,HI (nc.2 af) ai,<-gm ai];simp only[ch,x',dx,fS,g2];have:(nodeAt t.ns j).aw.map (λa=>(jP t.ns a).length)=(nodeAt t.ns j).aw.map (nb t.ns):=fR λk ae=>by obtain⟨az,aa⟩:=af.node ai ae;obtain⟨k,rfl⟩:=eH az;exact aL k (by omega) (by omega)
  rw[this];omega
theorem YF:∀ (f:Nat) (todo b:List Int),(∀ k∈todo,0<=k/\k<t.ns.length)->(todo.map λn=>(jP t.ns n).length).sum<=f->tO t.ns f todo b=b++todo.reverse.flatMap (λn=>(jP t.ns n).reverse)
 |0,todo,b,ah,aA=>by
  rcases wb todo with h | ⟨r,p,h⟩;·subst h;simp[tO]
  ·subst h;obtain⟨az,aa⟩:=ah p (by simp);obtain⟨p,rfl⟩:=eH az;have:=congrArg List.length (pP af (j:=p) (by omega));simp at aA this;have ab:(jP t.ns (p:Int)).length=0:=by rw[aA.2];rfl
   omega
 |f+1,todo,b,ah,aA=>by
  rcases wb todo with h | ⟨r,p,h⟩;·subst h;rw[XR];simp
  ·rw[List.concat_eq_append]at h;subst h;obtain⟨az,aa⟩:=ah p (by simp);obtain⟨p,rfl⟩:=eH az;have aC:p<t.ns.length:=by omega
   have he:=pP af aC;have ay:=congrArg List.length he;simp only[ch,x',dx,fS]at ay;have j2:∀ k∈r++(nodeAt t.ns p).aw,0<=k/\k<t.ns.length:=λk ae=>by
    rcases cB.1 ae with ae | ae;·exact ah k (by simp[ae])
    ·have:=af.node aC ae;omega
   have v7:((r++(nodeAt t.ns p).aw).map λn=>(jP t.ns n).length).sum<=f:=by simp only[cM,qv,b0,hy,h4,D1]at aA |-;omega
   rw[XS,g6,YF f _ _ j2 v7];rw[ya,ya,hg,hg,zt,pM,he,ya,dV];congr 1;rw[<-dV];congr 1;simp[List.reverse_flatMap];rfl
theorem akp{j:Nat}(ai:j<t.ns.length):(zW t.ns j).reverse=jP t.ns j:=by unfold zW;have aa:=ako af j ai;have ab:=Qk (nc.2 af) t.ns.length j ai (by omega);rw[YF af _ _ _ (λk ae=>by simp only[ed]at ae;omega) (by simp;omega)];simp
def vb(rb:List Int)(k:Int):Int:=(rb.idxOf k:Nat)
def z2(ns:List ao)(rb:List Int)(b:Int):ao:=(nodeAt ns b.toNat).eB ((nodeAt ns b.toNat).aw.map (vb rb))
omit af in
theorem hR.idx{l:List Int}(h:hR l){i:Nat}(hi:i<l.length):l.idxOf l[i]=i:=by
 have aa:=List.idxOf_lt_length_of_mem (br hi);have ab:=List.getElem_idxOf aa;have aj:=QA.1 h;rcases Nat.lt_trichotomy (l.idxOf l[i]) i with aI | aI | aI
 ·exact absurd ab (aj _ _ aa hi aI)
 ·exact aI
 ·exact absurd ab.symm (aj _ _ hi aa aI)
omit af in
theorem hR.nodup{l:List Int}(h:hR l){i j:Nat}(hi:i<l.length)(ai:j<l.length)(e:l[i]=l[j]):i=j:=by rw[<-h.idx hi,<-h.idx ai,e]
omit af in
theorem sub_fold{rb:List Int}(ak:hR rb)(aC:pQ t.ns rb)(ah:∀ k∈rb,0<=k/\k<t.ns.length):∀ i,i<=rb.length->∃ P:List Int,(rb.take i).foldl (Cb t.ns) (List.replicate t.ns.length 0,[])=(P,(rb.take i).map (z2 t.ns rb))/\P.length=t.ns.length/\∀ q (h:q<rb.length),q<i->P.getD rb[q].toNat 0=(q:Int)
 |0,_=>⟨List.replicate t.ns.length 0,rfl,by simp,λq h aR=>by omega⟩
 |i+1,hi=>by
  obtain⟨P,aa,ab,aj⟩:=sub_fold ak aC ah i (by omega);have dM:i<rb.length:=by omega
  have avf:=ah _ (br dM);have key:∀ q (h:q<rb.length),q<i+1->(P.set rb[i].toNat (i:Nat)).getD rb[q].toNat 0=(q:Int):=λq h aR=>by
   have BA:=ah _ (br h);by_cases e:q=i;·subst e;simp[bA,ih,show rb[q].toNat<P.length by omega]
   ·have bt:rb[i].toNat≠rb[q].toNat:=λcX=>e (ak.nodup h dM (by omega));have:=aj q h (by omega);simp only[bA,ih]at this |-;rw[bR bt];exact this
  refine⟨P.set rb[i].toNat (i:Nat),?_,by simpa using ab,key⟩;rw[gg dM,rO,aa,cM];simp only[js,Lr,Cb,bI,hx,uu (Nat.le_of_lt dM),b0,hy];have:z2 t.ns rb rb[i]=(nodeAt t.ns rb[i].toNat).eB ((nodeAt t.ns rb[i].toNat).aw.map λk=>(P.set rb[i].toNat (i:Nat)).getD k.toNat 0):=by unfold z2;congr 1;refine fR λk ae=>?_;have hm:=aC i dM k ae;obtain⟨q,aR,e⟩:=ka hm;rw[hx]at aR;rw[List.getElem_take]at e;rw[<-e,key q (by omega) (by omega)];unfold vb;rw[ak.idx]
  rw[this]
theorem akq{j:Nat}(ai:j<t.ns.length):rT t.ns j=(jP t.ns j).map (z2 t.ns (jP t.ns j)):=by obtain⟨P,aa,-,-⟩:=sub_fold (akl af j ai) (akn af j ai) (λk ae=>by have:=(Ch af j ai k ae).1;omega) (jP t.ns j).length (ca _);rw[DI]at aa;unfold rT;rw[akp af ai,aa]
end
structure eK where
 a:BitVec 64
 b:BitVec 64
 c:BitVec 64
 d:BitVec 64
 deriving DecidableEq
def eK.zero:eK:=⟨0,0,0,0⟩
def eK.or(x y:eK):eK:=⟨x.a ||| y.a,x.b ||| y.b,x.c ||| y.c,x.d ||| y.d⟩
def eK.and(x y:eK):eK:=⟨x.a &&& y.a,x.b &&& y.b,x.c &&& y.c,x.d &&& y.d⟩
def eK.sub(x y:eK):Bool:=decide (x.and y=x)
def eK.cells(x:eK):List Value:=[.int .u64 x.a.toNat,.int .u64 x.b.toNat,.int .u64 x.c.toNat,.int .u64 x.d.toNat]
structure lz where
 w:eK
 f:Bool
 deriving DecidableEq
def lz.cells(x:lz):List Value:=[.int .u64 x.w.a.toNat,.int .u64 x.w.b.toNat,.int .u64 x.w.c.toNat,.int .u64 x.w.d.toNat,.bool x.f]
def QQ:lz:=⟨.zero,false⟩
def eK.ext'{x y:eK}(aa:x.a=y.a)(ab:x.b=y.b)(aj:x.c=y.c)(aI:x.d=y.d):x=y:=by obtain⟨a,b,c,d⟩:=x;obtain⟨bO,iM,c',gM⟩:=y;simp only at aa ab aj aI;subst aa ab aj aI;rfl
def eK.or_assoc(x y z:eK):(x.or y).or z=x.or (y.or z):=by simp only[eK.or,BitVec.or_assoc]
def eK.or_comm(x y:eK):x.or y=y.or x:=by simp only[eK.or,BitVec.or_comm]
def eK.or_self(x:eK):x.or x=x:=by simp[eK.or]
def eK.zero_or(x:eK):eK.zero.or x=x:=by simp[eK.or,eK.zero]
def z3{x y:BitVec 64}:x &&& y=x ↔ x ||| y=y:=by
 constructor
 ·intro h;apply BitVec.eq_of_getElem_eq;intro i hi;have:=congrArg (λw:BitVec 64=>w[i]) h;simp only[BitVec.getElem_and,BitVec.getElem_or]at this |-;revert this;cases x[i]<;>cases y[i]<;>simp
 ·intro h;apply BitVec.eq_of_getElem_eq;intro i hi;have:=congrArg (λw:BitVec 64=>w[i]) h;simp only[BitVec.getElem_and,BitVec.getElem_or]at this |-;revert this;cases x[i]<;>cases y[i]<;>simp
def eK.LA{x y:eK}:x.sub y=true ↔ x.or y=y:=by
 unfold eK.sub;rw[hV];constructor
 ·intro h;have aa:=congrArg eK.a h;have ab:=congrArg eK.b h;have aj:=congrArg eK.c h;have aI:=congrArg eK.d h;exact eK.ext' (z3.1 aa) (z3.1 ab) (z3.1 aj) (z3.1 aI)
 ·intro h;have aa:=congrArg eK.a h;have ab:=congrArg eK.b h;have aj:=congrArg eK.c h;have aI:=congrArg eK.d h;exact eK.ext' (z3.2 aa) (z3.2 ab) (z3.2 aj) (z3.2 aI)
def eK.akr(x:eK):x.sub x=true:=eK.LA.2 x.or_self
def eK.aks{x y z:eK}(h:x.sub y=true)(bc:y.sub z=true):x.sub z=true:=by rw[eK.LA]at h bc |-;rw[<-bc,<-eK.or_assoc,h]
def eK.akt{x y:eK}(h:x.sub y=true)(bc:y.sub x=true):x=y:=by rw[eK.LA]at h bc;exact bc.symm.trans ((eK.or_comm y x).trans h)
def eK.zero_sub(x:eK):eK.zero.sub x=true:=by rw[eK.LA,eK.zero_or]
structure lz.le(a b:lz):Prop where
 w:a.w.sub b.w=true
 f:a.f=true->b.f=true
def lz.le_refl(a:lz):a.le a:=⟨eK.akr _,id⟩
def lz.le.trans{a b c:lz}(h:a.le b)(bc:b.le c):a.le c:=⟨eK.aks h.w bc.w,λx=>bc.f (h.f x)⟩
def lz.le.antisymm{a b:lz}(h:a.le b)(bc:b.le a):a=b:=by
 have aa:=eK.akt h.w bc.w;obtain⟨avg,aku⟩:=a;obtain⟨avh,tV⟩:=b;simp only at aa;subst aa;have aA:=h.f;have v7:=bc.f;cases aku<;>cases tV<;>simp_all
def lz.qM(a:lz):QQ.le a:=⟨eK.zero_sub _,λh=>by cases h⟩
def LB(x:BitVec 64):BitVec.ofInt 64 (x.toNat:Int)=x:=by rw[BitVec.ofInt_natCast,BitVec.ofNat_toNat,BitVec.setWidth_eq]
def YG(x:BitVec 64):IntKind.u64.wrap (x.toNat:Int)=(x.toNat:Int):=by have:=x.isLt;unfold IntKind.wrap;simp only[IntKind.bits,IntKind.signed];simp;omega
def akv{x y:BitVec 64}:((x.toNat:Int) == (y.toNat:Int))=decide (x=y):=by rw[sm];simp[BitVec.toNat_eq];omega
structure QR(α:Type) where
 le:α->α->Prop
 qM:α
 refl:∀ a,le a a
 trans:∀ {a b c},le a b->le b c->le a c
 YH:∀ {a b},le a b->le b a->a=b
 low:∀ a,le qM a
structure Ci{α:Type}(O:QR α)(l m:List α):Prop where
 len:l.length=m.length
 at':∀ i,O.le (l.getD i O.qM) (m.getD i O.qM)
section
variable{α:Type}{O:QR α}
def Ci.trans{a b c:List α}(h:Ci O a b)(bc:Ci O b c):Ci O a c:=⟨h.len.trans bc.len,λi=>O.trans (h.at' i) (bc.at' i)⟩
def Ci.of{a b:List α}(ay:a.length=b.length)(h:∀ i,i<a.length->O.le (a.getD i O.qM) (b.getD i O.qM)):Ci O a b:=⟨ay,λi=>by
 by_cases hi:i<a.length
 ·exact h i hi
 ·have e:a.getD i O.qM=O.qM:=by simp[bA,rk (Nat.le_of_not_lt hi)]
  rw[e];exact O.low _⟩
section
end
end
def YI{α:Type}{p q:α->Bool}:∀ {l:List α},(∀ x∈l,p x=true->q x=true)->l.countP q<=l.countP p->∀ x∈l,q x=true->p x=true
 |[],_,_,x,ad,_=>by cases ad
 |y::l,h,bm,x,ad,aR=>by
  have hm:=List.countP_mono_left (p:=p) (q:=q) (l:=l) (λx ad=>h x (.tail _ ad));rw[HT,HT]at bm;have aE:=h y (.head _);have key:(q y=true->p y=true)/\l.countP q<=l.countP p:=by cases aC:p y<;>cases avi:q y<;>simp_all<;>omega
  rcases ec.1 ad with rfl | ad;·exact key.1 aR
  ·exact YI (λx ad=>h x (.tail _ ad)) key.2 x ad aR
def HY(x:BitVec 64):Nat:=(List.range 64).countP λi=>!x.getLsbD i
def akw{x y:BitVec 64}(h:x &&& y=x):HY y<=HY x/\(HY x<=HY y->x=y):=by
 have ag:∀ i,x.getLsbD i=true->y.getLsbD i=true:=λi ad=>by have:=congrArg (λw:BitVec 64=>w.getLsbD i) h;simp only[QD,ad,n2]at this;exact this
 have aC:∀ i∈List.range 64,(!y.getLsbD i)=true->(!x.getLsbD i)=true:=λi _ hi=>by
  have aa:=ag i;cases ad:x.getLsbD i with
  |false=>rfl| true=>rw[aa ad]at hi;cases hi
 refine⟨List.countP_mono_left aC,λbm=>?_⟩;have:=YI aC bm;apply QC;intro i hi;have aa:=ag i;have ab:=this i (g7.2 hi);cases ad:x.getLsbD i<;>cases aE:y.getLsbD i<;>simp_all
def YJ:QR lz:=⟨lz.le,QQ,lz.le_refl,λh bc=>h.trans bc,λh bc=>h.antisymm bc,lz.qM⟩
def avj.map{f g:α->lz}{l:List α}(h:∀ x∈l,(f x).le (g x)):Ci YJ (l.map f) (l.map g):=.of (by simp) λi hi=>by
 have cZ:i<l.length:=by simpa using hi
 have:=h _ (br cZ);simpa[bA,cZ]using(show YJ.le _ _ from this)
structure EF(x:aW)(k:lz):Prop where
 z:x.z=true->k.f=true
 s:x.s=true->k.w≠.zero
def EF.none(k:lz):EF bZ k:=⟨λh=>(by cases h),λh=>(by cases h)⟩
inductive z4:List aW->List lz->Prop
 |nil:z4 [] []| cons {x k l m} (h:EF x k) (t:z4 l m):z4 (x::l) (k::m)
def z4.head{l:List aW}{m:List lz}(h:z4 l m):EF (l.headD bZ) (m.headD QQ):=by
 cases h with
 |nil=>exact EF.none _| cons h t=>exact h
def z4.map{α:Type}{f:α->aW}{g:α->lz}:∀ {l:List α},(∀ x∈l,EF (f x) (g x))->z4 (l.map f) (l.map g)
 |[],_=>.nil| x::l,h=>.cons (h x (.head _)) (z4.map λy aE=>h y (.tail _ aE))
structure LC(t:bS)(k:Int)(bq:bS):Prop where
 a1:bq.ns.map ao.a1=rT t.ns k
 bn:bq.bn=(bq.ns.length:Int)-1
def jQ:List (aW×List Nat)->List Nat
 |[]=>[]| x::xs=>x.2++bif x.1.z then jQ xs else []
def kc(pl:List (ByteArray×Int))(d:ao)(xs:List (aW×List Nat)):List Nat:=
 bif decide (d.k=3)then [((ez d.t pl).getD 0).toNat]else
 bif decide (d.k=4)then jQ xs else
 bif decide (d.k=6)&&decide (d.hi=0)then []else xs.flatMap (·.2)
def qN(pl:List (ByteArray×Int))(F:List aW)(d:ao)(xs:List (aW×List Nat)):aW×List Nat:=
 (gT d (xs.map (·.1)++bif decide (d.k=3)then [F.getD ((ez d.t pl).getD 0).toNat bZ]else []),kc pl d xs)
def gd(pl:List (ByteArray×Int))(F:List aW)(ns:List ao)(j:Int):aW×List Nat:=ml (bZ,[]) (λd g=>qN pl F d (d.aw.map g)) ns j
def QS{pl:List (ByteArray×Int)}{F:List aW}{t:bS}(af:right t=true){j:Nat}(ai:j<t.ns.length):gd pl F t.ns j=qN pl F t.ns[j] (t.ns[j].aw.map (gd pl F t.ns)):=
 D2 (λd g dK h=>by rw[fR h]) af ai
def akx(pl:List (ByteArray×Int))(F:List aW)(ns:List ao)(j:Int):gd pl F (ns.map ao.a1) j=gd pl F ns j:=by unfold gd ml;rw[HX (f:=λd g=>qN pl F d (d.aw.map g)) (g:=λd g=>qN pl F d (d.aw.map g)) (λd q=>rfl)]
def YK(a5:List (aW×List Nat))(i:Nat):(a5.getD i (bZ,[])).1=(a5.map (·.1)).getD i bZ:=by
 simp only[bA,jH];cases a5[i]?<;>rfl
def YL(pl:List (ByteArray×Int))(F:List aW):∀ (ds:List ao) (a5:List (aW×List Nat)),(gI (bZ,[]) (λd g=>qN pl F d (d.aw.map g)) ds a5).map (·.1)=en pl F ds (a5.map (·.1))
 |[],a5=>rfl
 |d::ds,a5=>by
  have aG:(qN pl F d (d.aw.map λk=>a5.getD k.toNat (bZ,[]))).1=gT d (sU pl F (a5.map (·.1)) d):=by unfold qN sU;simp only[gA,Function.comp_def,YK]
  have aa:=YL pl F ds (a5++[qN pl F d (d.aw.map λk=>a5.getD k.toNat (bZ,[]))]);rw[cM,b0,hy,aG]at aa;rw[gI,aa,en]
def QT(pl:List (ByteArray×Int))(F:List aW)(ns:List ao)(j:Int):(gd pl F ns j).1=(en pl F ns []).getD j.toNat bZ:=by have h:=YL pl F ns [];unfold gd ml;rw[YK,h];rfl
abbrev dt:=BitVec 64
def lA(k:Nat):dt:=1#64 <<< k
def LD{k i:Nat}(hi:i<64):(lA k).getLsbD i=decide (i=k):=by
 unfold lA;rw[BitVec.getLsbD_shiftLeft];simp only[hi,KX,n2];by_cases h:i<k
 ·have bt:¬ i=k:=by omega
  simp[h,bt]
 ·simp only[h,decide_false,Bool.not_false,n2];by_cases e:i=k
  ·subst e;simp
  ·rw[et e];have ab:0<i-k:=by omega
   rw[BitVec.getLsbD_one];simp;omega
def aky(l:List Nat):∀ (w:dt) {i:Nat},i<64->(l.foldl (λw k=>w ||| lA k) w).getLsbD i=(w.getLsbD i||l.contains i):=by
 induction l with
 |nil=>intro w i hi;simp| cons k l aL=>intro w i hi;rw[js,aL _ hi,Cg,LD hi,List.contains_cons,Bool.or_assoc];rfl
def nd(m:List dt):Nat->Nat->dt->dt
 |_,0,w=>w| k,f+1,w=>nd m (k+1) f (bif w.getLsbD k then w ||| m.getD k 0 else w)
def r2(m:List dt):List dt:=(List.range 64).map λi=>nd m 0 64 (m.getD i 0)
inductive qO(m:List dt):Nat->Nat->Prop
 |one{i k}(ae:k<64)(h:(m.getD i 0).getLsbD k=true):qO m i k| step {i j k} (h:(m.getD i 0).getLsbD j=true) (ai:j<64) (t:qO m j k):qO m i k
def qO.trans{m:List dt}{i j k:Nat}(h:qO m i j)(bc:qO m j k):qO m i k:=by
 induction h with
 |one ae h=>exact .step h ae bc| step h ai t aL=>exact .step h ai (aL bc)
def jR(x y:dt):Prop:=∀ i,i<64->x.getLsbD i=true->y.getLsbD i=true
def jR.refl(x:dt):jR x x:=λ_ _ h=>h
def jR.trans{x y z:dt}(h:jR x y)(bc:jR y z):jR x z:=λi hi ad=>bc i hi (h i hi ad)
def jR.or(x y:dt):jR x (x ||| y):=λi hi h=>by rw[Cg,h];rfl
def jR.or'(x y:dt):jR y (x ||| y):=λi hi h=>by rw[Cg,h,Ex]
def jR.YH{x y:dt}(h:jR x y)(bc:jR y x):x=y:=QC λi hi=>by
 have aa:=h i hi;have ab:=bc i hi;cases ad:x.getLsbD i<;>cases aE:y.getLsbD i<;>simp_all
def jR.and{x y:dt}(h:jR x y):x &&& y=x:=QC λi hi=>by
 have aa:=h i hi;rw[QD];cases ad:x.getLsbD i<;>simp_all
def HZ(m:List dt):∀ (f k:Nat) (w:dt),jR w (nd m k f w)
 |0,k,w=>jR.refl w
 |f+1,k,w=>by
  rw[nd];cases w.getLsbD k with
  |true=>exact(jR.or _ _).trans (HZ m f (k+1) _)| false=>exact HZ m f (k+1) _
def QU{m:List dt}{P:Nat->Prop}(hm:∀ j,P j->∀ x,x<64->(m.getD j 0).getLsbD x=true->P x):∀ (f k:Nat) (w:dt),k+f<=64->(∀ x,x<64->w.getLsbD x=true->P x)->∀ x,x<64->(nd m k f w).getLsbD x=true->P x
 |0,k,w,_,hw=>hw
 |f+1,k,w,ae,hw=>by
  rw[nd];cases ag:w.getLsbD k with
  |true=>
   refine QU hm f (k+1) _ (by omega) λx ad h=>?_;rw[b5,Cg,kQ]at h;rcases h with h | h;·exact hw x ad h
   ·exact hm k (hw k (by omega) ag) x ad h
  |false=>exact QU hm f (k+1) _ (by omega) hw
def QV{m:List dt}:∀ (f k:Nat) {w:dt},nd m k f w=w->∀ j,k<=j->j<k+f->w.getLsbD j=true->jR (m.getD j 0) w
 |0,k,w,_,j,aa,ab,_=>by omega
 |f+1,k,w,h,j,aa,ab,ai=>by
  rw[nd]at h;cases ag:w.getLsbD k with
  |true=>
   rw[ag,b5]at h;have e:w ||| m.getD k 0=w:=by refine jR.YH ?_ (jR.or _ _);have:=HZ m f (k+1) (w ||| m.getD k 0);rwa [h]at this
   by_cases QW:j=k;·subst QW;have:=jR.or' w (m.getD j 0);rwa [e]at this
   ·rw[e]at h;exact QV f (k+1) h j (by omega) (by omega) ai
  |false=>
   rw[ag,b']at h;by_cases QW:j=k;·subst QW;rw[ag]at ai;cases ai
   ·exact QV f (k+1) h j (by omega) (by omega) ai
def YM(m:List dt):(r2 m).length=64:=by simp[r2]
def LF(m:List dt){i:Nat}(h:i<64):(r2 m).getD i 0=nd m 0 64 (m.getD i 0):=by simp[r2,bA,h]
structure z5(jk m:List dt):Prop where
 len:m.length=64
 le:∀ i,i<64->jR (jk.getD i 0) (m.getD i 0)
 ok:∀ i,i<64->∀ k,k<64->(m.getD i 0).getLsbD k=true->qO jk i k
def z5.start{jk:List dt}(h:jk.length=64):z5 jk jk:=⟨h,λi _=>jR.refl _,λi _ k ae ag=>.one ae ag⟩
def z5.next{jk m:List dt}(h:z5 jk m):z5 jk (r2 m):=by
 refine⟨YM m,λi hi=>?_,λi hi k ae ag=>?_⟩
 ·rw[LF m hi];exact(h.le i hi).trans (HZ m 64 0 _)
 ·rw[LF m hi]at ag;refine QU (P:=λx=>x<64/\qO jk i x) (λj ai x ad ag=>⟨ad,ai.2.trans (h.ok j ai.1 x ad ag)⟩) 64 0 _ (ca _) (λx ad ag=>⟨ad,h.ok i hi x ad ag⟩) k ae ag |>.2
def z5.done{jk m:List dt}(h:z5 jk m)(aA:r2 m=m){i k:Nat}(hi:i<64)(ae:k<64):(m.getD i 0).getLsbD k=true ↔ qO jk i k:=by
 refine⟨h.ok i hi k ae,λan=>?_⟩;have dX:∀ i,i<64->∀ j,j<64->(m.getD i 0).getLsbD j=true->jR (m.getD j 0) (m.getD i 0):=λi hi j ai ag=>by have:=LF m hi;rw[aA]at this;exact QV 64 0 this.symm j (dD _) (by omega) ag
 revert hi
 induction an with
 |one hd ag=>exact λhi=>h.le _ hi _ hd ag
 |step ag ai t aL=>exact λhi=>dX _ hi _ ai (h.le _ hi _ ai ag) _ ae (aL ae ai)
def z6(m:List dt):Nat:=(m.map HY).sum
def YN:∀ {m n:List dt},m.length=n.length->(∀ i,i<m.length->jR (m.getD i 0) (n.getD i 0))->z6 n<=z6 m/\(z6 m<=z6 n->m=n)
 |[],[],_,_=>⟨ca _,λ_=>rfl⟩| [],_::_,h,_=>by simp at h
 |_::_,[],h,_=>by simp at h
 |a::m,b::n,h,ar=>by
  have az:jR a b:=by simpa using ar 0 (by simp)
  obtain⟨aa,ab⟩:=akw az.and;obtain⟨t1,t2⟩:=YN (m:=m) (n:=n) (by simpa using h) λi hi=>by simpa using ar (i+1) (by simpa using hi)
  simp only[z6,b0,h4]at t1 t2 |-;refine⟨by omega,λbm=>?_⟩;rw[ab (by omega),t2 (by omega)]
def akz{m:List dt}(ay:m.length=64)(h:r2 m≠m):z6 (r2 m)<z6 m:=by
 have ar:=YN (m:=m) (n:=r2 m) (by rw[ay,YM]) λi hi=>by rw[LF m (by omega)];exact HZ m 64 0 _
 refine Nat.lt_of_le_of_ne ar.1 λe=>h (ar.2 (by omega)).symm
def QX(m:List dt):dt:=(List.range 64).foldl (λw i=>w ||| ((m.getD i 0) &&& lA i)) 0
def YO(m:List dt):∀ (l:List Nat) (w:dt) {i:Nat},i<64->(∀ k∈l,k<64)->(l.foldl (λw i=>w ||| ((m.getD i 0) &&& lA i)) w).getLsbD i=(w.getLsbD i||(l.contains i&&(m.getD i 0).getLsbD i))
 |[],w,i,hi,_=>by simp
 |k::l,w,i,hi,ay=>by
  rw[js,YO m l _ hi λk ae=>ay k (.tail _ ae),Cg,QD,LD hi,List.contains_cons];by_cases e:i=k
  ·subst e;simp;cases w.getLsbD i<;>cases(m.getD i 0).getLsbD i<;>simp
  ·have cX:(i == k)=false:=by simpa using e
   rw[et e,cX];simp
def akA(m:List dt){i:Nat}(hi:i<64):(QX m).getLsbD i=(m.getD i 0).getLsbD i:=by
 unfold QX;rw[YO m _ _ hi λk ae=>g7.1 ae];have:(List.range 64).contains i=true:=by simpa using hi
 rw[this];simp
def bitsOf(w:dt)(n:Nat):List Nat:=(List.range n).filter λi=>w.getLsbD i
def YP(w:dt)(n:Nat):bitsOf w (n+1)=bitsOf w n++(bif w.getLsbD n then [n]else []):=by
 unfold bitsOf;rw[B3,yb];cases h:w.getLsbD n<;>simp[h]
def akB(w:dt)(n:Nat):(bitsOf w n).length<=n:=by unfold bitsOf;have:=Bv (λi=>w.getLsbD i) (List.range n);simpa using this
section
variable{X:cU}{o:Oper}{F:Fr}{C:dC}{I:aJ}{M:List aD}{K:gi}
def bz.akC(aO:cT X.P X.E){x:Operand}{e:Nat}(aH:o.op=.convert src dst x)(ak:∀ d,o.dst=some d->d<X.n)
 {c7:dG} (av:X.E src=some c7) (dR:c7.bL=.slice e) (he:X.E e=some aF) (kw:aF.bL=.int .u8) (j7:X.E dst=some Lt) (gn:Lt.bL=.string)
 {n c:Nat} {l:List UInt8} (ad:bE F x=.val (.slice (some aS) n c)) (aB:l.length=n) (bl:cF I M aS n (l.map λb=>.int .u8 b.toNat))
  (h:K (put o.dst (.val (.string ⟨l.toArray⟩)) F) C I M):bz X o F C I M K:=by
 subst aB;refine⟨λa w Q ⟨β,aV⟩=>?_⟩;obtain⟨ar,cs,T,al,ae,ah,ay⟩:=bl;have au:=ae.heap aV.holds;obtain⟨d,fF,fk⟩:=(aO _ _ av).fo;have aa:d=.slice e:=by rw[dR]at fk;cases d<;>simp_all[fm]
 subst aa;obtain⟨d2,QY,qD⟩:=(aO _ _ he).fo;have ab:d2=.int .u8:=by rw[kw]at qD;cases d2<;>simp_all[fm]
 subst ab;obtain⟨d3,QZ,zN⟩:=(aO _ _ j7).fo;have aj:d3=.string:=by rw[gn]at zN;cases d3<;>simp_all[fm]
 subst aj;have an:∀ j (ai:j<l.length),w.cell? (aS.add j)=some (.int .u8 (l[j].toNat:Int)):=by
  intro j ai;rw[eP aS ar,tk au];have ix:(l.map λb=>Value.int .u8 b.toNat)[j]?=some (.int .u8 (l[j].toNat:Int)):=by simp[ai]
  rw[<-ah,k7,bN ai,nX]at ix;simpa using ix
 have ex:=dd aV.al ad;refine vQ aV ak (by rw[aH];simp) ?_ h;unfold execOp;simp only[aH,ck,c3,ex,run_convert_bytes_back w src dst e aS c l fF QY QZ an,bV]
end
section
variable{X:cU}{F:Fr}{C:dC}{I:aJ}{M:List aD}{o:Oper}{K:gi}
def bz.akD(aO:cT X.P X.E){x:Operand}{e:Nat}(aH:o.op=.convert src dst x)(ak:∀ d,o.dst=some d->d<X.n)
 {c7:dG} (av:X.E src=some c7) (dR:c7.bL=.slice e) (he:X.E e=some aF) (kw:aF.bL=.int .u8) (j7:X.E dst=some Lt) (gn:Lt.bL=.string)
  {c:Nat} (ad:bE F x=.val (.slice none 0 c))
  (h:K (put o.dst (.val (.string ⟨#[]⟩)) F) C I M):bz X o F C I M K:=by
 refine⟨λa w Q ⟨β,aV⟩=>?_⟩;obtain⟨d,fF,fk⟩:=(aO _ _ av).fo;have aa:d=.slice e:=by rw[dR]at fk;cases d<;>simp_all[fm]
 subst aa;obtain⟨d2,QY,qD⟩:=(aO _ _ he).fo;have ab:d2=.int .u8:=by rw[kw]at qD;cases d2<;>simp_all[fm]
 subst ab;obtain⟨d3,QZ,zN⟩:=(aO _ _ j7).fo;have aj:d3=.string:=by rw[gn]at zN;cases d3<;>simp_all[fm]
 subst aj;have ex:=dd aV.al ad;refine vQ aV ak (by rw[aH];simp) ?_ h;unfold execOp;have fa:(convert src dst (.slice none 0 c)).run X.P w=.ok (.string ⟨#[]⟩) w:=by rw[run_convert_bytes_string w src dst e none 0 c fF QY QZ];rfl
 simp only[aH,ck,c3,ex,fa,bV]
end
def be.whole{K:Value->aJ->List aD->Prop}(post:Value->aJ->List aD->Prop)(ar:Spec P f args I M post)(k:∀ v I' M',(∀ b o,I b=some o->I' b=some o)->post v I' M'->K v I' M'):be foot P f args I M K:=
 .mk M [] post (by simp) ar λv I' M' aa ab=>by rw[ee];exact k v I' M' aa ab
def d'.whole{soft:Bool}{K:Value->aJ->List aD->Prop}(post:Value->aJ->List aD->Prop)(ar:Spec P f args I M post)(ny:∀ v I' M',post v I' M'->∀ x∈M,x∈M')(k:∀ v I' M',(∀ b o,I b=some o->I' b=some o)->post v I' M'->K v I' M'):d' soft foot P f args I M K:=
 .oE M [] post (by simp) ar ny λv I' M' aa ab=>by rw[ee];exact k v I' M' aa ab
section
variable{X:cU}{β:Nat->Nat}{a:Act}{w:World}{F:Fr}{C:dC}{I:aJ}{M:List aD}{o:Oper}{K:gi}
def ic.n'{I:aJ}{M M':List aD}(h:M=M'):ic foot I M I M':=by subst h;exact .refl
def bz.hW(h:bz X o F C I M λF C I M=>∃ I' M',ic X.foot I M I' M'/\K F C I' M'):bz X o F C I M K:=by obtain⟨h⟩:=h;refine⟨λa w Q aV=>te ?_ (h a w Q aV)⟩;rintro bO w'⟨dm,C',I',M',⟨β,af⟩,dI,dq,hw,ae⟩;exact⟨dm,C',dI,dq,⟨β,af.hW hw⟩,ae⟩
def bz.oZ(aO:cT X.P X.E){x:Operand}(aH:o.op=.call { callee:=.builtin .append,args:=#[s,x],argTypes:=#[t,t] })(ak:∀ d,o.dst=some d->d<X.n)
  {e:Nat} {c7:dG} (av:X.E t=some c7) (dR:c7.bL=.slice e) (he:X.E e=some aF)
  (os:aY) (bx:os.ok aF.size xs) (ar:bE F s=.val os.val)
  {b9:Nat} {cs:List Value} (ad:bE F x=.val (.slice (some ⟨b9,0,none⟩) 1 c')) (ay:cs.length=aF.size) (aa:gv cs=true)
  (a9 post:List aD) (a':M=⟨b9,.cells cs.toArray e (0,0)⟩::(a9++(os.aq e++post))) (b1:os.n+1<=9223372036854775807) (bW:(os.n+1)*aF.bytes<=140737488355328)
  (k:∀ bs:aY,bs.n=os.n+1->(∀ g,bs.a=some g->I g=none)->bs.ok aF.size (xs++cs)->K (put o.dst (.val bs.val) F) C I (a9++(bs.aq e++post))):bz X o F C I M K:=by
 refine .hW (.GU aO aH ak av dR he os bx ar (m:=1) (b8:=cs) ad (by decide) ?_ aa (Mr:=⟨b9,.cells cs.toArray e (0,0)⟩::(a9++post)) ?_ (by unfold maxLen;exact b1) bW ?_)
 ·rw[oD];refine⟨rfl,_,_,_,.inr ⟨⟨b9,.cells cs.toArray e (0,0)⟩,by rw[a'];exact .head _,rfl,rfl⟩,?_,ay⟩;simp only[vW];exact fA (by omega)
 ·rw[a'];have ab:(⟨b9,.cells cs.toArray e (0,0)⟩::(a9++(os.aq e++post)):List aD).Perm (⟨b9,.cells cs.toArray e (0,0)⟩::(os.aq e++(a9++post))):=.cons _ (B2 _ _ _);exact ab.trans mw.symm
 ·intro g c aT bw dF eJ eF ik;refine⟨I,a9++((⟨some g,os.n+1,c,aT⟩:aY).aq e++post),.sub (M1:=⟨g,.cells aT.toArray e (0,0)⟩::(a9++post)) (.cons_cons _ (.cons _ (.refl _))) (.perm ?_ .refl),k ⟨some g,os.n+1,c,aT⟩ rfl (λdK au=>by cases au;exact bw) ⟨?_,(λh=>by cases h),λdK au=>?_⟩⟩
  ·exact mw.symm
  ·rw[ch,bx.len,ay,lO,oD]
  ·cases au;exact⟨dF,eJ,eF,ik⟩
def bz.EG(aO:cT X.P X.E){x:Operand}(aH:o.op=.call { callee:=.builtin .append,args:=#[s,x],argTypes:=#[t,t] })(ak:∀ d,o.dst=some d->d<X.n)
  {e:Nat} {c7:dG} (av:X.E t=some c7) (dR:c7.bL=.slice e) (he:X.E e=some aF)
  (os:aY) (bx:os.ok aF.size xs) (ar:bE F s=.val os.val)
  {sa:Option Addr} {m:Nat} {b8:List Value} (ad:bE F x=.val (.slice sa m c')) (ay:b8.length=m*aF.size) (aB:0<m->∃ aS,sa=some aS/\cF I M aS (m*aF.size) b8) (aa:gv b8=true)
  (a9 post:List aD) (a':M=a9++(os.aq e++post)) (b1:os.n+m<=9223372036854775807) (bW:(os.n+m)*aF.bytes<=140737488355328)
  (k:∀ bs:aY,bs.n=os.n+m->(0<m->∀ g,bs.a=some g->I g=none)->bs.ok aF.size (xs++b8)->K (put o.dst (.val bs.val) F) C I (a9++(bs.aq e++post))):bz X o F C I M K:=by
 by_cases az:m=0
 ·subst az;have oG:b8=[]:=iy (by simpa using ay);subst oG;refine .Po aO aH ak av dR av (λk=>by rw[dR];simp) he (sa:=os.a.map λg=>⟨g,0,none⟩) (n:=os.n) (c:=os.c) ar ?_ ad (.inl ⟨_,_,rfl⟩) ?_
  ·cases a4:os.a with
   |none=>obtain⟨dF,eJ⟩:=bx.nil a4;omega
   |some g=>exact(bx.cap g a4).2.1
  ·have:=k os rfl (λh=>by omega) (by rw[ee];exact bx);rw[a'];exact this
 obtain⟨aS,rfl,bl⟩:=aB (by omega);refine .hW (.GU aO aH ak av dR he os bx ar (m:=m) (b8:=b8) ad (by omega) bl aa (Mr:=a9++post) ?_ (by unfold maxLen;exact b1) bW ?_)
 ·rw[a'];exact(B2 _ _ _)
 ·intro g c aT bw dF eJ eF ik;refine⟨I,a9++((⟨some g,os.n+m,c,aT⟩:aY).aq e++post),.perm ?_ .refl,k ⟨some g,os.n+m,c,aT⟩ rfl (λ_ dK au=>by cases au;exact bw) ⟨?_,(λh=>by cases h),λdK au=>?_⟩⟩
  ·exact mw.symm
  ·rw[ch,bx.len,ay,lO]
  ·cases au;exact⟨dF,eJ,eF,ik⟩
end
noncomputable section
inductive bf(α:Type) where
 |nil| node (x:Option α) (l r:bf α)
def bY{α:Type}(b:Bool)(x y:α):α:=@Bool.rec (λ_=>α) y x b
def bo{α R:Type}(o:Option α)(x:R)(f:α->R):R:=@Option.rec α (λ_=>R) x f o
section
variable{α R:Type}
def bf.get(t:bf α):Nat->Option α:=@bf.rec α (λ_=>Nat->Option α) (λ_=>none) (λx _ _ akE EH k=>bY (Nat.beq k 0) x (bY (Nat.beq (Nat.mod k 2) 1) (akE (Nat.div k 2)) (EH (Nat.sub (Nat.div k 2) 1)))) t
def bf.nO(v:Option α)(t:bf α):Nat->(bf α->R)->R:=@bf.rec α (λ_=>Nat->(bf α->R)->R) (λk K=>bY (Nat.beq k 0) (K (.node v .nil .nil)) (K .nil)) (λx l r sl akF k K=>bY (Nat.beq k 0) (K (.node v l r)) (bY (Nat.beq (Nat.mod k 2) 1) (sl (Nat.div k 2) λl=>K (.node x l r)) (akF (Nat.sub (Nat.div k 2) 1) λr=>K (.node x l r)))) t
def bf.EI(t:bf α)(off n:Nat):(List α->Option R)->Option R:=@Nat.rec (λ_=>Nat->(List α->Option R)->Option R) (λ_ K=>K []) (λ_ aL off K=>bo (t.get off) none λv=>aL (Nat.add off 1) λl=>K (v::l)) n off
def bf.yf(l:List α)(t:bf α)(off:Nat)(K:bf α->R):R:=@List.rec α (λ_=>bf α->Nat->R) (λt _=>K t) (λv _ aL t off=>t.nO (some v) off λt=>aL t (Nat.add off 1)) l t off
def bf.bare:Nat->bf α
 |0=>.nil| n+1=>.node none (bf.bare n) (bf.bare n)
end
inductive ap where
 |b(x:Bool) | i (k:IntKind) (n:Int) | s (l:List UInt8)| pn | p (id off:Nat) | g (n off:Nat)| sn | sl (id off n c:Nat) | sx (id off e n:Nat) | gs (g off n c:Nat) | so| mn | m (id:Nat)| f (g:Nat) (l r:List ap) | y (id:Nat) | fn| ni | H0 (t:Nat) (v:ap)| t (l:List ap) | a (l:List ap)
def ap.cells:ap->List ap
 | .a l=>l| v=>[v]
def ap.one:ap->Bool
 | .a _ | .t _=>false| _=>true
def H2:Value->Option ap
 | .bool x=>some (.b x)| .int k n=>some (.i k n)| .string q=>some (.s q.data.toList)| .pointer none=>some .pn| .slice none 0 0=>some .sn| .map none=>some .mn| .nilFunc=>some .fn| .nilIface=>some .ni| _=>none
def yg:List Value->Option (List ap)
 |[]=>some []
 |v::vs=>match H2 v,yg vs with
  |some x,some l=>some (x::l)| _,_=>none
def EJ:Value->Option ap
 | .agg cs=>match yg cs.toList with
  |some l=>some (.a l)| none=>none
 |v=>H2 v
def ap.nat:ap->Option Nat
 | .i _ (.ofNat n)=>some n| _=>none
inductive fG where
 |cells(cs:bf ap)(T fH:Nat)| map (es:List (ap×ap))| loop (busy:Bool) (n:Nat) (al:bf ap) (ps:List Nat) (fg body:Code)| done (c:Code) (n:Nat) (al:bf ap) (ps:List Nat) (fg body:Code)
structure bp where
 t:bf fG
 n:Nat
def sV:Int->Int->Bool
 | .ofNat a,.ofNat b=>Nat.beq a b| .negSucc a,.negSucc b=>Nat.beq a b| _,_=>false
def Cj:Int->Int->Bool
 | .ofNat a,.ofNat b=>Nat.ble a b| .negSucc a,.negSucc b=>Nat.ble b a| .negSucc _,.ofNat _=>true| .ofNat _,.negSucc _=>false
def DA(a b:Int):Bool:=!Cj b a
def Q0(op:BinOp)(x y:Int):Option Bool:=match op with
 | .eql=>some (sV x y)| .neq=>some (!sV x y)| .lss=>some (DA x y)| .leq=>some (Cj x y)| .gtr=>some (DA y x)| .geq=>some (Cj y x)| _=>none
def LG:IntKind->Nat
 | .i8=>127 | .i16=>32767 | .i32=>2147483647 | .i64=>9223372036854775807| .u8=>255 | .u16=>65535 | .u32=>4294967295 | .u64=>18446744073709551615
def wD(k:IntKind):Int->Int
 | .ofNat n=>bif Nat.ble n (LG k)then .ofNat n else k.wrap (.ofNat n)| n=>k.wrap n
def YQ:Int->Int->Int
 | .ofNat a,.ofNat b=>.ofNat (Nat.add a b)| a,b=>a+b
def Q1:Int->Int->Int
 | .ofNat a,.ofNat b=>bif Nat.ble b a then .ofNat (Nat.sub a b)else(.ofNat a:Int) - .ofNat b| a,b=>a-b
def YR:Int->Int->Int
 | .ofNat a,.ofNat b=>.ofNat (Nat.mul a b)| a,b=>a*b
def YS:Int->Int->Int
 | .ofNat a,.ofNat b=>.ofNat (Nat.div a b)| a,b=>a.tdiv b
def YT:Int->Int->Int
 | .ofNat a,.ofNat b=>.ofNat (Nat.mod a b)| a,b=>a.tmod b
def YU:Int->Nat->Int
 | .ofNat a,j=>.ofNat (Nat.mul a (Nat.pow 2 j))| a,j=>a*2^j
def YV:Int->Nat->Int
 | .ofNat a,j=>.ofNat (Nat.div a (Nat.pow 2 j))| a,j=>a.fdiv (2^j)
def EK(op:BinOp)(k:IntKind)(x y:Int):Option Int:=
 match k,x,y with
 | .u64,.ofNat a,.ofNat b=>
  bif Nat.ble a 18446744073709551615&&Nat.ble b 18446744073709551615 then
   (match op with
   | .and=>some (.ofNat (Nat.land a b))| .or=>some (.ofNat (Nat.lor a b))| .xor=>some (.ofNat (Nat.xor a b))| .andNot=>some (.ofNat (Nat.land a (Nat.sub 18446744073709551615 b)))| _=>none)
  else none
 |_,_,_=>ux op k x y
def Q2(a b:UInt8):Bool:=Nat.beq a.toNat b.toNat
def vc:List UInt8->List UInt8->Bool
 |[],[]=>true| a::l,b::m=>bif Q2 a b then vc l m else false| _,_=>false
def EL:ap->ap->Option Bool
 | .b x,.b w=>some (x == w)| .i k x,.i l w=>bY (IntKind.mQ k l) (some (sV x w)) none| .s x,.s w=>some (vc x w)| _,_=>none
def YW:List ap->List ap->Option Bool
 |[],[]=>some true
 |x::l,w::m=>match EL x w with
  |some true=>YW l m
  |some false=>(match YW l m with
   |some _=>some false| none=>none)
  |none=>none
 |_,_=>none
def avk:ap->ap->Option Bool
 | .pn,.pn=>some true| .pn,.p _ _=>some false| .p _ _,.pn=>some false| .pn,.g _ _=>some false| .g _ _,.pn=>some false| _,_=>none
def Q3(op:BinOp)(k eZ:IntKind)(a b:Int):Option ap:=match op with
 | .shl=>(match b with
  | .ofNat j=>some (.i k (wD k (YU a (bY (Nat.ble j k.bits) j k.bits))))| _=>none)
 | .shr=>(match b with
  | .ofNat j=>some (.i k (YV a (bY (Nat.ble j k.bits) j k.bits)))| _=>none)
 | .add=>bY (IntKind.mQ k eZ) (some (.i k (wD k (YQ a b)))) none| .sub=>bY (IntKind.mQ k eZ) (some (.i k (wD k (Q1 a b)))) none| .mul=>bY (IntKind.mQ k eZ) (some (.i k (wD k (YR a b)))) none| .quo=>bY (IntKind.mQ k eZ) (bY (sV b 0) none (some (.i k (wD k (YS a b))))) none| .rem=>bY (IntKind.mQ k eZ) (bY (sV b 0) none (some (.i k (YT a b)))) none| .and=>bY (IntKind.mQ k eZ) (bo (EK .and k a b) none λr=>some (.i k r)) none| .or=>bY (IntKind.mQ k eZ) (bo (EK .or k a b) none λr=>some (.i k r)) none| .xor=>bY (IntKind.mQ k eZ) (bo (EK .xor k a b) none λr=>some (.i k r)) none| .andNot=>bY (IntKind.mQ k eZ) (bo (EK .andNot k a b) none λr=>some (.i k r)) none| op=>bY (IntKind.mQ k eZ) (bo (Q0 op a b) none λr=>some (.b r)) none
def Q4(op:BinOp)(a b:List UInt8):Option ap:=match op with
 | .eql=>some (.b (vc a b))| .neq=>some (.b (bY (vc a b) false true))| .add=>bY (Nat.ble (Nat.add a.length b.length) 9223372036854775807) (some (.s (a++b))) none| _=>none
def Q5(op:BinOp)(c7:Option dG)(a b:Bool):Option ap:=match c7 with
 |some { bL:=.bool,.. }=>
  (match op with
  | .eql=>some (.b (a == b))| .neq=>some (.b (!(a == b)))| _=>none)
 |_=>none
def EM(agg:Bool)(l:List ap):Option ap:=bif agg then some (.a l)else match l with
 |[v]=>some v| _=>none
def Ck:Nat->List ap->Option (List ap)
 |0,_=>some []| _+1,[]=>none
 |n+1,v::l=>match Ck n l with
  |some r=>some (v::r)| none=>none
def Cl{α:Type}:List α->Nat->List α
 |[],_=>[]| v::l,n=>bif Nat.beq n 0 then v::l else Cl l (Nat.sub n 1)
def z7(E:Env)(t o:Nat)(l:List ap):Option ap:=bo (E t) none λi=>bY (Nat.beq i.size 0) none <| bo (Ck i.size (Cl l o)) none λr=>EM i.bL.agg r
def Cm(F:Nat->ap->ap->Option Bool)(E:Env)(l m:List ap):List (Nat×Nat)->Option Bool
 |[]=>some true|(t,o)::r=>bo (z7 E t o l) none λx=>bo (z7 E t o m) none λy=>bo (F t x y) none λb=>bY b (Cm F E l m r) (some false)
def YX(P:Program)(t:Nat):Bool:=match P.underlying t with
 |some (.struct cQ)=>!P.stoodInHeld t&&cQ.toList.all λf=>decide (f.name ≠ "_")
 |_=>false
def yh(P:Program)(E:Env):Nat->Nat->ap->ap->Option Bool
 |0,_,_,_=>none
 |d+1,t,x,y=>bo (E t) none λi=>match i.bL,x,y with
  | .bool,.b a,.b b=>some (a == b)| .int _,.i k a,.i eZ b=>bY (IntKind.mQ k eZ) (some (sV a b)) none| .string,.s a,.s b=>some (vc a b)| .struct cQ,.a l,.a m=>bY (YX P t) (Cm (yh P E d) E l m cQ) none| .array n e,.a l,.a m=>bo (E e) none λaF=>Cm (yh P E d) E l m ((List.range n).map λi=>(e,i*aF.size))
  |_,_,_=>none
def H3(P:Program)(E:Env)(op:BinOp)(t:Nat)(l m:List ap):Option ap:=bY (P.eqGuardType P.depth t) none (bo (yh P E 8 t (.a l) (.a m)) none λb=>match op with
 | .eql=>some (.b b)| .neq=>some (.b (!b))| _=>none)
def Q6:ap->Option Bool
 | .sn=>some true| .sl .. | .sx .. | .gs .. | .so=>some false| _=>none
def Q7:ap->Option Bool
 | .pn=>some true| .p .. | .g ..=>some false| _=>none
def LH(op:BinOp)(b:Bool):Option ap:=match op with
 | .eql=>some (.b b)| .neq=>some (.b (!b))| _=>none
def Q8(P:Program)(E:Env)(op:BinOp)(t:Nat)(x y:ap):Option ap:=
 match x,y with
 | .i k a,.i eZ b=>Q3 op k eZ a b| .s a,.s b=>Q4 op a b| .b a,.b b=>Q5 op (E t) a b| .a l,.a m=>H3 P E op t l m
 |x,.sn=>bo (E t) none λi=>(match i.bL with
  | .slice _=>bo (Q6 x) none λb=>LH op b
  |_=>none)
 |x,.pn=>bo (E t) none λi=>(match i.bL with
  | .pointer _=>bo (Q7 x) none λb=>LH op b
  |_=>none)
 |_,_=>none
def wE{α:Type}:List α->Nat->Option α
 |[],_=>none| v::l,n=>bif Nat.beq n 0 then some v else wE l (Nat.sub n 1)
def yi:List ap->Nat->List ap->Option (List ap)
 |cs,0,[]=>some cs
 |_::cs,0,v::vs=>match yi cs 0 vs with
  |some r=>some (v::r)| none=>none
 |c::cs,n+1,vs=>match yi cs n vs with
  |some r=>some (c::r)| none=>none
 |[],_,_=>none
def z8(place:Nat->Option (Nat×Nat)):List ap->List (Nat×ap)->Option (List ap)
 |cells,[]=>some cells
 |cells,(i,v)::bj=>match place i with
  |none=>none
  |some (off,size)=>bif Nat.beq v.cells.length size then(match yi cells off v.cells with
   |some cs=>z8 place cs bj| none=>none)else none
def dj(al:bf ap):Operand->Option ap
 | .tmp t=>al.get t| .const v=>EJ v| .global g=>some (.g g 0)| .func f=>some (.f f [] [])
def oa(al:bf ap):List Operand->Option (List ap)
 |[]=>some []
 |x::xs=>match dj al x,oa al xs with
  |some v,some l=>some (v::l)| _,_=>none
def EN(al:bf ap):List (Nat×Operand)->Option (List (Nat×ap))
 |[]=>some []
 |(i,x)::xs=>match dj al x,EN al xs with
  |some v,some l=>some ((i,v)::l)| _,_=>none
abbrev GT:=Nat->Option (bf ap)
def tW{R:Type}(G:GT)(m:bf fG)(x:ap)(n:Nat)(K:List ap->Option R):Option R:=match x with
 | .p id off=>(match m.get id with
  |some (.cells cs _ fH)=>bif Nat.ble (Nat.add off n) fH then cs.EI off n K else none| _=>none)
 | .g g off=>(match G g with
  |some cs=>cs.EI off n K| none=>none)
 |_=>none
def H4(x:ap)(n:Nat):Option ap:=match x with
 | .p id off=>some (.p id (Nat.add off n))| .g g off=>some (.g g (Nat.add off n))| _=>none
def LI(x:ap)(j sz:Nat):Option ap:=match x with
 | .sl id off n _=>bif Nat.blt j n then some (.p id (Nat.add off (Nat.mul j sz)))else none| .sx id off _ n=>bif Nat.blt j n then some (.p id (Nat.add off (Nat.mul j sz)))else none| .gs g off n _=>bif Nat.blt j n then some (.g g (Nat.add off (Nat.mul j sz)))else none| _=>none
def wF:ap->Option Nat
 | .sn | .so=>some 0| .sl _ _ n _ | .sx _ _ _ n | .gs _ _ n _=>some n| _=>none
def sW(v:ap):Option Nat:=match v with
 | .s l=>some l.length| v=>wF v
def Q9(x:ap)(sz l:Nat)(h:Option Nat):Option ap:=match x with
 | .sn=>bif Nat.beq l 0&&Nat.beq (h.getD 0) 0 then some .sn else none
 | .sl id off n c=>let h:=h.getD n
  bif Nat.ble l h&&Nat.ble h c then bif Nat.beq c l then some (.sl id off (Nat.sub h l) 0)else some (.sl id (Nat.add off (Nat.mul l sz)) (Nat.sub h l) (Nat.sub c l))else none
 | .sx id off e n=>let h:=h.getD n
  bif Nat.ble l h&&Nat.ble h n then(bif Nat.beq l 0||Nat.blt l n then some (.sx id (Nat.add off (Nat.mul l sz)) (Nat.add e l) (Nat.sub h l))else some .so)else none
 |_=>none
def Cn(o:Option (Option ap)):Option (Option Nat):=match o with
 |none=>some none
 |some (some v)=>(match v.nat with
  |some n=>some (some n)| none=>none)
 |some none=>none
def Q'(l:List UInt8)(lo hi:Nat):List UInt8:=(Cl l lo).take (Nat.sub hi lo)
def YY(c a b:Option ap):Option ap:=match c,a,b with
 |some (.b c),some u,some v=>some (bY c u v)| _,_,_=>none
def YZ(op:UnOp)(x:Option ap):Option ap:=match op,x with
 | .not,some (.b b)=>some (.b (bY b false true))| .neg,some (.i k n)=>some (.i k (wD k (0-n)))| _,_=>none
def Y0(P:Program)(E:Env)(op:BinOp)(t:Nat)(x y:Option ap):Option ap:=bo x none λx=>bo y none λy=>Q8 P E op t x y
def Y1(G:GT)(m:bf fG)(i:Option dG)(x:Option ap):Option ap:=bo i none λi=>bo x none λx=>tW G m x i.size λl=>EM i.bL.agg l
def Y2(x:Option ap):Option ap:=match x with
 |some (.p id off)=>some (.p id off)| some (.g g off)=>some (.g g off)| _=>none
def LJ(E:Env)(t i:Nat):Option (Nat×dG):=match E t with
 |some { bL:=.struct cQ,.. }=>(match wE cQ i with
  |some (fp,off)=>(match E fp with
   |some hj=>some (off,hj)| none=>none)
  |none=>none)
 |_=>none
def Y3(r:Option (Nat×dG))(x:Option ap):Option ap:=bo r none λr=>bo x none λx=>bY (Nat.beq r.2.size 0) none (H4 x r.1)
def LK(aF:dG)(cs:List ap)(off:Nat):Option ap:=bY (Nat.beq aF.size 0) none <| bo (Ck aF.size (Cl cs off)) none λl=>EM aF.bL.agg l
def Y4(r:Option (Nat×dG))(x:Option ap):Option ap:=match r,x with
 |some (off,hj),some (.a cs)=>LK hj cs off| _,_=>none
def Ra(E:Env)(t:Nat):Option (Option Nat×dG):=match E t with
 |some { bL:=.slice e,.. }=>(match E e with
  |some aF=>some (none,aF)| none=>none)
 |some { bL:=.array n e,.. }=>(match E e with
  |some aF=>some (some n,aF)| none=>none)
 |_=>none
def Y5(r:Option (Option Nat×dG))(x i:Option ap):Option ap:=bo r none λr=>bo x none λx=>bo i none λi=>bo i.nat none λj=>
 bo r.1 (LI x j r.2.size) λn=>bY (Nat.blt j n) (H4 x (Nat.mul j r.2.size)) none
def Rb(l:List UInt8)(j:Nat):Option ap:=bo (wE l j) none λb=>some (.i .u8 (.ofNat b.toNat))
def Y6(cs:List ap)(j n:Nat)(aF:dG):Option ap:=bY (Nat.beq (Nat.mul n aF.size) cs.length&&Nat.blt j n) (LK aF cs (Nat.mul j aF.size)) none
def H5(E:Env)(t:Nat)(x i:Option ap):Option ap:=match E t,x,i with
 |some { bL:=.string,.. },some (.s l),some i=>bo i.nat none λj=>Rb l j
 |some { bL:=.array n e,.. },some (.a cs),some i=>bo (E e) none λaF=>bo i.nat none λj=>Y6 cs j n aF
 |_,_,_=>none
def H6(o:Option (List ap)):Option ap:=bo o none λl=>some (.a l)
def Y7(E:Env)(t:Nat)(ps:Option (List (Nat×ap))):Option ap:=match E t,ps with
 |some i,some vs=>bo (yg i.zero) none λz=>(match i.bL with
  | .struct cQ=>bY (Dy E cQ) (H6 (z8 (places E cQ) z vs)) none| .array _ e=>bo (E e) none λaF=>H6 (z8 (λj=>some (j*aF.size,aF.size)) z vs)
  |_=>none)
 |_,_=>none
def Y8(f:Fn)(cQ cs:Option (List ap)):Option ap:=match f,cQ,cs with
 | .func g,some cQ,some cs=>some (.f g cQ cs)| _,_,_=>none
def Rc(aF:dG)(x:ap)(lo hi:Option Nat):Option ap:=match lo,hi with
 |none,none=>(match x with
  | .sn | .sl .. | .sx .. | .so=>some x| _=>none)
 |lo,hi=>Q9 x aF.size (lo.getD 0) hi
def Rd(l:List UInt8)(lo hi:Option Nat):Option ap:=match lo,hi with
 |none,none=>some (.s l)| lo,hi=>bY (Nat.ble (lo.getD 0) (hi.getD l.length)&&Nat.ble (hi.getD l.length) l.length) (some (.s (Q' l (lo.getD 0) (hi.getD l.length)))) none
def H7(E:Env)(t:Nat)(x:Option ap)(lo hi:Option (Option Nat)):Option ap:=match E t,x,lo,hi with
 |some { bL:=.slice e,.. },some x,some lo,some hi=>bo (E e) none λaF=>Rc aF x lo hi
 |some { bL:=.string,.. },some (.s l),some lo,some hi=>Rd l lo hi| _,_,_,_=>none
def Y9(x:Option ap)(i:Nat):Option ap:=match x with
 |some (.t vs)=>wE vs i| _=>none
def Y'(E:Env)(s d:Nat)(x:Option ap):Option ap:=match E s,E d,x with
 |some _,some { bL:=.int k,.. },some (.i _ n)=>some (.i k (wD k n))| _,_,_=>none
def LL(o:Option Nat):Option ap:=bo o none λn=>some (.i .i64 (.ofNat n))
def Za(E:Env)(fK:List Nat)(l:Option (List ap)):Option ap:=match fK,l with
 |[t],some [v]=>(match E t,v with
  |some { bL:=.slice _,.. },v=>LL (wF v)| some { bL:=.string,.. },.s l=>LL (some l.length)| some { bL:=.array n _,.. },_=>LL (some n)| _,_=>none)
 |_,_=>none
def Zb(l:Option (List ap)):Option ap:=match l with
 |some [.i k a,.i _ b]=>some (.i k (bY (Cj a b) b a))| _=>none
def Zc(l:Option (List ap)):Option ap:=match l with
 |some [.i k a,.i _ b]=>some (.i k (bY (Cj a b) a b))| _=>none
def Zd(E:Env)(fK:List Nat)(l:Option (List ap)):Option ap:=match fK,l with
 |[t],some [.sl _ _ _ c]=>(match E t with
  |some { bL:=.slice _,.. }=>some (.i .i64 (.ofNat c))| _=>none)
 |_,_=>none
def Ze(l:Option (List ap)):Option ap:=match l with
 |some [.sn]=>some .pn| some [.sl id off n c]=>bY (Nat.beq c 0) none (some (.p id off))| some [.sx id off e n]=>bY (Nat.beq n 0) none (some (.p id off))| _=>none
def Re(E:Env)(b:Builtin)(fK:List Nat)(l:Option (List ap)):Option ap:=match b with
 | .len=>Za E fK l| .max=>Zb l| .min=>Zc l| .cap=>Zd E fK l| .unsafeSliceData=>Ze l| _=>none
def Rf(P:Program)(E:Env)(G:GT)(m:bf fG)(op:Op)(al:bf ap):Option ap:=
 match op with
 | .move x=>dj al x| .assign x=>dj al x| .pick c a b=>YY (dj al c) (dj al a) (dj al b)| .unOp op _ x=>YZ op (dj al x)| .binOp op t x y _=>Y0 P E op t (dj al x) (dj al y)| .load t x=>Y1 G m (E t) (dj al x)| .nilCheck x=>Y2 (dj al x)| .fieldAddr t x i=>Y3 (LJ E t i) (dj al x)| .field t x i=>Y4 (LJ E t i) (dj al x)| .indexAddr t x i=>Y5 (Ra E t) (dj al x) (dj al i)| .index t x i=>H5 E t (dj al x) (dj al i)| .build t parts=>Y7 E t (EN al parts.toList)| .makeFunc f first captured=>Y8 f (oa al first.toList) (oa al captured.toList)
 | .slice t x lo hi none=>H7 E t (dj al x) (Cn (lo.map (dj al))) (Cn (hi.map (dj al)))| .extract x i=>Y9 (dj al x) i| .convert s d x=>Y' E s d (dj al x)| .call { callee:=.builtin b,args,argTypes }=>Re E b argTypes.toList (oa al args.toList)| _=>none
def Rg(E:Env)(t:Nat)(x hi mx:Option ap):Option ap:=match E t,x,hi,mx with
 |some { bL:=.slice e,.. },some (.sl id off n c),some (.i _ (.ofNat h)),some (.i _ (.ofNat k))=>bo (E e) none λaF=>
  bY (Nat.ble h k&&(Nat.ble k c&&Nat.blt 0 k)) (some (.sl id off h k)) none
 |some { bL:=.slice e,.. },some (.sx id off a7 n),some (.i _ (.ofNat h)),some (.i _ (.ofNat k))=>bo (E e) none λaF=>
  bY (Nat.ble h k&&(Nat.ble k n&&Nat.blt 0 k)) (some (.sl id off h k)) none
 |_,_,_,_=>none
def Rh(E:Env)(t:Nat)(x lo hi mx:Option ap):Option ap:=match E t,x,lo,hi,mx with
 |some { bL:=.slice e,.. },some (.sl id off n c),some (.i _ (.ofNat l)),some (.i _ (.ofNat h)),some (.i _ (.ofNat k))=>bo (E e) none λaF=>
  bY (Nat.ble l h&&(Nat.ble h k&&(Nat.ble k c&&Nat.blt l k))) (some (.sl id (Nat.add off (Nat.mul l aF.size)) (Nat.sub h l) (Nat.sub k l))) none
 |_,_,_,_,_=>none
def Ri(x:Option ap):Option ap:=match x with
 |some (.i .u64 n)=>some (.i .u64 (jy n))| _=>none
def vd(P:Program)(E:Env)(G:GT)(m:bf fG)(op:Op)(al:bf ap):Option ap:=
 match op with
 | .unOp .xor t x=>Ri (dj al x)| .slice t x (some lo) (some hi) (some mx)=>Rh E t (dj al x) (dj al lo) (dj al hi) (dj al mx)| .slice t x none (some hi) (some mx)=>Rg E t (dj al x) (dj al hi) (dj al mx)| op=>Rf P E G m op al
def r3{R:Type}(n:Nat)(K:Nat->R):R:=Nat.casesOn (Nat.add n 1) (K 0) K
def Zf{R:Type}(n:Int)(K:Int->R):R:=match n with
 | .ofNat n=>r3 n λn=>K (.ofNat n)
 | .negSucc n=>r3 n λn=>K (.negSucc n)
def Zg{R:Type}(b:Bool)(K:Bool->R):R:=bY b (K true) (K false)
def Rj{R:Type}(v:ap)(K:ap->R):R:=match v with
 | .b x=>Zg x λx=>K (.b x)
 | .i k n=>Zf n λn=>K (.i k n)
 | .p id off=>r3 off λoff=>K (.p id off)
 | .g id off=>r3 off λoff=>K (.g id off)
 | .sl id off n c=>r3 off λoff=>r3 n λn=>r3 c λc=>K (.sl id off n c)
 | .sx id off e n=>r3 off λoff=>r3 e λe=>r3 n λn=>K (.sx id off e n)
 |v=>K v
def Co{R:Type}(m:bp)(e:fG)(K:Nat->bp->R):R:=r3 m.n λn=>m.t.nO (some e) n λt=>K n ⟨t,Nat.add n 1⟩
def ve{R:Type}(m:bp)(l:List ap)(T:Nat)(K:Nat->bp->R):R:=bf.yf l .nil 0 λcs=>Co m (.cells cs T l.length) K
def yj{R:Type}(m:bp)(x:ap)(l:List ap)(K:bp->Option R):Option R:=match x with
 | .p id off=>(match m.t.get id with
  |some (.cells cs T fH)=>bif Nat.ble (Nat.add off l.length) fH&&l.all ap.one then bf.yf l cs off λcs=>m.t.nO (some (.cells cs T fH)) id λt=>K ⟨t,m.n⟩else none
  |_=>none)
 |_=>none
def Cp:Nat->List ap->List ap
 |0,_=>[]| n+1,z=>z++Cp n z
def EO(i:Option dG):Bool:=match i with
 |some { bL:=.int .u8,.. }=>true| _=>false
def wG(u:Option dG)(aF:dG)(x:ap):Bool:=match u,x with
 |some { bL:=.slice _,.. },.sn=>true| some { bL:=.slice _,.. },.so=>true| some { bL:=.slice _,.. },.sl ..=>true| some { bL:=.slice _,.. },.sx ..=>true| some { bL:=.string,.. },.s _=>Nat.beq aF.size 1| _,_=>false
def EP(G:GT)(m:bf fG)(x:ap)(sz:Nat){R:Type}(K:List ap->Option R):Option R:=match x with
 | .sn | .so=>K []| .sl id off n _ | .sx id off _ n=>tW G m (.p id off) (Nat.mul n sz) K| .s l=>K (l.map λb=>.i .u8 (.ofNat b.toNat))| _=>none
def Rk(G:GT)(m:bp)(id off n c:Nat)(l:List ap)(k sz T:Nat):Option (ap×bp):=
 bY (Nat.ble (Nat.add n k) c) (yj m (.p id (Nat.add off (Nat.mul n sz))) l λm=>some (.sl id off (Nat.add n k) c,m)) (tW G m.t (.p id off) (Nat.mul n sz) λdH=>ve m (dH++l) T λid m=>some (.sx id 0 0 (Nat.add n k),m))
def Rl(m:bp)(id:Nat)(n:Nat)(cs:bf ap)(fH:Nat)(l:List ap)(k sz T:Nat):Option (ap×bp):=
 bY (Nat.ble (Nat.mul n sz) fH) (m.t.nO none id λt=>bf.yf l cs (Nat.mul n sz) λcs=>Co ⟨t,m.n⟩ (.cells cs T (Nat.mul (Nat.add n k) sz)) λid m=>some (.sx id 0 0 (Nat.add n k),m)) none
def H8(G:GT)(m:bp)(s:ap)(l:List ap)(k sz bytes T:Nat):Option (ap×bp):=match s with
 | .sn=>bY (Nat.ble (Nat.mul k bytes) 140737488355328&&Nat.ble k 9223372036854775807) (ve m l T λid m=>some (.sx id 0 0 k,m)) none| .sl id off n c=>bY (Nat.ble (Nat.mul (Nat.add n k) bytes) 140737488355328&&Nat.ble (Nat.add n k) 9223372036854775807) (Rk G m id off n c l k sz T) none
 | .sx id off e n=>(match m.t.get id with
  |some (.cells cs l8 fH)=>bY ((Nat.beq off 0&&Nat.beq e 0)&&(Nat.beq l8 T&&(Nat.ble (Nat.mul (Nat.add n k) bytes) 140737488355328&&Nat.ble (Nat.add n k) 9223372036854775807))) (Rl m id n cs fH l k sz T) none| _=>none)
 |_=>none
def EQ:List ap->Option (List UInt8)
 |[]=>some []
 | .i .u8 (.ofNat n)::l=>bif Nat.ble n 255 then(match EQ l with
  |some r=>some (UInt8.ofNat n::r)| none=>none)else none
 |_=>none
def H9:ap->List (ap×ap)->Option (Option ap)
 |_,[]=>some none
 |k,(x,v)::l=>match EL k x with
  |some true=>some (some v)| some false=>H9 k l| none=>none
def H'(k v:ap):List (ap×ap)->Option (List (ap×ap))
 |[]=>some [(k,v)]
 |(x,u)::l=>match EL k x with
  |some true=>some ((k,v)::l)
  |some false=>(match H' k v l with
   |some r=>some ((x,u)::r)| none=>none)
  |none=>none
abbrev lW:=Nat->List ap->bp->Option (ap×bp)
structure gN where
 P:Program
 E:Env
 G:GT
 pr:lW
def Zh(i:Option dG)(t:Nat)(x:Option ap):Option (List ap×Nat×Nat×(Nat->ap)):=bo i none λi=>bo x none λv=>bY (Nat.beq v.cells.length i.size) (some (v.cells,t,1,λid=>.p id 0)) none
def Zi(i:Option dG)(t:Nat):Option (List ap×Nat×Nat×(Nat->ap)):=bo i none λi=>bo (yg i.zero) none λz=>some (z,t,1,λid=>.p id 0)
def Zj(E:Env)(t len:Nat)(ps:Option (List (Nat×ap))):Option (List ap×Nat×Nat×(Nat->ap)):=match E t,ps with
 |some { bL:=.slice e,.. },some vs=>bo (E e) none λaF=>bo (yg aF.zero) none λz=>
  bY (Nat.ble (Nat.mul len aF.size) 16777216&&Nat.blt 0 (Nat.mul len aF.size)) (bo (z8 (λj=>some (j*aF.size,aF.size)) (Cp len z) vs) none λcs=>some (cs,e,len,λid=>.sl id 0 len len)) (bY (Nat.beq len 0&&vs.isEmpty) (some ([],e,0,λid=>.sl id 0 0 0)) none)
 |_,_=>none
def Zk(E:Env)(t:Nat)(l c:Option ap):Option (List ap×Nat×Nat×(Nat->ap)):=match E t,l,c with
 |some { bL:=.slice e,.. },some l,some c=>bo (E e) none λaF=>bo l.nat none λn=>bo c.nat none λk=>bo (yg aF.zero) none λz=>
  bY (Nat.ble n k&&(Nat.ble (Nat.mul aF.bytes k) 140737488355328&&Nat.ble k 9223372036854775807)) (some (Cp k z,e,k,λid=>.sl id 0 n k)) none
 |_,_,_=>none
def Cq(E:Env)(o:Oper)(al:bf ap):Option (List ap×Nat×Nat×(Nat->ap)):=
 match o.op with
 | .box t x=>Zh (E t) t (dj al x)| .alloc t=>Zi (E t) t| .buildSlice t len parts=>Zj E t len (EN al parts.toList)| .makeSlice t l c=>Zk E t (dj al l) (dj al c)| _=>none
def LM(i:Option dG)(m:bp)(x y:Option ap):Option (ap×bp):=bo i none λi=>bo x none λx=>bo y none λv=>bY (Nat.beq v.cells.length i.size) (yj m x v.cells λm=>some (.t [],m)) none
def LN(i:Option dG)(m:bp):Option (ap×bp):=match i with
 |some { bL:=.map k e,.. }=>Co m (.map []) λid m=>some (.m id,m)
 |_=>none
def LO(i:Option dG)(v:ap):Bool:=match i,v with
 |some { bL:=.int k,.. },.i eZ _=>IntKind.mQ k eZ| some { bL:=.string,.. },.s _=>true| _,_=>false
def Zl(ok:Bool)(z:ap)(r:Option ap):ap:=bY ok (bo r (.t [z,.b false]) λv=>.t [v,.b true]) (bo r z λv=>v)
def Rm(P:Program)(E:Env)(t:Nat)(m:bp)(x y:Option ap)(ok:Bool):Option (ap×bp):=match E t,x,y with
 |some { bL:=.map k e,.. },some (.m id),some y=>bY (LO (E k) y) (match m.t.get id with
  |some (.map es)=>bo (H9 y es) none λr=>bo (P.info? e) none λinf=>bo inf.zero none λz=>bo (EJ z) none λz=>some (Zl ok z r,m)
  |_=>none) none
 |_,_,_=>none
def Ia(E:Env)(t:Nat)(m:bp)(x y z:Option ap):Option (ap×bp):=match E t,x,y,z with
 |some { bL:=.map k e,.. },some (.m id),some y,some v=>bY (LO (E k) y) (match m.t.get id with
  |some (.map es)=>bo (H' y v es) none λes=>m.t.nO (some (.map es)) id λt=>some (.t [],⟨t,m.n⟩)
  |_=>none) none
 |_,_,_,_=>none
def LP(G:GT)(m:bp)(id off n:Nat):Option (ap×bp):=tW G m.t (.p id off) n λl=>bo (EQ l) none λl=>some (.s l,m)
def LQ(Y:gN)(m:bp)(s d:Nat)(x:Option ap):Option (ap×bp):=match Y.E s,Y.E d,x with
 |some { bL:=.slice e,.. },some { bL:=.string,.. },some (.sl id off n _)=>bY (EO (Y.E e)) (LP Y.G m id off n) none| some { bL:=.slice e,.. },some { bL:=.string,.. },some (.sx id off _ n)=>bY (EO (Y.E e)) (LP Y.G m id off n) none| some { bL:=.slice e,.. },some { bL:=.string,.. },some .sn=>bY (EO (Y.E e)) (some (.s [],m)) none| _,_,_=>none
def ER:ap->Bool
 | .sn | .so | .sx ..=>true| .sl _ _ n c=>Nat.ble n c| _=>false
def Rn(Y:gN)(m:bp)(fK:List Nat)(l:Option (List ap)):Option (ap×bp):=match fK,l with
 |[t,u],some [s,x]=>(match Y.E t with
  |some { bL:=.slice e,.. }=>bo (Y.E e) none λaF=>bY (wG (Y.E u) aF x) (EP Y.G m.t x aF.size λl=>bo (sW x) none λk=>
    bY (Nat.beq k 0) (bY (ER s) (some (s,m)) none) (bY (l.all ap.one) (H8 Y.G m s l k aF.size aF.bytes e) none)) none
  |_=>none)
 |_,_=>none
def Ro(Y:gN)(m:bp)(fK:List Nat)(l:Option (List ap)):Option (ap×bp):=match fK,l with
 |[t,u],some [.sl id off n c,.s q]=>(match Y.E t with
  |some { bL:=.slice e,.. }=>bo (Y.E e) none λaF=>bY (Nat.beq aF.size 1&&Nat.ble q.length n) (yj m (.p id off) (q.map λb=>.i .u8 (.ofNat b.toNat)) λm=>some (.i .i64 (.ofNat q.length),m)) none
  |_=>none)
 |_,_=>none
def Rp(Y:gN)(m:bp)(fK:List Nat)(l:Option (List ap)):Option (ap×bp):=match fK,l with
 |[uH,it],some [.pn,.i .i64 (.ofNat 0)]=>some (.s [],m)
 |[uH,it],some [.p id 0,.i .i64 (.ofNat n)]=>(match Y.E uH,m.t.get id with
  |some { bL:=.pointer e,.. },some (.cells cs T fH)=>bo (Y.E e) none λaF=>
   bY (Nat.beq aF.size 1&&(Nat.beq T e&&Nat.blt 0 n)) (tW Y.G m.t (.p id 0) n λl=>bo (EQ l) none λl=>bY (Nat.ble n 9223372036854775807) (m.t.nO none id λt=>some (.s l,⟨t,m.n⟩)) none) none
  |_,_=>none)
 |_,_=>none
def Zm(Y:gN)(m:bp)(b:Builtin)(fK:List Nat)(l:Option (List ap)):Option (ap×bp):=match b with
 | .append=>Rn Y m fK l| .copy=>Ro Y m fK l| .unsafeString=>Rp Y m fK l| _=>none
def Rq(Y:gN)(m:bp)(o:Oper)(al:bf ap):Option (ap×bp):=
 match o.op with
 | .store t x y=>bo o.dst (LM (Y.E t) m (dj al x) (dj al y)) λ_=>none
 | .makeMap t none=>LN (Y.E t) m
 | .makeMap t (some x)=>(match dj al x with
  |some (.i _ _)=>LN (Y.E t) m| _=>none)
 | .lookup t x y ok=>Rm Y.P Y.E t m (dj al x) (dj al y) ok| .mapUpdate t x y z=>bo o.dst (Ia Y.E t m (dj al x) (dj al y) (dj al z)) λ_=>none
 | .insert t x y z=>bo o.dst (Ia Y.E t m (dj al x) (dj al y) (dj al z)) λ_=>none
 | .convert s d x=>LQ Y m s d (dj al x)| .call { callee:=.builtin b,args,argTypes }=>Zm Y m b argTypes.toList (oa al args.toList)| _=>none
def lB(E:Env)(op:Op):Nat:=match op with
 | .move _ | .assign _ | .pick .. | .binOp .. | .load .. | .nilCheck _ | .fieldAddr .. | .field .. | .indexAddr .. | .index .. | .build .. | .makeFunc .. | .extract .. | .unOp .. | .slice ..=>0| .alloc _ | .box .. | .buildSlice .. | .makeSlice ..=>1
 | .convert s d _=>(match E d with
  |some { bL:=.int _,.. }=>0| _=>2)
 | .call { callee:=.builtin .len,argTypes,.. }=>(match argTypes.toList with
  |[t]=>(match E t with
   |some { bL:=.map ..,.. }=>2| _=>0)
  |_=>2)
 | .call { callee:=.builtin .cap,.. }=>0| .call { callee:=.builtin .max,.. }=>0| .call { callee:=.builtin .min,.. }=>0| .call { callee:=.builtin .unsafeSliceData,.. }=>0| _=>2
def pS{R:Type}(dst:Option Nat)(al:bf ap)(v:ap)(K:bf ap->Option R):Option R:=bo dst (K al) λd=>Rj v λv=>al.nO (some v) d K
def Zn{R:Type}(call:ap->List ap->bp->Option (ap×bp))(dst:Option Nat)(f:Option ap)(l:Option (List ap))(al:bf ap)(m:bp)(K:bf ap->bp->Option R):Option R:=
 bo f none λf=>bo l none λl=>bo (call f l m) none λr=>bY (Nat.ble m.n r.2.n) (pS dst al r.1 λal=>K al r.2) none
def Zo{R:Type}(dst:Option Nat)(r:Option (List ap×Nat×Nat×(Nat->ap)))(al:bf ap)(m:bp)(K:bf ap->bp->Option R):Option R:=
 bo dst none λd=>bo r none λr=>ve m r.1 r.2.1 λid m=>pS (some d) al (r.2.2.2 id) λal=>K al m
def Zp{R:Type}(dst:Option Nat)(v:Option ap)(al:bf ap)(m:bp)(K:bf ap->bp->Option R):Option R:=
 bo v none λv=>pS dst al v λal=>K al m
def Zq{R:Type}(dst:Option Nat)(n:Nat)(r:Option (ap×bp))(al:bf ap)(K:bf ap->bp->Option R):Option R:=
 bo r none λr=>bY (Nat.ble n r.2.n) (pS dst al r.1 λal=>K al r.2) none
def Zr{R:Type}(Y:gN)(k:Nat)(o:Oper)(al:bf ap)(m:bp)(K:bf ap->bp->Option R):Option R:=match k with
 |0=>Zp o.dst (vd Y.P Y.E Y.G m.t o.op al) al m K| 1=>Zo o.dst (Cq Y.E o al) al m K| _=>Zq o.dst m.n (Rq Y m o al) al K
def z9{R:Type}(Y:gN)(call:ap->List ap->bp->Option (ap×bp))(o:Oper)(al:bf ap)(m:bp)(K:bf ap->bp->Option R):Option R:=
 match o.op with
 | .call { callee:=.value f,args,.. }=>Zn call o.dst (dj al f) (oa al args.toList) al m K| op=>Zr Y (lB Y.E op) o al m K
def Cr{R:Type}(o:Oper)(al:bf ap)(K:bf ap->Option R):Option R:=match o.dst with
 |none=>K al| some d=>al.nO (some (.t [])) d K
def vf(ops:List Oper)(o:Oper)(al:bf ap):Option Bool:=match o.guard with
 |none=>some true
 |some (j,b)=>match(wE ops j).bind (·.dst)with
  |none=>none
  |some d=>match al.get d with
   |some (.b c)=>some (c == b)| some (.t _)=>some false| _=>none
def ES(Y:gN)(call:ap->List ap->bp->Option (ap×bp))(ops:List Oper)(l:List Oper):bf ap->bp->Option (bf ap×bp):=
 @List.rec Oper (λ_=>bf ap->bp->Option (bf ap×bp)) (λal m=>some (al,m)) (λo _ aL al m=>bo (vf ops o al) none λw=>bY w (z9 Y call o al m aL) (Cr o al λal=>aL al m)) l
def Cs(E:Env)(ops:List Oper)(i:Nat):Nat:=bo (wE ops i) 2 λo=>lB E o.op
def yk(E:Env)(ops:List Oper):List Nat:=(List.range ops.length).filter λi=>Nat.beq (Cs E ops i) 2
def ET(es gZ:List Nat)(i:Nat):Nat:=(es.filter λe=>(gZ.getD i 0).testBit e).length
def qP(es gZ:List Nat)(i:Nat):Nat:=(es.filter λe=>!(gZ.getD e 0).testBit i).length
def Zs(E:Env)(ops:List Oper)(es gZ:List Nat)(j:Nat):List (Nat×Nat):=((List.range ops.length).filter λi=>!Nat.beq (Cs E ops i) 2&&Nat.beq (ET es gZ i) j).map λi=>(i,Cs E ops i)
def Zt(E:Env)(ops:List Oper)(es gZ:List Nat):List Nat->Nat->List (Nat×Nat)
 |[],j=>Zs E ops es gZ j| e::l,j=>Zs E ops es gZ j++(e,2)::Zt E ops es gZ l (j+1)
def Ib(E:Env)(ops:List Oper):List (Nat×Nat):=Zt E ops (yk E ops) (lg ops) (yk E ops) 0
def wH(ops:List Oper):List (Nat×Nat)->Nat->Bool
 |[],k=>Nat.beq k (2^ops.length-1)
 |(i,_)::l,k=>!k.testBit i&&(match ops[i]? with
  |some o=>Gz o k&&wH ops l (k ||| 2^i)| none=>false)
def LR(gZ:List Nat):List Nat->Bool
 |[]=>true| x::l=>l.all (λy=>(gZ.getD y 0).testBit x)&&LR gZ l
def Zu(E:Env)(ops:List Oper):Bool:=By ops&&(wH ops (Ib E ops) 0&&(LR (lg ops) (yk E ops)&&(((Ib E ops).filter λr=>Nat.beq r.2 2).map (·.1) == yk E ops)))
mutual
def EU:ap->ap->Bool
 | .b x,.b w=>x == w| .i k x,.i l w=>IntKind.mQ k l&&sV x w| .s x,.s w=>vc x w| .pn,.pn=>true| .p i x,.p j w=>Nat.beq i j&&Nat.beq x w| .g i x,.g j w=>Nat.beq i j&&Nat.beq x w| .sn,.sn=>true| .sl i x n c,.sl j w m d=>Nat.beq i j&&(Nat.beq x w&&(Nat.beq n m&&Nat.beq c d))| .sx i x n c,.sx j w m d=>Nat.beq i j&&(Nat.beq x w&&(Nat.beq n m&&Nat.beq c d))| .gs i x n c,.gs j w m d=>Nat.beq i j&&(Nat.beq x w&&(Nat.beq n m&&Nat.beq c d))| .mn,.mn=>true| .m i,.m j=>Nat.beq i j| .f g l r,.f h m s=>Nat.beq g h&&(wI l m&&wI r s)| .y i,.y j=>Nat.beq i j| .fn,.fn=>true| .ni,.ni=>true| .t l,.t m=>wI l m| .a l,.a m=>wI l m| _,_=>false
def wI:List ap->List ap->Bool
 |[],[]=>true| x::l,w::m=>EU x w&&wI l m| _,_=>false
end
inductive qQ where
 |made(i id:Nat)(l:List ap)(T:Nat)| load (i:Nat) (o:Oper) (al:bf ap) (v:ap)
def o0(Y:gN)(call:ap->List ap->bp->Option (ap×bp))(ops:List Oper):List (Nat×Nat)->bf ap->bp->List bp->List qQ->Option (bf ap×bp×List bp×List qQ)
 |[],al,m,S,A=>some (al,m,m::S,A)|(i,k)::bj,al,m,S,A=>bo (wE ops i) none λo=>bo (vf ops o al) none λw=>bY (Nat.beq (lB Y.E o.op) k) (bY w (bY (Nat.beq k 0) (bo (vd Y.P Y.E Y.G m.t o.op al) none λv=>pS o.dst al v λc6=>o0 Y call ops bj c6 m S (bY (qi o.op) (.load i o al v::A) A)) (bY (Nat.beq k 1) (bo o.dst none λd=>bo (Cq Y.E o al) none λr=>ve m r.1 r.2.1 λid m=>pS (some d) al (r.2.2.2 id) λal=>o0 Y call ops bj al m S (.made i id r.1 r.2.1::A)) (z9 Y call o al m λal m'=>o0 Y call ops bj al m' (m::S) A))) (Cr o al λal=>o0 Y call ops bj al m (bY (Nat.beq k 2) (m::S) S) A)) none
def EV(S:List bp)(lo hi:Nat)(p:bp->Bool):Bool:=((S.drop lo).take (hi+1-lo)).all p
def Rr(Y:gN)(o:Oper)(al:bf ap)(v:ap)(m:bp):Bool:=match vd Y.P Y.E Y.G m.t o.op al with
 |some u=>EU u v| none=>false
def Rs(id:Nat)(l:List ap)(T:Nat)(m:bp):Bool:=Nat.blt id m.n&&(match m.t.get id with
 |some (.cells cs l8 fH)=>Nat.beq l8 T&&(Nat.beq fH l.length&&(match cs.EI 0 l.length (λev=>some ev)with
  |some ev=>wI l ev| none=>false))
 |_=>false)
def Rt(Y:gN)(es gZ:List Nat)(S:List bp):qQ->Bool
 | .made i id l T=>EV S (ET es gZ i) (qP es gZ i) (Rs id l T)| .load i o al v=>EV S (ET es gZ i) (qP es gZ i) (Rr Y o al v)
def Ru(Y:gN)(call:ap->List ap->bp->Option (ap×bp))(ops:List Oper)(al:bf ap)(m:bp):Option (bf ap×bp):=
 bY (Zu Y.E ops) (match o0 Y call ops (Ib Y.E ops) al m [] []with
  |none=>none| some (al,m,S,A)=>bY (A.all (Rt Y (yk Y.E ops) (lg ops) S.reverse)) (some (al,m)) none) none
def EW{R:Type}:List Nat->List ap->bf ap->(bf ap->Option R)->Option R
 |[],[],al,K=>K al| t::ps,v::vs,al,K=>al.nO (some v) t λal=>EW ps vs al K
 |_,_,_,_=>none
def z'(Y:gN)(al:bf ap)(m:bf fG):List ResultVar->Option (List ap)
 |[]=>some []
 | .tmp t::l=>(match al.get t,z' Y al m l with
  |some v,some vs=>some (v::vs)| _,_=>none)
 | .cell t ty::l=>(match al.get t,Y.E ty,z' Y al m l with
  |some x,some i,some vs=>(match tW Y.G m x i.size λl=>EM i.bL.agg l with
   |some v=>some (v::vs)| none=>none)
  |_,_,_=>none)
abbrev pT:=tn×bf ap×bp
abbrev tX:=Bool->Nat->Code->bf ap->bp->Option pT
def Zv:List ap->ap
 |[v]=>v| vs=>.t vs
def LS(Y:gN)(al:bf ap)(m:bp)(a0:List ResultVar):Option (ap×bp):=bo (z' Y al m.t a0) none λvs=>some (Zv vs,m)
def Zw(Y:gN)(r:Option pT)(a0:List ResultVar):Option (ap×bp):=match r with
 |some (.normal,al,m)=>LS Y al m a0| some (.ret,al,m)=>LS Y al m a0| _=>none
def LU(Y:gN)(rec:tX)(g:Nat)(args:List ap)(m:bp):Option (ap×bp):=
 bo (Y.P.funcs[g]?) none λfn=>bo fn.body none λc=>bY (Nat.ble args.length fn.ntmps) (bf.yf args (bf.bare 12) 0 λal=>Zw Y (rec true fn.ntmps c al m) fn.results.toList) none
def Aa(Y:gN)(rec:tX)(g:Nat)(args:List ap)(m:bp):Option (ap×bp):=bo (Y.pr g args m) (LU Y rec g args m) some
def Rv(l:Nat)(e:Option fG)(jump:Option Code)(m:bp):Option (ap×bp):=match e with
 |some (.loop true n nf ps fg body)=>m.t.nO (some (bo jump (.loop false n nf ps fg body) λc=>.done c n nf ps fg body)) l λt=>some (.b jump.isNone,⟨t,m.n⟩)
 |_=>none
def Zx(l:Nat)(r:Option pT):Option (ap×bp):=bo r none λr=>Rv l (r.2.2.t.get l) (DP r.1) r.2.2
def Rw(rec:tX)(l n:Nat)(body:Code)(e:Option fG)(al:bf ap)(m:bp):Option (ap×bp):=match e with
 |some (.loop false hS nf ps fg Rx)=>m.t.nO (some (.loop true hS nf ps fg Rx)) l λt=>Zx l (rec false n body al ⟨t,m.n⟩)
 |_=>none
def Zy(rec:tX)(l n:Nat)(body:Code)(r:Option pT):Option (ap×bp):=match r with
 |some (.normal,al,m)=>Rw rec l n body (m.t.get l) al m| _=>none
def Ry(rec:tX)(l:Nat)(args:List ap)(m:bp):Option (ap×bp):=match m.t.get l with
 |some (.loop false n nf ps fg body)=>EW ps args nf λal=>Zy rec l n body (rec false n fg al m)
 |_=>none
def LV(Y:gN)(rec:tX)(f:ap)(args:List ap)(m:bp):Option (ap×bp):=match f with
 | .f g l r=>Aa Y rec g (l++(args++r)) m| .y l=>Ry rec l args m| _=>none
def Rz:Code->Option tn
 | .exit id=>some (.exit id)| .goto l=>some (.goto l)| .ret=>some .ret| _=>none
def Ic(r:Option pT)(k:bf ap->bp->Option pT):Option pT:=match r with
 |some (.normal,al,m)=>k al m| r=>r
def Zz(id:Nat)(r:Option pT):Option pT:=match r with
 |some (.exit j,al,m)=>bY (Nat.beq j id) (some (.normal,al,m)) (some (.exit j,al,m))| r=>r
def LW(r:Option (bf ap×bp)):Option pT:=bo r none λr=>some (.normal,r.1,r.2)
def ZA(v:Option ap)(x y:Option pT):Option pT:=match v with
 |some (.b b)=>bY b x y| _=>none
def Ie(rec:tX)(gJ:Bool)(n:Nat)(c:Code)(k:Nat):Code->bf ap->bp->Option pT:=@Nat.rec (λ_=>Code->bf ap->bp->Option pT) (λ_ _ _=>none)
 (λ_ aL x al m=>match rec gJ n x al m with
  |some (.goto l,al,m)=>bo (findLabel c l) none λbj=>aL bj al m
  |r=>r) k
def ZB(l:Nat)(al:bf ap)(r:Option (ap×bp)):Option pT:=bo r none λr=>match r.2.t.get l with
 |some (.loop false ..)=>r.2.t.nO none l λt=>some (.normal,al,⟨t,r.2.n⟩)
 |some (.done c ..)=>bo (Rz c) none λex=>r.2.t.nO none l λt=>some (ex,al,⟨t,r.2.n⟩)
 |_=>none
def RA(Y:gN)(rec:tX)(gJ:Bool)(n:Nat)(v:Option ap)(ps:List Nat)(fg body:Code)(al:bf ap)(m:bp):Option pT:=match gJ,v with
 |true,some (.f g [] r)=>Co m (.loop false n al ps fg body) λl m=>ZB l al (LU Y rec g (.y l::r) m)
 |_,_=>none
def RB(Y:gN)(f:Nat)(rec:tX):tX:=λgJ n c al m=>match c with
 | .skip=>some (.normal,al,m)| .label _=>some (.normal,al,m)| .ret=>some (.ret,al,m)| .exit id=>some (.exit id,al,m)| .goto l=>some (.goto l,al,m)| .seq x y=>Ic (rec gJ n x al m) (rec gJ n y)| .block id c=>Zz id (rec gJ n c al m)| .cond c x y=>ZA (dj al c) (rec gJ n x al m) (rec gJ n y al m)| .loop c=>Ic (rec gJ n c al m) (rec gJ n (.loop c))| .region _ ops false=>LW (ES Y (LV Y rec) ops.toList ops.toList al m)| .region _ ops true=>LW (Ru Y (LV Y rec) ops.toList al m)| .scope c=>Ie rec gJ n c f c al m| .rangeFunc x ps fg body=>RA Y rec gJ n (dj al x) ps.toList fg body al m| .refuse _=>none
def lX(Y:gN)(f:Nat):tX:=@Nat.rec (λ_=>tX) (λ_ _ _ _ _=>none) (λf aL=>RB Y f aL) f
end
section
variable{α R:Type}
def kE{α:Type}(b:Bool)(x y:α):bY b x y=bif b then x else y:=by cases b<;>rfl
def cp{α R:Type}{o:Option α}{f:α->Option R}{r:R}(h:bo o none f=some r):∃ v,o=some v/\f v=some r:=by
 cases o with
 |none=>cases h| some v=>exact⟨v,rfl,h⟩
def fW{α:Type}{b:Bool}{x:Option α}{r:α}(h:bY b x none=some r):b=true/\x=some r:=by
 cases b with
 |true=>exact⟨rfl,h⟩| false=>cases h
def Ab{α:Type}{b:Bool}{x:Option α}{r:α}(h:bY b none x=some r):b=false/\x=some r:=by
 cases b with
 |false=>exact⟨rfl,h⟩| true=>cases h
def bf.If(x:Option α)(l r:bf α)(k:Nat):(bf.node x l r).get k=bif Nat.beq k 0 then x else bif Nat.beq (k%2) 1 then l.get (k/2)else r.get (k/2-1):=by show bY _ _ (bY _ _ _)=_;rw[kE,kE];rfl
def bf.o1(v:Option α):∀ (t:bf α) (k:Nat),∃ bq:bf α,(∀ {R:Type} (K:bf α->R),t.nO v k K=K bq)/\∀ j x,bq.get j=some x->(j=k/\v=some x)\/(j≠k/\t.get j=some x)
 | .nil,k=>by
  cases ae:Nat.beq k 0 with
  |true=>
   have:=dP ae;subst this;refine⟨.node v .nil .nil,λK=>rfl,λj x h=>?_⟩;rw[bf.If]at h;cases ai:Nat.beq j 0 with
   |true=>rw[ai]at h;exact .inl ⟨dP ai,h⟩
   |false=>
    rw[ai]at h;cases hm:Nat.beq (j%2) 1<;>(rw[hm]at h;cases h)
  |false=>refine⟨.nil,λK=>?_,λj x h=>by cases h⟩;show bY _ _ _=_;rw[kE,ae];rfl
 | .node x l r,k=>by
  cases ae:Nat.beq k 0 with
  |true=>
   have:=dP ae;subst this;refine⟨.node v l r,λK=>rfl,λj y h=>?_⟩;rw[bf.If]at h |-;cases ai:Nat.beq j 0 with
   |true=>rw[ai]at h;exact .inl ⟨dP ai,h⟩| false=>rw[ai]at h;exact .inr ⟨(λe=>by subst e;cases ai),h⟩
  |false=>
   have kV:k≠0:=λe=>by subst e;cases ae
   cases hm:Nat.beq (k%2) 1 with
   |true=>
    have sw:=dP hm;obtain⟨ev,aa,ab⟩:=bf.o1 v l (k/2);refine⟨.node x ev r,λK=>?_,λj y h=>?_⟩;·show bY _ _ (bY _ _ _)=_;rw[kE,kE,ae];show(bif Nat.beq (k%2) 1 then _ else _)=_;rw[hm];exact aa _
    ·rw[bf.If]at h |-;cases ai:Nat.beq j 0 with
     |true=>rw[ai]at h;exact .inr ⟨λe=>by have:=dP ai;omega,h⟩
     |false=>
      rw[ai]at h;have akG:j≠0:=λe=>by subst e;cases ai
      cases qI:Nat.beq (j%2) 1 with
      |true=>
       have akH:=dP qI;rw[qI]at h;rcases ab _ _ h with⟨e,ah⟩ | ⟨e,ah⟩;·exact .inl ⟨by omega,ah⟩
       ·exact .inr ⟨λcX=>e (by rw[cX]),ah⟩
      |false=>rw[qI]at h;exact .inr ⟨(λe=>by subst e;rw[hm]at qI;cases qI),h⟩
   |false=>
    have sw:k%2≠1:=λe=>by rw[e]at hm;cases hm
    obtain⟨rf,aa,ab⟩:=bf.o1 v r (k/2-1);refine⟨.node x l rf,λK=>?_,λj y h=>?_⟩;·show bY _ _ (bY _ _ _)=_;rw[kE,kE,ae];show(bif Nat.beq (k%2) 1 then _ else _)=_;rw[hm];exact aa _
    ·rw[bf.If]at h |-;cases ai:Nat.beq j 0 with
     |true=>rw[ai]at h;exact .inr ⟨λe=>by have:=dP ai;omega,h⟩
     |false=>
      rw[ai]at h;have akG:j≠0:=λe=>by subst e;cases ai
      cases qI:Nat.beq (j%2) 1 with
      |true=>rw[qI]at h;exact .inr ⟨(λe=>by subst e;rw[hm]at qI;cases qI),h⟩
      |false=>
       have akH:j%2≠1:=λe=>by rw[e]at qI;cases qI
       rw[qI]at h;rcases ab _ _ h with⟨e,ah⟩ | ⟨e,ah⟩;·exact .inl ⟨by omega,ah⟩
       ·exact .inr ⟨λcX=>e (by rw[cX]),ah⟩
def bf.EX(t:bf α):∀ (n off:Nat) (K:List α->Option R) (r:R),t.EI off n K=some r->∃ l,l.length=n/\(∀ i,i<n->t.get (off+i)=l[i]?)/\K l=some r
 |0,off,K,r,h=>⟨[],rfl,λi hi=>by omega,h⟩
 |n+1,off,K,r,h=>by
  have bc:bo (t.get off) none (λv=>t.EI (off+1) n λl=>K (v::l))=some r:=h;obtain⟨v,ah,bc⟩:=cp bc;obtain⟨l,aa,ab,aj⟩:=bf.EX t n (off+1) _ r bc;refine⟨v::l,by simp[aa],λi hi=>?_,aj⟩;cases i with
  |zero=>simpa using ah| succ i=>have:=ab i (by omega);rw[show off+(i+1)=off+1+i by omega,this];simp
def bf.yl:∀ (l:List α) (t:bf α) (off:Nat),∃ bq:bf α,(∀ {R:Type} (K:bf α->R),bf.yf l t off K=K bq) /\ ∀ j x,bq.get j=some x->(off<=j/\l[j-off]?=some x)\/((j<off\/off+l.length<=j)/\t.get j=some x)
 |[],t,off=>⟨t,λK=>rfl,λj x h=>.inr ⟨by simp;omega,h⟩⟩
 |v::l,t,off=>by
  obtain⟨t1,aa,ab⟩:=bf.o1 (some v) t off;obtain⟨t2,aj,aI⟩:=bf.yl l t1 (off+1);refine⟨t2,λK=>(aa _).trans (aj K),λj x h=>?_⟩;rcases aI j x h with⟨a8,ba⟩ | ⟨a8,ba⟩;·exact .inl ⟨by omega,by rw[show j-off=(j-(off+1))+1 by omega];simpa using ba⟩
  ·rcases ab j x ba with⟨rfl,e⟩ | ⟨e,bQ⟩
   ·exact .inl ⟨ca _,by simp at e;simp[e]⟩
   ·exact .inr ⟨by simp only[dx];omega,bQ⟩
end
def RC(n:Nat)(K:Nat->R):r3 n K=K n:=rfl
def akI(n:Int)(K:Int->R):Zf n K=K n:=by cases n<;>rfl
def akJ(b:Bool)(K:Bool->R):Zg b K=K b:=by cases b<;>rfl
def akK(v:ap)(K:ap->R):Rj v K=K v:=by
 cases v with
 |b x=>exact akJ x λx=>K (.b x)
 |i k n=>exact akI n λn=>K (.i k n)
 |_=>rfl
def RD(a b:Nat):Nat.beq a b=decide (a=b):=by
 by_cases h:a=b
 ·subst h;simp
 ·rw[hs h];simp[h]
def LX(a b:Nat):Nat.ble a b=decide (a<=b):=by
 by_cases h:a<=b
 ·rw[Cf h];simp[h]
 ·cases ag:Nat.ble a b with
  |false=>simp[h]| true=>exact absurd (bJ ag) h
def Ct(a b:Int):sV a b=decide (a=b):=by
 cases a<;>cases b<;>simp only[sV,RD]<;>simp
 omega
def LY(a b:Int):Cj a b=decide (a<=b):=by
 cases a<;>cases b<;>simp only[Cj]
 ·rw[LX];simp only[Lq];exact Int.ofNat_le.symm
 ·symm;simp only[ss];rename_i a b;have:=Int.negSucc_lt_zero b;have:(0:Int)<=Int.ofNat a:=Ew a;omega
 ·symm;simp only[hV];rename_i a b;have:=Int.negSucc_lt_zero a;have:(0:Int)<=Int.ofNat b:=Ew b;omega
 ·rw[LX];simp only[Lq,Int.negSucc_eq];omega
def akL(a b:Int):DA a b=decide (a<b):=by
 unfold DA;rw[LY];by_cases h:a<b
 ·simp[h]
 ·simp[h];omega
def akM(op:BinOp)(x y:Int):Q0 op x y=xu op x y:=by cases op<;>simp only[Q0,xu,Ct,akL,LY]
def Ac(k:IntKind)(n:Int):wD k n=k.wrap n:=by
 cases n with
 |negSucc n=>rfl
 |ofNat n=>
  simp only[wD];cases h:Nat.ble n (LG k)with
  |false=>rfl
  |true=>
   have bc:=bJ h;simp only[b5];cases k<;>simp only[LG]at bc<;>simp only[IntKind.wrap,IntKind.signed,IntKind.bits]<;>simp<;>omega
def akN(a b:Int):YQ a b=a+b:=by cases a<;>cases b<;>rfl
def akO(a b:Int):Q1 a b=a-b:=by
 cases a<;>cases b<;>try rfl
 rename_i a b;simp only[Q1];cases h:Nat.ble b a with
 |false=>rfl| true=>have:=bJ h;show((a-b:Nat):Int)=(a:Int)-b;omega
def akP(a b:Int):YR a b=a*b:=by cases a<;>cases b<;>rfl
def akQ(a b:Int):YS a b=a.tdiv b:=by cases a<;>cases b<;>rfl
def akR(a b:Int):YT a b=a.tmod b:=by cases a<;>cases b<;>rfl
def akS(a:Int)(j:Nat):YU a j=a*2^j:=by
 cases a with
 |negSucc a=>rfl| ofNat a=>show((a*2^j:Nat):Int)=(a:Int)*2^j;simp
def akT(a:Int)(j:Nat):YV a j=a.fdiv (2^j):=by
 cases a with
 |negSucc a=>rfl| ofNat a=>show((a/2^j:Nat):Int)=(a:Int).fdiv (2^j);rw[show(2:Int)^j=((2^j:Nat):Int) by simp];rw[Ks _ (Ew _)];simp
def ZC(j b:Nat):(bif Nat.ble j b then j else b)=min j b:=by
 rw[LX];by_cases h:j<=b
 ·simp[h,uu h]
 ·simp[h];omega
def Ad{a:Nat}(h:a<=18446744073709551615):(BitVec.ofInt IntKind.u64.bits (Int.ofNat a)).toNat=a:=by show(BitVec.ofInt 64 (a:Int)).toNat=a;rw[BitVec.ofInt_natCast,Lp];omega
def wrap64{a:Nat}(h:a<=18446744073709551615):IntKind.u64.wrap (a:Int)=Int.ofNat a:=by show IntKind.u64.wrap (.ofNat a)=_;rw[<-Ac];simp only[wD,LG,Cf h,b5]
def LZ{op:BinOp}{k:IntKind}{x y r:Int}(h:EK op k x y=some r):ux op k x y=some r:=by
 unfold EK at h;split at h
 ·rename_i a b;cases an:(Nat.ble a 18446744073709551615&&Nat.ble b 18446744073709551615)with
  |false=>rw[an]at h;cases h
  |true=>
   rw[an]at h;rw[cz]at an;have a4:=bJ an.1;have ag:=bJ an.2;have Ig:a<2^64:=by omega
   have L0:b<2^64:=by omega
   simp only[b5]at h;split at h;·rw[<-h];simp only[ux,Ky,Ad a4,Ad ag];rw[wrap64 (by have:=Nat.and_lt_two_pow a L0;omega)];rfl
   ·rw[<-h];simp only[ux,BitVec.toNat_or,Ad a4,Ad ag];rw[wrap64 (by have:=Nat.or_lt_two_pow Ig L0;omega)];rfl
   ·rw[<-h];simp only[ux,BitVec.toNat_xor,Ad a4,Ad ag];rw[wrap64 (by have:=Nat.xor_lt_two_pow Ig L0;omega)];rfl
   ·rw[<-h];have aB:(~~~(BitVec.ofInt IntKind.u64.bits (Int.ofNat b))).toNat=18446744073709551615-b:=by rw[BitVec.toNat_not,Ad ag];rfl
    simp only[ux,Ky,Ad a4,aB];rw[wrap64 (by have:=Nat.and_lt_two_pow a (show 18446744073709551615-b<2^64 by omega);omega)];rfl
   ·cases h
 ·exact h
def akU(a b:UInt8):Q2 a b=decide (a=b):=by unfold Q2;rw[RD];simp only[Lq];exact UInt8.toNat_inj
def EY:∀ (l m:List UInt8),vc l m=decide (l=m)
 |[],[]=>by simp[vc]
 |[],_::_=>by simp[vc]
 |_::_,[]=>by simp[vc]
 |a::l,b::m=>by
  simp only[vc,akU,EY l m];by_cases h:a=b;·subst h;simp
  ·simp[h]
def Ae{α:Type}:∀ (l:List α) (n:Nat),wE l n=l[n]?
 |[],n=>by simp[wE]
 |v::l,n=>by
  unfold wE;cases n with
  |zero=>rfl| succ n=>exact(Ae l n).trans (by simp)
def Ih{α:Type}:∀ (l:List α) (n:Nat),Cl l n=l.drop n
 |[],n=>by simp[Cl]
 |v::l,n=>by
  unfold Cl;cases n with
  |zero=>rfl| succ n=>exact(Ih l n).trans (by simp)
def ZD{n:Nat}{l r:List ap}(h:Ck n l=some r):r=l.take n/\r.length=n:=by
 induction n generalizing l r with
 |zero=>simp[Ck]at h;subst h;simp
 |succ n aL=>
  cases l with
  |nil=>simp[Ck]at h
  |cons v l=>
   simp only[Ck]at h;split at h;·rename_i q aR;obtain⟨rfl,ab⟩:=aL aR;cases h;simp at ab |-;omega
   ·cases h
structure Loc where
 b:Nat
 o:Nat
 c:Nat
abbrev bP:=Nat->Option Loc
def bP.le(D bC:bP):Prop:=∀ i a,D i=some a->bC i=some a
mutual
def aU(D:bP):ap->Value->Prop
 | .b x,u=>u=.bool x| .i k n,u=>u=.int k n| .s l,u=>u=.string ⟨l.toArray⟩| .pn,u=>u=.pointer none| .p id off,u=>∃ a,D id=some a/\u=.pointer (some ⟨a.b,a.o+off,none⟩)| .g n off,u=>u=.pointer (some ⟨n,off,none⟩)| .sn,u=>u=.slice none 0 0| .sl id off n c,u=>∃ a,D id=some a/\u=.slice (some ⟨a.b,a.o+off,none⟩) n c| .sx id off e n,u=>∃ a,D id=some a/\e+n<=a.c/\u=.slice (some ⟨a.b,a.o+off,none⟩) n (a.c-e)| .gs n off k c,u=>u=.slice (some ⟨n,off,none⟩) k c| .so,u=>∃ a c,u=.slice (some a) 0 c| .mn,u=>u=.map none| .m id,u=>∃ a,D id=some a/\u=.map (some a.b)| .f g l r,u=>∃ vs ws,bM D l vs/\bM D r ws/\u=.func (.func g) vs.toArray ws.toArray| .y id,u=>∃ a,D id=some a/\u=.func (.yield a.b) #[] #[]| .fn,u=>u=.nilFunc| .ni,u=>u=.nilIface| .H0 t v,u=>∃ x,aU D v x/\u=.iface t x| .t l,u=>∃ vs,bM D l vs/\u=.tuple vs.toArray| .a l,u=>∃ vs,bM D l vs/\u=.agg vs.toArray
def bM(D:bP):List ap->List Value->Prop
 |[],us=>us=[]| v::l,us=>∃ x xs,aU D v x/\bM D l xs/\us=x::xs
end
section
variable{D bC:bP}
mutual
def aU.mono(h:D.le bC):∀ {v:ap} {u:Value},aU D v u->aU bC v u
 | .b _,_,ah | .i _ _,_,ah | .s _,_,ah | .pn,_,ah | .g _ _,_,ah | .sn,_,ah | .gs ..,_,ah | .so,_,ah | .mn,_,ah | .fn,_,ah | .ni,_,ah=>by simpa only[aU]using ah
 | .p ..,_,ah | .sl ..,_,ah | .m _,_,ah | .y _,_,ah=>by simp only[aU]at ah |-;obtain⟨a,aa,ab⟩:=ah;exact⟨a,h _ _ aa,ab⟩
 | .sx ..,_,ah=>by simp only[aU]at ah |-;obtain⟨a,aa,ab⟩:=ah;exact⟨a,h _ _ aa,ab⟩
 | .f _ l r,_,ah=>by simp only[aU]at ah |-;obtain⟨vs,ws,aa,ab,aj⟩:=ah;exact⟨vs,ws,bM.mono h aa,bM.mono h ab,aj⟩
 | .H0 _ v,_,ah=>by simp only[aU]at ah |-;obtain⟨x,aa,ab⟩:=ah;exact⟨x,aU.mono h aa,ab⟩
 | .t l,_,ah=>by simp only[aU]at ah |-;obtain⟨x,aa,ab⟩:=ah;exact⟨x,bM.mono h aa,ab⟩
 | .a l,_,ah=>by simp only[aU]at ah |-;obtain⟨x,aa,ab⟩:=ah;exact⟨x,bM.mono h aa,ab⟩
def bM.mono(h:D.le bC):∀ {l:List ap} {us:List Value},bM D l us->bM bC l us
 |[],_,ah=>by simpa only[bM]using ah
 |v::l,_,ah=>by simp only[bM]at ah |-;obtain⟨x,xs,aa,ab,aj⟩:=ah;exact⟨x,xs,aU.mono h aa,bM.mono h ab,aj⟩
end
def bM.nil:bM D [] []:=by simp[bM]
def bM.cons{v:ap}{l:List ap}{x:Value}{xs:List Value}(h:aU D v x)(k:bM D l xs):bM D (v::l) (x::xs):=by simp only[bM];exact⟨x,xs,h,k,rfl⟩
def bM.kF{v:ap}{l:List ap}{us:List Value}(h:bM D (v::l) us):∃ x xs,aU D v x/\bM D l xs/\us=x::xs:=by simpa only[bM]using h
def bM.nP{us:List Value}(h:bM D [] us):us=[]:=by simpa only[bM]using h
def bM.len:∀ {l:List ap} {us:List Value},bM D l us->us.length=l.length
 |[],_,h=>by rw[h.nP];rfl
 |v::l,_,h=>by obtain⟨x,xs,aa,ab,rfl⟩:=h.kF;simp[bM.len ab]
def bM.get:∀ {l:List ap} {us:List Value} {i:Nat} {v:ap},bM D l us->l[i]?=some v->∃ x,us[i]?=some x/\aU D v x
 |[],_,i,v,h,hi=>by simp at hi
 |w::l,_,i,v,h,hi=>by
  obtain⟨x,xs,aa,ab,rfl⟩:=h.kF;cases i with
  |zero=>simp at hi;subst hi;exact⟨x,rfl,aa⟩| succ i=>simpa using bM.get ab (by simpa using hi)
def bM.RE:∀ {l:List ap} {us:List Value},us.length=l.length->(∀ (i:Nat) (v:ap),l[i]?=some v->∃ x,us[i]?=some x/\aU D v x)->bM D l us
 |[],us,ay,h=>by have:us=[]:=iy (by simpa using ay);subst this;exact .nil
 |w::l,us,ay,h=>by
  cases us with
  |nil=>simp at ay| cons x xs=>obtain⟨y,aE,aa⟩:=h 0 w rfl;simp at aE;subst aE;exact .cons aa (bM.RE (by simpa using ay) λi v hi=>by simpa using h (i+1) v (by simpa using hi))
def bM.append:∀ {l:List ap} {us:List Value} {m:List ap} {ws:List Value},bM D l us->bM D m ws->bM D (l++m) (us++ws)
 |[],_,m,ws,h,k=>by rw[h.nP];exact k
 |w::l,_,m,ws,h,k=>by obtain⟨x,xs,aa,ab,rfl⟩:=h.kF;exact .cons aa (bM.append ab k)
def bM.take:∀ {l:List ap} {us:List Value} (n:Nat),bM D l us->bM D (l.take n) (us.take n)
 |[],_,n,h=>by rw[h.nP];simpa using bM.nil
 |w::l,_,n,h=>by
  obtain⟨x,xs,aa,ab,rfl⟩:=h.kF;cases n with
  |zero=>simpa using bM.nil| succ n=>simpa using bM.cons aa (bM.take n ab)
def bM.drop:∀ {l:List ap} {us:List Value} (n:Nat),bM D l us->bM D (l.drop n) (us.drop n)
 |[],_,n,h=>by rw[h.nP];simpa using bM.nil
 |w::l,us,n,h=>by
  cases n with
  |zero=>simpa using h| succ n=>obtain⟨x,xs,aa,ab,rfl⟩:=h.kF;simpa using bM.drop n ab
def bM.G7{l:List ap}{us:List Value}(h:bM D l us):∀ n,bM D (Cp n l) ((List.replicate n us).flatten)
 |0=>by simpa[Cp]using bM.nil
 |n+1=>by rw[Hk,PQ];exact h.append (bM.G7 h n)
def aU.bool{x:Bool}{u:Value}(h:aU D (.b x) u):u=.bool x:=by simpa only[aU]using h
def aU.int{k:IntKind}{n:Int}{u:Value}(h:aU D (.i k n) u):u=.int k n:=by simpa only[aU]using h
def aU.str{l:List UInt8}{u:Value}(h:aU D (.s l) u):u=.string ⟨l.toArray⟩:=by simpa only[aU]using h
def aU.ptr{id off:Nat}{u:Value}(h:aU D (.p id off) u):∃ a,D id=some a/\u=.pointer (some ⟨a.b,a.o+off,none⟩):=by simpa only[aU]using h
def aU.qR{id off:Nat}{u:Value}(h:aU D (.g id off) u):u=.pointer (some ⟨id,off,none⟩):=by simpa only[aU]using h
def aU.sX{id off n c:Nat}{u:Value}(h:aU D (.sl id off n c) u):∃ a,D id=some a/\u=.slice (some ⟨a.b,a.o+off,none⟩) n c:=by simpa only[aU]using h
def aU.vg{id off e n:Nat}{u:Value}(h:aU D (.sx id off e n) u):∃ a,D id=some a/\e+n<=a.c/\u=.slice (some ⟨a.b,a.o+off,none⟩) n (a.c-e):=by simpa only[aU]using h
def aU.RF{id off n c:Nat}{u:Value}(h:aU D (.gs id off n c) u):u=.slice (some ⟨id,off,none⟩) n c:=by simpa only[aU]using h
def aU.L1{u:Value}(h:aU D .so u):∃ a c,u=.slice (some a) 0 c:=by simpa only[aU]using h
def aU.Cu{u:Value}(h:aU D .sn u):u=.slice none 0 0:=by simpa only[aU]using h
def aU.agg{l:List ap}{u:Value}(h:aU D (.a l) u):∃ vs,bM D l vs/\u=.agg vs.toArray:=by simpa only[aU]using h
def aU.RG{l:List ap}{u:Value}(h:aU D (.t l) u):∃ vs,bM D l vs/\u=.tuple vs.toArray:=by simpa only[aU]using h
def aU.L2{l:List ap}(h:bM D l vs):aU D (.a l) (.agg vs.toArray):=by simp only[aU];exact⟨vs,h,rfl⟩
def aU.L3{l:List ap}(h:bM D l vs):aU D (.t l) (.tuple vs.toArray):=by simp only[aU];exact⟨vs,h,rfl⟩
def aU.undef:aU D (.t []) undef:=by simp only[aU];exact⟨[],.nil,rfl⟩
def aU.cells{v:ap}{u:Value}(h:aU D v u):bM D v.cells u.cells.toList:=by
 cases v<;>simp only[ap.cells]
 case a l=>obtain⟨vs,aa,rfl⟩:=h.agg;simpa[Value.cells]using aa
 all_goals
  have key:∀ w:Value,(∀ cs,w≠.agg cs)->w.cells.toList=[w]:=λw hw=>by cases w<;>first | rfl | exact(hw _ rfl).elim
  rw[key u ?_];·exact .cons h .nil
  ·rintro cs rfl;simp[aU]at h
def aU.one{v:ap}{u:Value}(h:aU D v u)(aH:v.one=true):u.oneCell'=true:=by
 cases v<;>simp only[ap.one,k8]at aH<;>simp only[aU]at h
 all_goals first
  |(subst h;rfl)|(obtain⟨_,_,rfl⟩:=h;rfl)|(obtain⟨_,_,_,rfl⟩:=h;rfl)|(obtain⟨_,_,_,_,rfl⟩:=h;rfl)
def bM.one{l:List ap}{us:List Value}(h:bM D l us)(aH:l.all ap.one=true):gv us=true:=by refine fy.2 λx ad=>?_;obtain⟨i,hi⟩:=Lo ad;have aX:=(ia.1 hi).1;rw[h.len]at aX;obtain⟨y,aE,ah⟩:=h.get (dg aX);rw[hi]at aE;cases aE;exact ah.one (fy.1 aH _ (br aX))
def aU.ZE{u:Value}{v:ap}(h:H2 u=some v):aU D v u:=by
 unfold H2 at h;split at h<;>cases h<;>simp[aU]
def bM.EZ:∀ {us:List Value} {l:List ap},yg us=some l->bM D l us
 |[],l,h=>by simp only[yg]at h;cases h;exact .nil
 |u::us,l,h=>by
  simp only[yg]at h;split at h;·rename_i x m aa ab;cases h;exact .cons (.ZE aa) (bM.EZ ab)
  ·cases h
def aU.of{u:Value}{v:ap}(h:EJ u=some v):aU D v u:=by
 unfold EJ at h;split at h
 ·split at h
  ·rename_i l ay;cases h;have:=bM.EZ (D:=D) ay;simpa using aU.L2 this
  ·cases h
 ·exact .ZE h
def L4{agg:Bool}{l:List ap}{v:ap}(h:EM agg l=some v)(ay:bM D l vs):aU D v (pack agg vs):=by
 unfold EM at h;cases agg with
 |true=>simp only[b5]at h;cases h;exact .L2 ay
 |false=>
  simp only[b']at h;split at h;·cases h;obtain⟨x,xs,aa,ab,rfl⟩:=ay.kF;rw[ab.nP];exact aa
  ·cases h
def RH:∀ {cs:List ap} {off:Nat} {vs r:List ap} {us xs:List Value},yi cs off vs=some r->bM D cs us->bM D vs xs->bM D r (cm us off xs)/\off+xs.length<=us.length
 |cs,0,[],r,us,xs,h,an,ah=>by simp[yi]at h;subst h;rw[ah.nP];exact⟨by simpa[cm]using an,by simp⟩
 |[],0,_::_,r,us,xs,h,an,ah=>by simp[yi]at h
 |[],_+1,_,r,us,xs,h,an,ah=>by simp[yi]at h
 |c::cs,0,v::vs,r,us,xs,h,an,ah=>by
  simp only[yi]at h;split at h
  ·rename_i q aR;cases h;obtain⟨x,us,aa,ab,rfl⟩:=an.kF;obtain⟨y,xs,aj,aI,rfl⟩:=ah.kF;obtain⟨bB,b4⟩:=RH aR ab aI;refine⟨?_,by simp at b4 |-;omega⟩;have e:cm (x::us) 0 (y::xs)=y::cm us 0 xs:=by simp[cm]
   rw[e];exact .cons aj bB
  ·cases h
 |c::cs,n+1,vs,r,us,xs,h,an,ah=>by
  simp only[yi]at h;split at h
  ·rename_i q aR;cases h;obtain⟨x,us,aa,ab,rfl⟩:=an.kF;obtain⟨bB,b4⟩:=RH aR ab ah;refine⟨?_,by simp;omega⟩;have e:cm (x::us) (n+1) xs=x::cm us n xs:=by simp only[cm,qh,m4,xU,true_and];rw[show n+1+xs.length=(n+xs.length)+1 by omega,HR]
   rw[e];exact .cons aa bB
  ·cases h
inductive Ii(D:bP):List (Nat×ap)->List (Nat×Value)->Prop
 |nil:Ii D [] []| cons {i v u l us} (h:aU D v u) (k:Ii D l us):Ii D ((i,v)::l) ((i,u)::us)
def L5{place:Nat->Option (Nat×Nat)}:∀ {vs:List (Nat×ap)} {cells r:List ap} {us:List Value} {xs:List (Nat×Value)},z8 place cells vs=some r->bM D cells us->Ii D vs xs -> ∃ a0,tg place us xs=some a0/\bM D r a0
 |[],cells,r,us,_,h,an,.nil=>by simp only[z8]at h;cases h;exact⟨us,rfl,an⟩
 |(i,v)::vs,cells,r,us,_,h,an,.cons (u:=u) (us:=xs) ah iL=>by
  simp only[z8]at h;split at h;·cases h
  ·rename_i off size aC;cases ag:Nat.beq v.cells.length size with
   |false=>rw[ag]at h;cases h
   |true=>
    rw[ag]at h;simp only[b5]at h;split at h
    ·rename_i cs nx;obtain⟨aa,ab⟩:=RH nx an ah.cells;obtain⟨a0,aj,aI⟩:=L5 h aa iL;refine⟨a0,?_,aI⟩;have ay:u.cells.size=v.cells.length:=by simpa using ah.cells.len
     simp only[tg,aC,ay,ag];rw[show Nat.ble (off+size) us.length=true by rw[LX,hV];have:=dP ag;simp at ab;omega];exact aj
    ·cases h
end
def gp(D:bP)(x:dA)(v:ap):Prop:=(∃ u,x=.val u/\aU D v u)\/∃ q,v=.b q/\x=.lit q
def gp.val{D:bP}{u:Value}{v:ap}(h:aU D v u):gp D (.val u) v:=.inl ⟨u,rfl,h⟩
def gp.mono{D bC:bP}(cW:D.le bC){x:dA}{v:ap}(h:gp D x v):gp bC x v:=by
 rcases h with⟨u,rfl,h⟩ | ⟨q,rfl,rfl⟩
 ·exact .val (h.mono cW)
 ·exact .inr ⟨q,rfl,rfl⟩
def qS(D:bP)(F:Fr)(al:bf ap):Prop:=∀ t v,al.get t=some v->gp D (F t) v
def jl(D:bP)(F:Fr)(al:bf ap)(xs:List Operand):Prop:=∀ x∈xs,∀ v,dj al x=some v->gp D (dk F x) v
def qS.op{D:bP}{F:Fr}{al:bf ap}(h:qS D F al)(xs:List Operand):jl D F al xs:=λx _ v ah=>by
 cases x with
 |tmp t=>exact h t v ah
 |const c=>
  have j2:EJ c=some v:=ah;cases c with
  |bool q=>
   have:v=.b q:=by simp[EJ,H2]at j2;exact j2.symm
   exact .inr ⟨q,this,rfl⟩
  |_=>exact .val (.of j2)
 |global g=>
  have:v=.g g 0:=by simpa[dj]using ah.symm
  subst this;exact .val (by simp[aU])
 |func f=>
  have:v=.f f [] []:=by simpa[dj]using ah.symm
  subst this;exact .val (by simp only[aU];exact⟨[],[],.nil,.nil,rfl⟩)
section
variable{D:bP}{F:Fr}{al:bf ap}{xs:List Operand}
def gp.dy{x:Operand}{v:ap}(h:gp D (dk F x) v):∃ u,bE F x=.val u/\aU D v u:=by
 unfold bE Go.V.dy;rcases h with⟨u,h,ah⟩ | ⟨q,rfl,h⟩
 ·rw[h];exact⟨u,rfl,ah⟩
 ·rw[h];exact⟨.bool q,rfl,by simp[aU]⟩
def gp.wJ{x:dA}{v:ap}(h:gp D x v)(ah:∀ q,v≠.b q):∃ u,x=.val u/\aU D v u:=by
 rcases h with h | ⟨q,h,_⟩
 ·exact h
 ·exact(ah q h).elim
def jl.bE(h:jl D F al xs){x:Operand}(ad:x∈xs){v:ap}(ah:dj al x=some v):∃ u,bE F x=.val u/\aU D v u:=(h x ad v ah).dy
def jl.mP(h:jl D F al xs):∀ {l:List Operand} {vs:List ap},(∀ x∈l,x∈xs)->oa al l=some vs->∃ us,mP F l=some us/\bM D vs us
 |[],vs,_,ah=>by simp only[oa]at ah;cases ah;exact⟨[],rfl,.nil⟩
 |x::l,vs,ay,ah=>by
  simp only[oa]at ah;split at ah;·rename_i v vs aa ab;cases ah;obtain⟨u,aG,a8⟩:=h.bE (ay x (by simp)) aa;obtain⟨us,a7,ba⟩:=jl.mP h (λy aE=>ay y (by simp[aE])) ab;refine⟨u::us,?_,.cons a8 ba⟩;show j0 (dk F) (x::l)=_;rw[j0];have ej:dy (dk F) x=.val u:=aG;have q9:j0 (dk F) l=some us:=a7;rw[ej,q9]
  ·cases ah
def jl.parts(h:jl D F al xs):∀ {l:List (Nat×Operand)} {vs:List (Nat×ap)},(∀ x∈l.map (·.2),x∈xs)->EN al l=some vs->∃ us,Bd F l=some us/\Ii D vs us
 |[],vs,_,ah=>by simp only[EN]at ah;cases ah;exact⟨[],rfl,.nil⟩
 |(i,x)::l,vs,ay,ah=>by
  simp only[EN]at ah;split at ah;·rename_i v vs aa ab;cases ah;obtain⟨u,aG,a8⟩:=h.bE (ay x (by simp)) aa;obtain⟨us,a7,ba⟩:=jl.parts h (λy aE=>ay y (by simp only[b0,ec];exact .inr aE)) ab;refine⟨(i,u)::us,?_,.cons a8 ba⟩;show th (dk F) ((i,x)::l)=_;rw[th];have ej:dy (dk F) x=.val u:=aG;have q9:th (dk F) l=some us:=a7;rw[ej,q9]
  ·cases ah
end
inductive qT(D:bP):List (ap×ap)->List MapEntry->Prop
 |nil:qT D [] []| cons {k v es e l} (ae:aU D k e.key) (ah:aU D v e.val) (t:qT D es l):qT D ((k,v)::es) (e::l)
def h8(n:Nat):Code->Bool
 | .seq x y=>h8 n x&&h8 n y| .block _ c=>h8 n c| .cond _ x y=>h8 n x&&h8 n y| .loop c=>h8 n c| .scope c=>h8 n c| .region _ ops _=>xF n ops| .rangeFunc _ ps fg body=>h8 n fg&&(h8 n body&&ps.toList.all λt=>Nat.blt t n)| _=>true
structure ZF(D:bP)(busy:Bool)(n:Nat)(al:bf ap)(ps:List Nat)(fg body:Code)(L:Loop):Prop where
 aZ:L.state=bif busy then .busy else .ready
 qm:L.pending=none
 sz:L.tmps.size=n
 al:∀ t v,al.get t=some v->aU D v (L.tmps.getD t undef)
 ps:L.params.toList=ps
 fg:L.assign=fg
 body:L.body=body
 x1:h8 n L.assign=true
 nC:h8 n L.body=true
 op:∀ t∈L.params.toList,t<n
inductive lC(D:bP)(E:Env)(M:List aD)(a:Loc):fG->Prop
 |cells{cs:bf ap}{T fH:Nat}(arr:Array Value)(aH:a.o=0)(a':(⟨a.b,.cells arr T (0,0)⟩:aD)∈M)(ay:a.o+fH<=arr.size)(an:∀ i v,i<fH->cs.get i=some v->∃ x,arr[a.o+i]?=some x/\aU D v x)(ae:∀ i,E T=some i->arr.size=a.o+a.c*i.size)(hm:a.c<=maxLen):lC D E M a (.cells cs T fH)| map {es:List (ap×ap)} (l:List MapEntry) (clock:Nat) (a':(⟨a.b,.map l.toArray clock⟩:aD)∈M) (he:qT D es l):lC D E M a (.map es)| loop {busy n al ps fg body} (L:Loop) (a':(⟨a.b,.loop L⟩:aD)∈M) (cc:ZF D busy n al ps fg body L):lC D E M a (.loop busy n al ps fg body)| done {c n al ps fg body} (L:Loop) (a':(⟨a.b,.loop L⟩:aD)∈M) (ar:L.state=.done) (aC:L.pending=some c):lC D E M a (.done c n al ps fg body)
def qT.mono{D bC:bP}(cW:D.le bC){es:List (ap×ap)}{l:List MapEntry}(h:qT D es l):qT bC es l:=by
 induction h with
 |nil=>exact .nil| cons ae ah t aL=>exact .cons (ae.mono cW) (ah.mono cW) aL
def lC.mono{D bC:bP}{M':List aD}{a:Loc}(cW:D.le bC)(a':∀ x∈M,x.num=a.b->x∈M'){e:fG}(h:lC D E M a e):lC bC E M' a e:=by
 cases h with
 |cells arr az aa ab aj aI bB=>exact .cells arr az (a' _ aa rfl) ab (λi v hi au=>by obtain⟨x,a8,ba⟩:=aj i v hi au;exact⟨x,a8,ba.mono cW⟩) aI bB| map l clock aa ab=>exact .map l clock (a' _ aa rfl) (ab.mono cW)| loop L aa ab=>exact .loop L (a' _ aa rfl) { ab with al:=λt v av=>(ab.al t v av).mono cW }| done L aa ab aj=>exact .done L (a' _ aa rfl) ab aj
def Ij(G:GT)(I:aJ):Prop:=∀ g cs,G g=some cs->∃ (arr:Array Value) (T:Nat) (f:Nat×Nat),I g=some (.cells arr T f)/\∀ i v,cs.get i=some v->∃ x,arr[i]?=some x/\∀ D,aU D v x
structure c9(Y:gN)(D:bP)(m:bp)(I:aJ)(M:List aD):Prop where
 iU:∀ id e a,m.t.get id=some e->D id=some a->lC D Y.E M a e
 inj:∀ id iV e cX a bO,m.t.get id=some e->m.t.get iV=some cX->D id=some a->D iV=some bO->a.b=bO.b->id=iV
 jS:∀ id a,D id=some a->id<m.n
 qR:Ij Y.G I
section
variable{Y:gN}{D:bP}{m:bp}{I:aJ}{M:List aD}{R:Type}
def wK(h:c9 Y D m I M){x:ap}{u:Value}(ad:aU D x u){n:Nat}{K:List ap->Option R}{r:R}(af:tW Y.G m.t x n K=some r) :
  ∃ aS l vs,u=.pointer (some aS)/\cF I M aS n vs/\bM D l vs/\K l=some r:=by
 have key:∀ (arr:Array Value) (cR off:Nat) (l:List ap),l.length=n->cR+off+n<=arr.size->(∀ i,i<n->∀ v,l[i]?=some v->∃ x,arr[cR+off+i]?=some x/\aU D v x) ->
   ((arr.toList.drop (cR+off)).take n).length=n/\bM D l ((arr.toList.drop (cR+off)).take n):=by
  intro arr cR off l ay df au;have c2:((arr.toList.drop (cR+off)).take n).length=n:=by simp;omega
  refine⟨c2,bM.RE (by rw[c2,ay]) λi v hi=>?_⟩;have fw:i<n:=by rw[<-ay];exact(ia.1 hi).1
  obtain⟨x,aa,ab⟩:=au i fw v hi;refine⟨x,?_,ab⟩;rw[k7,bN fw,nX];simpa using aa
 unfold tW at af;split at af
 ·rename_i id off;split at af
  ·rename_i cs T fH au;cases ag:Nat.ble (Nat.add off n) fH with
   |false=>rw[ag]at af;cases af
   |true=>
    rw[ag]at af;have ju:off+n<=fH:=bJ ag;simp only[b5]at af;obtain⟨l,aa,ab,aj⟩:=bf.EX cs n off K r af;obtain⟨a,a4,hu⟩:=ad.ptr;have he:=h.iU _ _ _ au a4;obtain⟨arr,-,a',ay,an,-,-⟩:=he;obtain⟨eg,cy⟩:=key arr a.o off l aa (by omega) λi hi v ah=>by have:=an (off+i) v (by omega) (by rw[ab i hi,ah]);rw[<-tf]at this;exact this
    exact⟨_,l,_,hu,⟨rfl,arr,T,(0,0),.inr ⟨_,a',rfl,rfl⟩,rfl,eg⟩,cy,aj⟩
  ·cases af
 ·rename_i g off;split at af
  ·rename_i cs au;obtain⟨l,aa,ab,aj⟩:=bf.EX cs n off K r af;obtain⟨arr,T,f,bw,an⟩:=h.qR _ _ au;have hu:=ad.qR;have gR:∀ i,i<n->∀ v,l[i]?=some v->∃ x,arr[0+off+i]?=some x/\aU D v x:=λi hi v ah=>by obtain⟨x,a8,ba⟩:=an (off+i) v (by rw[ab i hi,ah]);exact⟨x,by simpa using a8,ba D⟩
   by_cases aB:n=0;·subst aB;have:l=[]:=iy aa;subst this;exact⟨_,[],[],hu,⟨rfl,arr,T,f,.inl bw,by simp,rfl⟩,.nil,aj⟩
   ·have df:0+off+n<=arr.size:=by
     have aX:n-1<l.length:=by omega
     obtain⟨x,a8,_⟩:=gR (n-1) (by omega) l[n-1] (dg aX);have:=(lK.1 a8).1;omega
    obtain⟨eg,cy⟩:=key arr 0 off l aa df gR;simp only[c8]at eg cy;exact⟨_,l,_,hu,⟨rfl,arr,T,f,.inl bw,rfl,eg⟩,cy,aj⟩
  ·cases af
 ·cases af
end
def akV{k:IntKind}(h:IntKind.mQ k eZ=true):k=eZ:=IntKind.DB h
def L6(l m:List UInt8):decide ((⟨l.toArray⟩:ByteArray)=⟨m.toArray⟩)=decide (l=m):=by
 simp only[Lq];constructor
 ·intro h;simpa using h
 ·rintro rfl;rfl
def akW(a b:ByteArray):(a == b)=decide (a=b):=by
 rw[sm];simp only[hV];constructor
 ·intro h
  first | exact eq_of_beq h | exact vL (eq_of_beq (a:=a.data) (b:=b.data) h)
 ·rintro rfl
  first | exact Gw _ | exact Gw a.data
section
variable{P:Program}{E:Env}{D:bP}
def L7(aO:cT P E){o:Nat}{l:List ap}{x:ap}(h:z7 E t o l=some x){us:List Value}(ay:bM D l us):∃ u,aU D x u/\∀ w,(part t us.toArray o).run P w=.ok u w:=by
 unfold z7 at h;obtain⟨i,aa,h⟩:=cp h;obtain⟨az,h⟩:=Ab h;have iO:i.size≠0:=λe=>by rw[e]at az;cases az
 obtain⟨r,ab,h⟩:=cp h;obtain⟨aG,a7⟩:=ZD ab;rw[Ih]at aG;have c2:=ay.len;subst aG;refine⟨_,L4 h ((ay.drop o).take _),λw=>?_⟩;have:=OA (aO _ _ aa) (cs:=us.toArray) (off:=o) (by rw[hx,tp]at a7;simp;omega) w;simpa using this
def RI{F:Nat->ap->ap->Option Bool}{l m:List ap}{α β:Type}{pl:α->Nat×Nat}{g:α->β->Sem (ForInStep β)}{cx s1:β}{w:World}:∀ (L:List α) {b:Bool},Cm F E l m (L.map pl)=some b -> (∀ a∈L,∀ x y c,z7 E (pl a).1 (pl a).2 l=some x->z7 E (pl a).1 (pl a).2 m=some y->F (pl a).1 x y=some c->(g a cx).run P w=.ok (if c then .yield cx else .done s1) w) -> (forIn L cx g).run P w=.ok (if b then cx else s1) w
 |[],b,h,_=>by cases h;simp[c3]
 |a::L,b,h,au=>by
  simp only[b0]at h;unfold Cm at h;obtain⟨x,aa,h⟩:=cp h;obtain⟨y,ab,h⟩:=cp h;obtain⟨c,aj,h⟩:=cp h;simp only[List.forIn_cons,ck];rw[au a (by simp) x y c aa ab aj];rw[kE]at h;cases c with
  |true=>simp only[pk,bV];exact RI L h λbO a4=>au bO (by simp[a4])
  |false=>cases h;simp[bV,c3]
def RJ(aO:cT P E):∀ (d:Nat) {t:Nat} {x y:ap} {b:Bool} {u v:Value},yh P E d t x y=some b->aU D x u->aU D y v->∀ n,d<=n->∀ w,(Op.equalIn n t u v).run P w=.ok b w
 |0,t,x,y,b,u,v,h,ad,aE,n,aB,w=>by cases h
 |d+1,t,x,y,b,u,v,h,ad,aE,0,aB,w=>by omega
 |d+1,t,x,y,b,u,v,h,ad,aE,n+1,aB,w=>by
  unfold yh at h;obtain⟨i,hi,h⟩:=cp h;obtain⟨qq,fF,nZ⟩:=(aO _ _ hi).fo;rw[Op.equalIn];simp only[ck,run_underlying fF,bV];split at h
  ·rename_i a bO ar _;cases h;have a8:qq=.bool:=by cases qq<;>simp_all[fm]
   subst a8;rw[ad.bool,aE.bool];rfl
  ·rename_i eZ k a cy bO ar _;obtain⟨aG,h⟩:=fW h;cases h;have a8:qq=.int eZ:=by cases qq<;>simp_all[fm]
   subst a8;rw[ad.int,aE.int];rw[akV aG];have ag:(a == bO)=sV a bO:=by
    rw[Ct];by_cases e:a=bO;·subst e;simp
    ·simp[e]
   simp[ag]
  ·rename_i a bO ar _;cases h;have a8:qq=.string:=by cases qq<;>simp_all[fm]
   subst a8;rw[ad.str,aE.str];show Result.ok _ _=_;rw[EY,<-L6];congr 1;exact akW _ _
  ·rename_i cQ l m ar _;obtain⟨aG,h⟩:=fW h;unfold YX at aG;rw[fF]at aG;cases qq with
   |struct fields=>
    simp only[cz,to,fy,hV]at aG;obtain⟨aG,a7⟩:=aG;rw[ar]at nZ;simp only[fm,Ga.struct.injEq]at nZ;subst nZ;obtain⟨us,aa,rfl⟩:=ad.agg;obtain⟨ws,ab,rfl⟩:=aE.agg;simp only[ck,run_program,bV,aG,k8,lM];rw[<-Array.forIn_toList];rw[RI (P:=P) (s1:=⟨some false,⟨⟩⟩) fields.toList h (λf aA x y c wL mC an=>by
     obtain⟨p,eg,cy⟩:=L7 aO wL aa;obtain⟨q,gG,mm⟩:=L7 aO mC ab;have aR:=RJ aO d an eg gG n (by omega) w;simp only[a7 f aA,pk,ne_eq,not_false_eq_true,ck,cy,mm,bV,aR];cases c<;>simp[c3])]
    cases b<;>simp[bV,c3]
   |_=>cases aG
  ·rename_i len e l m ar _;obtain⟨aF,ht,h⟩:=cp h;have a8:qq=.array len e:=by cases qq<;>simp_all[fm]
   subst a8;obtain⟨us,aa,rfl⟩:=ad.agg;obtain⟨ws,ab,rfl⟩:=aE.agg;simp only[ck,(aO _ _ ht).run_sizeOf,bV,Vp];have af:List.range' 0 ([:len]:Std.Legacy.Range).size=List.range len:=by simp[Std.Legacy.Range.size,xq]
   rw[af];rw[RI (P:=P) (s1:=⟨some false,⟨⟩⟩) (List.range len) h (λf aA x y c wL mC an=>by
    obtain⟨p,eg,cy⟩:=L7 aO wL aa;obtain⟨q,gG,mm⟩:=L7 aO mC ab;have aR:=RJ aO d an eg gG n (by omega) w;simp only[ck,cy,mm,bV,aR];cases c<;>simp[c3])]
   cases b<;>simp[bV,c3]
  ·cases h
end
section
variable{X:cU}{D:bP}
def ZG(aO:cT X.P X.E){op:BinOp}{l m:List ap}{v:ap}{x:Operand}{us ws:List Value}{O:Prop}(h:H3 X.P X.E op t l m=some v)(ay:bM D l us)(hm:bM D m ws)(ae:∀ u,aU D v u->K u) :
  gw X.P op t x y (.val (.agg us.toArray)) (.val (.agg ws.toArray)) K O:=by
 unfold H3 at h;obtain⟨au,h⟩:=Ab h;obtain⟨b,aa,h⟩:=cp h;have aR:=RJ (D:=D) aO 8 aa (u:=.agg us.toArray) (v:=.agg ws.toArray) (by simp only[aU];exact⟨us,ay,rfl⟩) (by simp only[aU];exact⟨ws,hm,rfl⟩) Op.maxDepth (by decide);split at h
 ·cases h;refine .mk _ _ _ rfl rfl (λw=>?_) (ae _ (by simp only[aU];rfl));simp only[ck,run_eqGuard_agg (hm:=au),bV,binOp,Op.equal,aR,c3]
 ·cases h;refine .mk _ _ _ rfl rfl (λw=>?_) (ae _ (by simp only[aU];rfl));simp only[ck,run_eqGuard_agg (hm:=au),bV,binOp,Op.equal,aR,c3]
 ·cases h
end
def E0(x y:Int):Int:=IntKind.u64.wrap ((BitVec.ofInt 64 x ||| BitVec.ofInt 64 y).toNat:Int)
def L8(x y:BitVec 64):E0 x.toNat y.toNat=((x ||| y).toNat:Int):=by unfold E0;rw[LB,LB,YG]
def RK(x y:Int):Int:=IntKind.u64.wrap ((BitVec.ofInt 64 x &&& BitVec.ofInt 64 y).toNat:Int)
def akX(x y:BitVec 64):RK x.toNat y.toNat=((x &&& y).toNat:Int):=by unfold RK;rw[LB,LB,YG]
def akY(x y:BitVec 64):sV (x.toNat:Int) (y.toNat:Int)=decide (x=y):=by rw[Ct,<-akv,sm];simp
def E1(v:α)(x:R)(f:α->R):bo (some v) x f=f v:=rfl
def ZH(a9 mid post:List Value)(k:Nat)(vs:List Value)(h:k+vs.length<=mid.length):cm (a9++(mid++post)) (a9.length+k) vs=a9++(cm mid k vs++post):=by
 unfold cm;have aa:(a9++(mid++post)).take (a9.length+k)=a9++mid.take k:=by rw[HS,Nat.add_sub_cancel_left,fA (by omega),Bt (by omega)]
 have ab:(a9++(mid++post)).drop (a9.length+k+vs.length)=mid.drop (k+vs.length)++post:=by rw[tf,Vq,Qz h]
 rw[aa,ab];simp
def akZ(f:α->List Value)(size:Nat)(aA:∀ x,(f x).length=size)(l:List α)(i:Nat)(hi:i<l.length)(k:Nat)(vs:List Value)(ae:k+vs.length<=size)(lb:α)(ad:cm (f l[i]) k vs=f lb) :
  cm (l.flatMap f) (i*size+k) vs=(l.set i lb).flatMap f:=by
 have e:l=l.take i++l[i]::l.drop (i+1):=by rw[<-eV hi,rG]
 have aG:l.flatMap f=(l.take i).flatMap f++(f l[i]++(l.drop (i+1)).flatMap f):=by
  calc l.flatMap f=(l.take i++l[i]::l.drop (i+1)).flatMap f:=congrArg _ e
   _=_:=by rw[hg,j6]
 have a7:((l.take i).flatMap f).length=i*size:=by rw[iQ f size aA,PM (by omega)]
 rw[aG,<-a7,ZH _ _ _ _ _ (by rw[aA];exact ae),DG,bN hi,hg,j6,ad]
def ak0{aT:List Value}{j m:Nat}(h:j+vs.length<=m)(hm:m<=aT.length):(cm aT j vs).take m=cm (aT.take m) j vs:=by
 unfold cm;have aa:(aT.take m).take j=aT.take j:=by rw[Bw,uu (by omega)]
 have ab:(aT.take m).drop (j+vs.length)=(aT.drop (j+vs.length)).take (m-(j+vs.length)):=by rw[Gx]
 have aj:(aT.take j).length=j:=by rw[hx];omega
 rw[aa,ab,dV,dV,HS,aj,fA (by omega),HS,fA (by omega:vs.length<=m-j)];congr 3;omega
def aY.put(f:α->List Value)(size:Nat)(aA:∀ x,(f x).length=size){l:List α}{e:Nat}(h:os.ok size (l.flatMap f)){i:Nat}(hi:i<l.length)(k:Nat)(ae:k+vs.length<=size)(aa:gv vs=true)(lb:α)(ad:cm (f l[i]) k vs=f lb)(a9 post:List aD)(a':M=a9++(os.aq e++post)){g:Nat}(au:os.a=some g)(ak1:off=i*size+k){K:List aD->Prop}
  (gh:∀ (bs:aY),bs.val=os.val->bs.a=os.a->bs.n=os.n->bs.ok size ((l.set i lb).flatMap f)->K (a9++(bs.aq e++post))):b2 M ⟨g,off,none⟩ vs K:=by
 have Bj:=h.len;rw[iQ f size aA]at Bj;obtain⟨a,n,c,aT⟩:=os;have ay:l.length*size=n*size:=Bj;simp only at au;subst au;obtain⟨dF,eJ,eF,ik⟩:=h.cap g rfl;simp only at dF eJ eF ik;have ag:n*size<=c*size:=vK _ eJ;have iN:i*size+size<=l.length*size:=by have:=vK size (show i+1<=l.length from hi);rwa [lO,oD]at this
 subst a';subst ak1;refine b2.mk a9 post aT.toArray e rfl rfl ?_ aa ?_
 ·simp only[oC];omega
 ·have:=gh ⟨some g,n,c,cm aT (i*size+k) vs⟩ rfl rfl rfl ⟨?_,(λh=>by cases h),λdK au=>?_⟩
  ·simpa[aY.aq]using this
  ·rw[iQ f size aA,n5];exact ay
  ·cases au;refine⟨?_,eJ,eF,?_⟩
   ·simp only[cm,ch,hx,tp];omega
   ·simp only;rw[ak0 (by omega) (by omega),ik,akZ f size aA l i hi k vs ae lb ad]
def ak2(l:List Value)(k:Nat)(v:Value)(h:k<l.length):cm l k [v]=l.set k v:=by rw[DG,bN h];simp[cm]
def aY.L9(f:α->List Value)(size:Nat)(aA:∀ x,(f x).length=size){l:List α}{e:Nat}(h:os.ok size (l.flatMap f)){i:Nat}(hi:i<l.length)(lb:α)(aa:gv (f lb)=true)(a9 post:List aD)(a':M=a9++(os.aq e++post))(bH:(os.a.map λg=>(⟨g,0,none⟩:Addr))=some aS){K:List aD->Prop}
  (gh:∀ (bs:aY),bs.val=os.val->bs.a=os.a->bs.n=os.n->bs.ok size ((l.set i lb).flatMap f)->K (a9++(bs.aq e++post))):b2 M (aS.add (i*size)) (f lb) K:=by
 obtain⟨g,au,rfl⟩:∃ g,os.a=some g/\aS=⟨g,0,none⟩:=by
  cases a4:os.a with
  |none=>rw[a4]at bH;cases bH| some g=>rw[a4]at bH;cases bH;exact⟨g,rfl,rfl⟩
 rw[eP (⟨g,0,none⟩:Addr) rfl];refine aY.put f size aA h hi 0 (vs:=f lb) (by rw[aA];omega) aa lb ?_ a9 post a' au (by simp) gh;unfold cm;simp[aA]
def aY.L'(f:α->List Value)(size:Nat)(aA:∀ x,(f x).length=size){l:List α}{e:Nat}(h:os.ok size (l.flatMap f)){i:Nat}(hi:i<l.length)(k:Nat)(ae:k+vs.length<=size)(aa:gv vs=true)(lb:α)(ad:cm (f l[i]) k vs=f lb)(a9 post:List aD)(a':M=a9++(os.aq e++post))(bH:(os.a.map λg=>(⟨g,0,none⟩:Addr))=some aS){K:List aD->Prop}
  (gh:∀ (bs:aY),bs.val=os.val->bs.a=os.a->bs.n=os.n->bs.ok size ((l.set i lb).flatMap f)->K (a9++(bs.aq e++post))):b2 M ((aS.add (i*size)).add k) vs K:=by
 obtain⟨g,au,rfl⟩:∃ g,os.a=some g/\aS=⟨g,0,none⟩:=by
  cases a4:os.a with
  |none=>rw[a4]at bH;cases bH| some g=>rw[a4]at bH;cases bH;exact⟨g,rfl,rfl⟩
 rw[eP (⟨g,0,none⟩:Addr) rfl,eP _ rfl];exact aY.put f size aA h hi k ae aa lb ad a9 post a' au (by simp) gh
def ZI(w:dt){k:Nat}(ae:k<64):IntKind.u64.wrap ((BitVec.ofInt 64 ((w.toNat:Int).fdiv (2^(min k 64))) &&& BitVec.ofInt 64 1).toNat:Int)=bif w.getLsbD k then 1 else 0:=by
 have aB:w.toNat<18446744073709551616:=w.isLt;have db:min k 64=k:=by omega
 have aG:(w.toNat:Int).fdiv (2^k)=((w.toNat/2^k:Nat):Int):=by rw[Ks _ (by exact Int.le_of_lt (Int.pow_pos (by decide)))];simp
 rw[db,aG];have a7:(BitVec.ofInt 64 ((w.toNat/2^k:Nat):Int) &&& BitVec.ofInt 64 1).toNat=w.toNat/2^k%2:=by
  have aa:BitVec.ofInt 64 ((w.toNat/2^k:Nat):Int)=BitVec.ofNat 64 (w.toNat/2^k):=(show ∀ m:Nat,BitVec.ofInt 64 (m:Int)=BitVec.ofNat 64 m from λm=>by simp) _;have ab:BitVec.ofInt 64 1=BitVec.ofNat 64 1:=by decide
  rw[aa,ab,Ky,Lp,Lp];have aj:w.toNat/2^k%2^64=w.toNat/2^k:=QE (Nat.lt_of_le_of_lt (Nat.div_le_self _ _) aB);rw[aj,show 1%2^64=1 by decide,Nat.and_one_is_mod]
 rw[a7];have cn:IntKind.u64.wrap ((w.toNat/2^k%2:Nat):Int)=((w.toNat/2^k%2:Nat):Int):=by have:w.toNat/2^k%2<2:=Nat.mod_lt _ (by decide);unfold IntKind.wrap;simp only[IntKind.bits,IntKind.signed];simp;omega
 rw[cn];have dr:w.getLsbD k=w.toNat.testBit k:=rfl;rw[dr,Nat.testBit_eq_decide_div_mod_eq];have:w.toNat/2^k%2<2:=Nat.mod_lt _ (by decide);by_cases h:w.toNat/2^k%2=1
 ·rw[h];rfl
 ·have az:w.toNat/2^k%2=0:=by omega
  rw[az];rfl
def RL{k:Nat}(ae:k<64):IntKind.u64.wrap (1*2^(min k 64))=((lA k).toNat:Int):=by
 have db:min k 64=k:=by omega
 have aa:(2:Nat)^k<2^64:=Nat.pow_lt_pow_right (by decide) ae;have e:(lA k).toNat=2^k:=by unfold lA;rw[BitVec.toNat_shiftLeft];simp only[Lp];rw[Nat.shiftLeft_eq,show 1%2^64=1 by decide,oD,QE aa]
 rw[db,e,Int.one_mul];have a7:((2:Int)^k)=((2^k:Nat):Int):=by simp
 rw[a7];unfold IntKind.wrap;simp only[IntKind.bits,IntKind.signed];simp;omega
def o2(w:dt):Value:=.int .u64 w.toNat
def ZJ{w:dt}{i:Nat}(aX:i<64)(ab:¬ IntKind.u64.wrap ((BitVec.ofInt 64 ((w.toNat:Int).fdiv (2^(min i 64))) &&& BitVec.ofInt 64 1).toNat:Int)=0):w.getLsbD i=true:=by
 have ag:=ZI w aX;cases au:w.getLsbD i with
 |true=>rfl| false=>rw[au]at ag;exact absurd ag ab
def ZK{w:dt}{i:Nat}(aX:i<64)(ab:IntKind.u64.wrap ((BitVec.ofInt 64 ((w.toNat:Int).fdiv (2^(min i 64))) &&& BitVec.ofInt 64 1).toNat:Int)=0):w.getLsbD i=false:=by
 have ag:=ZI w aX;cases au:w.getLsbD i with
 |false=>rfl| true=>rw[au,ab]at ag;cases ag
def ZL{a b:Int}(h:(!decide (a=b))=true):¬ a=b:=by simpa using h
def ZM{a b:Int}(h:(!decide (a=b))=false):a=b:=by simpa using h
def ZN(w:dt):Spec Tryz.prog 105 [.int .u64 w.toNat] I M0 λv I' M'=>I'=I/\∃ os:aY,os.ok 1 ((bitsOf w 64).map λn:Nat=>Value.int .i64 n)/\v=os.val/\M'=os.aq 3++M0:=by
 refine cb [] a6 Tryz.func105 rfl rfl rfl ?_;intro B az;refine di.inv (ι:=Nat×aY) (λx=>{ bi:=[(0,.val (.int .u64 w.toNat)),(3,.val x.2.val),(5,.val (.int .i64 x.1))],cD:=I,c0:=x.2.aq 3++M0 }) (λx=>x.1<=64/\x.2.ok 1 ((bitsOf w x.1).map λn:Nat=>Value.int .i64 n)) (λx=>64-x.1) ?_ ?_
 ·exact⟨(0,h6),⟨by simp,lv 1⟩,.refl,hl,.nil⟩
 rintro⟨i,os⟩⟨hi,bT⟩;simp only at hi bT;have jm:os.n<=64:=by have aa:=bT.len;rw[bI]at aa;have:=akB w i;omega
 refine a2.mk (λh=>?_) (λh=>?_)
 rotate_left
 ·have cI:i=64:=by have:¬ (i:Int)<64:=ek h;omega
  rw[cI]at bT;exact⟨_,_,.refl,rfl,os,bT,rfl,rfl⟩
 have aX:i<64:=by have:(i:Int)<64:=dw h;omega
 refine xv.mk i rfl ?_;refine a2.mk (λab=>?_) (λab=>?_)
 ·have hw:=ZJ (w:=w) aX (ZL ab);refine bX.mk λb9 jM u1=>?_;refine bz.oZ a6 rfl (by simp) (e:=3) rfl rfl rfl os bT rfl (cs:=[.int .i64 i]) rfl rfl rfl [] M0 rfl (by omega) (by show(os.n+1)*8<=_;omega) ?_;intro kd ob e4 mc;refine bg.mk _ (cL (i:=i) (by omega)) ?_;refine⟨(i+1,kd),⟨⟨aX,?_⟩,by simp only;omega⟩,.refl,hl,.nil⟩;simp only;rw[YP,hw,cM];exact mc
 ·have hw:=ZK (w:=w) aX (ZM ab);refine bg.mk _ (cL (i:=i) (by omega)) ?_;refine⟨(i+1,os),⟨⟨aX,?_⟩,by simp only;omega⟩,.refl,hl,.nil⟩;simp only;rw[YP,hw,b',ee];exact bT
def Af(w:dt):ap:=.i .u64 w.toNat
def ZO{e:Nat}(he:E e=some aF)(ar:aF.size=1)(a4:aF.bL.agg=false)(P:List ap)(x:ap)(r:List ap):z7 E e (P.length*aF.size) (P++x::r)=some x:=by unfold z7;rw[he,E1,ar,e2,Ih,List.drop_left,a4];rfl
def ZP{F:Nat->ap->ap->Option Bool}{E:Env}{e:Nat}{aF:dG}(he:E e=some aF)(ar:aF.size=1)(a4:aF.bL.agg=false)(bG:∀ a b,F e (.i .u64 a) (.i .u64 b)=some (sV a b)):∀ (l m:List dt) (E2 E3:List ap),l.length=m.length->E2.length=E3.length -> Cm F E (E2++l.map Af) (E3++m.map Af) ((List.range' E2.length l.length).map λi=>(e,i*aF.size))=some (decide (l=m))
 |[],[],E2,E3,_,_=>rfl| [],_::_,_,_,h,_=>by simp at h
 |_::_,[],_,_,h,_=>by simp at h
 |a::l,b::m,E2,E3,h,aC=>by
  have aL:=ZP he ar a4 bG l m (E2++[Af a]) (E3++[Af b]) (by simpa using h) (by simpa using aC);rw[ch,pN,dV,dV,rW,rW]at aL;rw[dx,F8,b0,b0,b0,Cm,ZO he ar a4,E1,aC,ZO he ar a4,E1,<-aC];rw[show F e (Af a) (Af b)=some (decide (a=b)) by rw[<-akY];exact bG _ _,E1,kE];by_cases aG:a=b;·subst aG;simp only[KX,pk];rw[aL];simp
  ·simp[aG]
def k2(m:List dt):List Value:=(List.range 64).map λi=>o2 (m.getD i 0)
def Ma{m:List dt}(h:m.length=64):k2 m=m.map o2:=by
 unfold k2;apply mT
 ·simp[h]
 ·intro i aa ab;have:i<m.length:=by simpa using ab
  simp[bA,this]
def tY(m:List dt):(k2 m).length=64:=by simp[k2]
def ak3{x:Operand}{p q:List dt}(aC:p.length=64)(aR:q.length=64){V:Value->Prop}{other:Prop}(h:V (.bool (decide (p=q)))) :
  gw Tryz.prog .eql 156 x y (.val (.agg (k2 p).toArray)) (.val (.agg (k2 q).toArray)) V other:=by
 rw[Ma aC,Ma aR];have ah:∀ l:List dt,bM (λ_=>none) (l.map Af) (l.map o2):=λl=>by
  induction l with
  |nil=>exact .nil| cons a l aL=>exact .cons (by simp only[Af,o2,aU]) aL
 refine ZG (X:=⟨Tryz.prog,qs,[],0,0,default,λ_=>none,[],none⟩) (D:=λ_=>none) (v:=.b (decide (p=q))) a6 ?_ (ah p) (ah q) (λu hu=>by simp only[aU]at hu;rw[hu];exact h);show H3 Tryz.prog qs .eql 156 _ _=_;obtain⟨i1,aa,fq⟩:∃ i,qs 156=some i/\i.bL=.array 64 62:=⟨_,rfl,rfl⟩;obtain⟨i2,ab,iv,ak4⟩:∃ i,qs 62=some i/\i.bL=.int .u64/\i.size=1:=⟨_,rfl,rfl,rfl⟩;have bG:∀ a b,yh Tryz.prog qs 7 62 (.i .u64 a) (.i .u64 b)=some (sV a b):=λa b=>by simp only[yh,ab,E1,iv];rfl
 have ae:=ZP (F:=yh Tryz.prog qs 7) ab ak4 (by rw[iv];rfl) bG p q [] [] (by omega) rfl;unfold H3;rw[yh];simp only[aa,E1,fq,ab];rw[iz,iz,fS,aC]at ae;rw[xq,ae,show Tryz.prog.eqGuardType Tryz.prog.depth 156=false by kernel_rfl];rfl
structure dS where
 n:Nat
 m:List dt
 w:dt
def dS.cells(s:dS):List Value:=.int .i64 s.n::(k2 s.m++[o2 s.w])
def dS.val(s:dS):Value:=.agg s.cells.toArray
def dS.ak5(s:dS):Prop:=s.m.length=64/\s.n<=64
def wM(b:Nat)(m:List dt):aD:=⟨b,.cells (k2 m).toArray 156 (0,0)⟩
def Ik{b:Nat}{m:List dt}(a':wM b m∈M):cF I M (⟨b,0,none⟩:Addr) 64 (k2 m):=
 ⟨rfl,_,_,_,.inr ⟨_,a',rfl,rfl⟩,by simp only[vW];exact fA (by simp[tY]),tY m⟩
def ZQ{b:Nat}{m:List dt}(a':wM b m∈M){j:Nat}(ai:j<64):cF I M ((⟨b,0,none⟩:Addr).add (j*1)) 1 [o2 (m.getD j 0)]:=by rw[eP _ rfl];refine⟨rfl,_,_,_,.inr ⟨_,a',rfl,rfl⟩,?_,rfl⟩;simp only[c8,e2];rw[eV (by simpa[k2]using ai),qh,rl];simp[k2]
def ZR(m:List dt)(hm:m.length=64)(j:Nat)(ai:j<64)(w:dt):cm (k2 m) (0+j*1) [o2 w]=k2 (m.set j w):=by rw[Ma hm,Ma (by simpa using hm),c8,e2,ak2 _ _ _ (by simp[hm];exact ai),pw]
def oc(m:List dt)(i:Nat):List dt:=(List.range i).map (λq=>nd m 0 64 (m.getD q 0))++m.drop i
def ZS{m:List dt}(hm:m.length=64){i:Nat}(hi:i<=64):(oc m i).length=64:=by simp[oc,hm];omega
def ak6{m:List dt}(hm:m.length=64){i:Nat}(hi:i<64):(oc m i).set i (m.getD i 0)=oc m i:=by
 unfold oc;have h:i<m.length:=by omega
 rw[Hj _ _ (by simp)];simp only[bI,wB,pL];rw[eV h,Hl];simp[bA,h]
def ak7{m:List dt}(hm:m.length=64){i:Nat}(hi:i<64):(oc m i).set i (nd m 0 64 (m.getD i 0))=oc m (i+1):=by
 unfold oc;have h:i<m.length:=by omega
 rw[Hj _ _ (by simp)];simp only[bI,wB,pL];rw[eV h,Hl,B3,cM,dV];rfl
def ZT{m:List dt}(hm:m.length=64):oc m 64=r2 m:=by unfold oc r2;rw[va (by omega),ee]
def Ag(m:List dt)(k:Nat):dt:=(List.range k).foldl (λw i=>w ||| ((m.getD i 0) &&& lA i)) 0
def ak8(m:List dt)(k:Nat):Ag m (k+1)=Ag m k ||| (m.getD k 0 &&& lA k):=by unfold Ag;rw[B3,rO];rfl
def ak9{a b:Int}(h:a=b):xE (.val (.int .u64 a)) (.val (.int .u64 b)):=by subst h;exact .refl
def ala(m:List dt)(k:Nat):E0 (Ag m k).toNat (RK (m.getD k 0).toNat (lA k).toNat)=((Ag m (k+1)).toNat:Int):=by rw[akX,L8,ak8]
def alb{m:List dt}{k:Nat}{w:dt}(ae:k<64)(h:w.getLsbD k=true):nd m k (64-k) w=nd m (k+1) (64-(k+1)) (w ||| m.getD k 0):=by rw[show 64-k=(64-(k+1))+1 by omega,nd,h];rfl
def alc{m:List dt}{k:Nat}{w:dt}(ae:k<64)(h:w.getLsbD k=false):nd m k (64-k) w=nd m (k+1) (64-(k+1)) w:=by rw[show 64-k=(64-(k+1))+1 by omega,nd,h];rfl
def RM{m:List dt}{i:Nat}(hi:i<m.length)(w:dt):(m.set i w).getD i 0=w:=by simp[bA,hi]
def ald(s:dS)(ar:s.ak5):Spec Tryz.prog 106 [s.val] I M0 λv I' M'=>I'=I/\M'=M0/\∃ b:dt,v=.int .u64 b.toNat/\∀ i,i<64->(b.getLsbD i=true ↔ qO s.m i i):=by
 refine cb [1,3,4] a6 Tryz.func106 rfl rfl rfl ?_;intro B az;obtain⟨fq,iv⟩:=ar;refine bX.mk λb1 ho QH=>?_;refine aM.mk (k2 s.m) ?_ ?_
 ·refine⟨rfl,_,_,_,.inr ⟨_,.head _,rfl,rfl⟩,?_,tY _⟩;show((s.cells).drop 1).take 64=_;rw[dS.cells,HR,vW];exact qu (tY _)
 refine bX.mk λcY tZ avl=>?_;refine b2.rZ [] _ _ _ rfl rfl rfl rfl (k2 s.m) rfl ?_;refine di.inv (ι:=List dt) (λm=>{ bi:=[(3,.val (ptr cY))],cD:=I,c0:=wM cY m::M0 }) (z5 s.m) z6 ?_ ?_
 ·exact⟨s.m,.start fq,.sub (.cons_cons _ (.cons _ (.refl _))) .refl,.cons .refl (.nil),.nil⟩
 intro m hm;have je:=hm.len;refine aM.mk _ (Ik (.head _)) ?_;refine bX.mk λhp Il avm=>?_;refine b2.rZ [] _ _ _ rfl rfl rfl rfl (k2 m) rfl ?_;refine di.inv (ι:=Nat) (λi=>{ bi:=[(3,.val (ptr cY)),(4,.val (ptr hp)),(13,.val (.int .i64 i))],cD:=I,c0:=wM hp (oc m i)::(wM cY m::M0) }) (λi=>i<=64) (λi=>64-i) ?_ ?_
 ·refine⟨0,dD _,.refl,hl,.nil⟩
 intro i hi;refine a2.mk (λh=>?_) (λh=>?_)
 rotate_left
 ·have cI:i=64:=by have:¬ (i:Int)<64:=ek h;omega
  subst cI;refine aM.mk _ (Ik (.head _)) ?_;refine aM.mk _ (Ik (.tail _ (.head _))) ?_;refine ak3 (ZS je (ca _)) je ?_;rw[ZT je];refine a2.mk (λhe=>?_) (λhe=>?_)
  ·have rm:r2 m=m:=dw he;refine aM.mk _ (Ik (.tail _ (.head _))) ?_;refine di.inv (ι:=Nat) (λk=>{ bi:=[(7,.val (.int .u64 (Ag m k).toNat)),(40,.val (.agg (k2 m).toArray)),(41,.val (.int .i64 k))],cD:=I,c0:=M0 }) (λk=>k<=64) (λk=>64-k) ?_ ?_
   ·exact⟨0,dD _,.sub (.cons _ (.cons _ (.refl _))) .refl,hl,.nil⟩
   intro k ae;refine a2.mk (λh=>?_) (λh=>?_)
   rotate_left
   ·have cI:k=64:=by have:¬ (k:Int)<64:=ek h;omega
    subst cI;exact⟨_,_,.refl,rfl,rfl,Ag m 64,rfl,λi hi=>by rw[show Ag m 64=QX m from rfl,akA m hi,hm.done rm hi hi]⟩
   have eN:k<64:=by have:(k:Int)<64:=dw h;omega
   clear h ae;have an:k=0\/k=1\/k=2\/k=3\/k=4\/k=5\/k=6\/k=7\/k=8\/k=9\/k=10\/k=11\/k=12\/k=13\/k=14\/k=15\/k=16\/k=17\/k=18\/k=19\/k=20\/k=21\/k=22\/k=23\/k=24\/k=25\/k=26\/k=27\/k=28\/k=29\/k=30\/k=31\/k=32\/k=33\/k=34\/k=35\/k=36\/k=37\/k=38\/k=39\/k=40\/k=41\/k=42\/k=43\/k=44\/k=45\/k=46\/k=47\/k=48\/k=49\/k=50\/k=51\/k=52\/k=53\/k=54\/k=55\/k=56\/k=57\/k=58\/k=59\/k=60\/k=61\/k=62\/k=63:=by omega
   rcases an with rfl | rfl | rfl | rfl | rfl | rfl | rfl | rfl | rfl | rfl | rfl | rfl | rfl | rfl | rfl | rfl | rfl | rfl | rfl | rfl | rfl | rfl | rfl | rfl | rfl | rfl | rfl | rfl | rfl | rfl | rfl | rfl | rfl | rfl | rfl | rfl | rfl | rfl | rfl | rfl | rfl | rfl | rfl | rfl | rfl | rfl | rfl | rfl | rfl | rfl | rfl | rfl | rfl | rfl | rfl | rfl | rfl | rfl | rfl | rfl | rfl | rfl | rfl | rfl
   all_goals
    refine eG.mk _ rfl eN ?_;refine xv.mk _ rfl ?_;refine bg.mk _ (RL eN) ?_;refine bg.mk _ (cL (by omega)) ?_;exact⟨_,⟨eN,by omega⟩,.refl,.cons (ak9 (ala m _)) (xH),.nil⟩
  ·have rm:r2 m≠m:=ek he;refine aM.mk _ (Ik (.head _)) ?_;refine b2.rZ [_] _ _ _ rfl rfl rfl rfl (k2 (oc m 64)) rfl ?_;refine⟨r2 m,⟨hm.next,akz je rm⟩,.sub (.cons _ (.refl _)) (.n' ?_),.cons .refl (.nil),.nil⟩;rw[ZT je];rfl
 have aX:i<64:=by have:(i:Int)<64:=dw h;omega
 have ry:=ZS je hi;refine di.inv (ι:=Nat×dt) (λs=>{ bi:=[(3,.val (ptr cY)),(4,.val (ptr hp)),(5,.val (.int .i64 i)),(13,.val (.int .i64 i)),(16,.val (.int .i64 s.1))],cD:=I,c0:=wM hp ((oc m i).set i s.2)::(wM cY m::M0) }) (λs=>s.1<=64/\nd m 0 64 (m.getD i 0)=nd m s.1 (64-s.1) s.2) (λs=>64-s.1) ?_ ?_
 ·refine⟨(0,m.getD i 0),⟨dD _,rfl⟩,.n' ?_,hn,.nil⟩;simp only;rw[ak6 je aX]
 rintro⟨k,w⟩⟨ae,eA⟩;simp only at ae eA;refine a2.mk (λh=>?_) (λh=>?_)
 rotate_left
 ·have cI:k=64:=by have:¬ (k:Int)<64:=ek h;omega
  subst cI;have yc:nd m 0 64 (m.getD i 0)=w:=eA;refine bg.mk _ (cL (i:=i) (by omega)) ?_;refine⟨i+1,⟨aX,by omega⟩,.n' ?_,hl,.nil⟩;rw[<-ak7 je aX,yc]
 have eN:k<64:=by have:(k:Int)<64:=dw h;omega
 have e5:((oc m i).set i w).length=64:=by rw[n5,ry]
 have E4:∀ {M:List aD},wM hp ((oc m i).set i w)∈M->cF I M ((⟨hp,0,none⟩:Addr).add (i*1)) 1 [.int .u64 w.toNat]:=λa'=>by have:=ZQ (I:=I) a' aX;rwa [RM (by omega) w]at this
 have pB:∀ {M:List aD},wM cY m∈M->cF I M ((⟨cY,0,none⟩:Addr).add (k*1)) 1 [.int .u64 (m.getD k 0).toNat]:=λa'=>ZQ (I:=I) a' eN;refine eG.mk i rfl aX ?_;refine aM.mk _ (E4 (.head _)) ?_;refine xv.mk k rfl ?_;refine a2.mk (λab=>?_) (λab=>?_)
 ·have hw:=ZJ (w:=w) eN (ZL ab);refine cV.draw a6 rfl rfl rfl ?_;refine eG.mk i rfl aX ?_;refine aM.mk _ (E4 (.head _)) ?_;refine eG.mk k rfl eN ?_;refine aM.mk _ (pB (.tail _ (.head _))) ?_;refine eG.mk i rfl aX ?_;refine b2.iC [] (wM cY m::M0) (k2 ((oc m i).set i w)) _ rfl ?_ rfl (k2 ((oc m i).set i (w ||| m.getD k 0))) ?_ ?_
  ·rw[nK,tY];show 0+i*1+1<=64;omega
  ·show cm _ _ [Value.int .u64 (E0 w.toNat (m.getD k 0).toNat)]=_;rw[L8];have:=ZR ((oc m i).set i w) e5 i aX (w ||| m.getD k 0);rw[KA]at this;exact this
  refine bg.mk _ (cL (i:=k) (by omega)) ?_;exact⟨(k+1,w ||| m.getD k 0),⟨⟨eN,by rw[eA,alb eN hw]⟩,by simp only;omega⟩,.refl,hn,.nil⟩
 ·have hw:=ZK (w:=w) eN (ZM ab);refine bg.mk _ (cL (i:=k) (by omega)) ?_;exact⟨(k+1,w),⟨⟨eN,by rw[eA,alc eN hw]⟩,by simp only;omega⟩,.refl,hn,.nil⟩
section
end
def vh(t:bS):Prop:=∀ n∈t.ns,n.aN<=3000000000000
abbrev dN(X:cU)(G:GT)(pr:lW):gN:=⟨X.P,X.E,G,pr⟩
section
variable{X:cU}{G:GT}{pr:lW}{D:bP}{m:bp}{F:Fr}{al:bf ap}{C:dC}{I:aJ}{M:List aD}{V:dA->Prop}{O:Prop}
def o3{a b:α}(h:some a=some b):a=b:=by cases h;rfl
def ale{op:BinOp}{k:IntKind}{a b:Int}{v:ap}{O:Prop}(h:Q3 op k eZ a b=some v)(ae:∀ u,aU D v u->K u):lN op c7 (.val (.int k a)) (.val (.int eZ b)) K O:=by
 have mk:∀ {q:ap} {u:Value},some q=some v->aU D q u->K u:=λe hu=>ae _ (o3 e ▸ hu);unfold Q3 at h;split at h
 ·split at h
  ·rename_i j;refine⟨j,rfl,⟨_,rfl,mk h ?_⟩⟩;simp only[aU];rw[Ac,akS,kE,ZC]
  ·cases h
 ·split at h
  ·rename_i j;refine⟨j,rfl,mk h ?_⟩;simp only[aU];rw[akT,kE,ZC]
  ·cases h
 all_goals obtain⟨aR,h⟩:=fW h
 all_goals simp only[lN,aR,b5]
 ·exact⟨_,rfl,mk h (by simp only[aU];rw[Ac,akN])⟩
 ·exact⟨_,rfl,mk h (by simp only[aU];rw[Ac,akO])⟩
 ·exact⟨_,rfl,mk h (by simp only[aU];rw[Ac,akP])⟩
 ·obtain⟨az,h⟩:=Ab h;refine⟨λe=>?_,_,rfl,mk h (by simp only[aU];rw[Ac,akQ])⟩;rw[Ct,e]at az;simp at az
 ·obtain⟨az,h⟩:=Ab h;refine⟨λe=>?_,mk h (by simp only[aU];rw[akR])⟩;rw[Ct,e]at az;simp at az
 ·obtain⟨r,af,h⟩:=cp h;rw[LZ af];exact mk h (by simp only[aU])
 ·obtain⟨r,af,h⟩:=cp h;rw[LZ af];exact mk h (by simp only[aU])
 ·obtain⟨r,af,h⟩:=cp h;rw[LZ af];exact mk h (by simp only[aU])
 ·obtain⟨r,af,h⟩:=cp h;rw[LZ af];exact mk h (by simp only[aU])
 ·obtain⟨r,af,h⟩:=cp h;rw[akM]at af;have ah:v=.b r:=(o3 h).symm;subst ah;have hd:K (.bool r):=ae _ (by simp only[aU]);cases op<;>first
   |contradiction|(rw[af];exact hd)
def RN(b:Bool):bY b false true=!b:=by cases b<;>rfl
def alf{op:BinOp}{a b:List UInt8}{v:ap}{x:Operand}{O:Prop}(h:Q4 op a b=some v)(ae:∀ u,aU D v u->K u) :
  lN op c7 (.val (.string ⟨a.toArray⟩)) (.val (.string ⟨b.toArray⟩)) K (gw P op t x y (.val (.string ⟨a.toArray⟩)) (.val (.string ⟨b.toArray⟩)) K O):=by
 unfold Q4 at h;split at h
 ·cases h;refine ae _ ?_;simp only[aU];rw[L6,EY]
 ·cases h;refine ae _ ?_;simp only[aU];rw[L6,EY,RN]
 ·obtain⟨ay,h⟩:=fW h;cases h;have po:=bJ ay;refine gw.concat (by simpa[ByteArray.size]using po) (ae _ ?_);simp only[aU];congr 1
 ·cases h
def alg{op:BinOp}{a b:Bool}{v:ap}{O:Prop}(h:Q5 op c7 a b=some v)(ae:∀ u,aU D v u->K u):lN op c7 (.val (.bool a)) (.val (.bool b)) K O:=by
 unfold Q5 at h;split at h
 ·split at h
  ·cases h;exact ae _ (by simp only[aU])
  ·cases h;exact ae _ (by simp only[aU])
  ·cases h
 ·cases h
def alh{x:ap}{b:Bool}(h:Q6 x=some b){u:Value}(hu:aU D x u):∃ a n c,u=.slice a n c/\b=a.isNone:=by
 cases x<;>simp only[Q6,jY,reduceCtorEq]at h<;>subst h<;>simp only[aU]at hu
 ·exact⟨_,_,_,hu,rfl⟩
 ·obtain⟨a,-,hu⟩:=hu;exact⟨_,_,_,hu,rfl⟩
 ·obtain⟨a,-,-,hu⟩:=hu;exact⟨_,_,_,hu,rfl⟩
 ·exact⟨_,_,_,hu,rfl⟩
 ·obtain⟨a,c,hu⟩:=hu;exact⟨_,_,_,hu,rfl⟩
def ali{x:ap}{b:Bool}(h:Q7 x=some b){u:Value}(hu:aU D x u):∃ p,u=.pointer p/\b=p.isNone:=by
 cases x<;>simp only[Q7,jY,reduceCtorEq]at h<;>subst h<;>simp only[aU]at hu
 ·exact⟨_,hu,rfl⟩
 ·obtain⟨a,-,hu⟩:=hu;exact⟨_,hu,rfl⟩
 ·exact⟨_,hu,rfl⟩
def alj{e:Nat}(h:P.underlying t=some (.slice e))(a:Option Addr)(n c:Nat)(w:World):(Op.equal t (.slice a n c) (.slice none 0 0)).run P w=.ok a.isNone w:=by
 have key:∀ d,(Op.equalIn (d+1) t (.slice a n c) (.slice none 0 0)).run P w=.ok a.isNone w:=λd=>by cases a<;>simp[Op.equalIn,run_underlying h]
 exact key 9999
def alk{e:Nat}(h:P.underlying t=some (.pointer e))(p:Option Addr)(w:World):(Op.equal t (.pointer p) (.pointer none)).run P w=.ok p.isNone w:=by
 have key:∀ d,(Op.equalIn (d+1) t (.pointer p) (.pointer none)).run P w=.ok p.isNone w:=λd=>by cases p<;>simp[Op.equalIn,run_underlying h]
 exact key 9999
def ZU{op:BinOp}{b:Bool}{v:ap}{x:Operand}{p q:Value}(au:∀ w,op=.eql\/op=.neq->(eqGuard op t x y p q).run P w=.ok () w)(he:∀ w,(Op.equal t p q).run P w=.ok b w)(ag:∀ w,(binOp .eql t p q).run P w=.ok (.bool b) w)(aB:∀ w,(binOp .neq t p q).run P w=.ok (.bool (!b)) w)(h:LH op b=some v){O:Prop}(ae:∀ u,aU D v u->K u):gw P op t x y (.val p) (.val q) K O:=by
 unfold LH at h;split at h
 ·cases h;refine .mk p q (.bool b) rfl rfl (λw=>?_) (ae _ (by simp only[aU]));simp only[ck,au w (.inl rfl),bV,ag w]
 ·cases h;refine .mk p q (.bool (!b)) rfl rfl (λw=>?_) (ae _ (by simp only[aU]));simp only[ck,au w (.inr rfl),bV,aB w]
 ·cases h
def alm(aO:cT X.P X.E){op:BinOp}{x y v:ap}{aln:Operand}{u:Value}{O:Prop}(h:Q8 X.P X.E op t x y=some v)(ad:aU D x u)(aE:aU D y w)(ae:∀ u,aU D v u->K u) :
  lN op (X.E t) (.val u) (.val w) K (gw X.P op t pO aln (.val u) (.val w) K O):=by
 unfold Q8 at h;split at h
 ·rw[ad.int,aE.int];exact ale h ae
 ·rw[ad.str,aE.str];exact alf h ae
 ·rw[ad.bool,aE.bool];exact alg h ae
 ·obtain⟨us,aa,rfl⟩:=ad.agg;obtain⟨ws,ab,rfl⟩:=aE.agg;exact ZG aO h aa ab ae
 ·obtain⟨i,hi,h⟩:=cp h;split at h
  ·rename_i e nZ;obtain⟨b,aa,h⟩:=cp h;obtain⟨a,n,c,rfl,rfl⟩:=alh aa ad;simp only[aU]at aE;subst aE;obtain⟨d,fF,fk⟩:=(aO _ _ hi).fo;have ab:d=.slice e:=by rw[nZ]at fk;cases d<;>simp_all[fm]
   subst ab;have he:=alj fF a n c;exact ZU (λw aH=>by rcases aH with rfl | rfl<;>(unfold eqGuard;rfl)) he (λw=>by simp only[binOp];simp[he w]) (λw=>by simp only[binOp];simp[he w]) h ae
  ·cases h
 ·obtain⟨i,hi,h⟩:=cp h;split at h
  ·rename_i e nZ;obtain⟨b,aa,h⟩:=cp h;obtain⟨p,rfl,rfl⟩:=ali aa ad;simp only[aU]at aE;subst aE;obtain⟨d,fF,fk⟩:=(aO _ _ hi).fo;have ab:d=.pointer e:=by rw[nZ]at fk;cases d<;>simp_all[fm]
   subst ab;have he:=alk fF p;exact ZU (λw aH=>by rcases aH with rfl | rfl<;>(unfold eqGuard;rfl)) he (λw=>by simp only[binOp];simp[he w]) (λw=>by simp only[binOp];simp[he w]) h ae
  ·cases h
 ·cases h
variable(aO:cT X.P X.E)(hm:c9 (dN X G pr) D m I M)
theorem E5{v:ap}{n:Nat}(h:v.nat=some n):∃ k,v=.i k (.ofNat n):=by
 unfold ap.nat at h;split at h
 ·cases h;exact⟨_,rfl⟩
 ·cases h
theorem ZV{x v:ap}{n:Nat}{u:Value}(h:H4 x n=some v)(ad:aU D x u):∃ a,u=.pointer (some a)/\a.spot=none/\aU D v (.pointer (some (a.add n))):=by
 unfold H4 at h;split at h
 ·cases h;obtain⟨a,a4,rfl⟩:=ad.ptr;refine⟨_,rfl,rfl,?_⟩;rw[eP _ rfl];simp only[aU];exact⟨a,a4,by simp only[zZ,tf]⟩
 ·cases h;refine⟨_,ad.qR,rfl,?_⟩;rw[eP _ rfl];simp only[aU];rfl
 ·cases h
theorem alo{x v:ap}{j:Nat}{u:Value}(h:LI x j sz=some v)(ad:aU D x u):∃ a n c,u=.slice (some a) n c/\j<n/\aU D v (.pointer (some (a.add (j*sz)))):=by
 unfold LI at h;split at h
 ·cases ag:Nat.blt j _ with
  |false=>rw[ag]at h;cases h| true=>rw[ag]at h;cases h;obtain⟨a,a4,rfl⟩:=ad.sX;refine⟨_,_,_,rfl,bJ ag,?_⟩;rw[eP _ rfl];simp only[aU];exact⟨a,a4,by simp only[zZ,Ey,tf]⟩
 ·cases ag:Nat.blt j _ with
  |false=>rw[ag]at h;cases h| true=>rw[ag]at h;cases h;obtain⟨a,a4,_,rfl⟩:=ad.vg;refine⟨_,_,_,rfl,bJ ag,?_⟩;rw[eP _ rfl];simp only[aU];exact⟨a,a4,by simp only[zZ,Ey,tf]⟩
 ·cases ag:Nat.blt j _ with
  |false=>rw[ag]at h;cases h| true=>rw[ag]at h;cases h;refine⟨_,_,_,ad.RF,bJ ag,?_⟩;rw[eP _ rfl];simp only[aU];rfl
 ·cases h
theorem ZW{cs:List ap}{v:ap}{us:List Value}(h:LK aF cs off=some v)(an:bM D cs us) :
  off+aF.size<=us.length/\aU D v (pack aF.bL.agg ((us.drop off).take aF.size)):=by
 unfold LK at h;obtain⟨az,h⟩:=Ab h;obtain⟨l,aa,ab⟩:=cp h;have iO:aF.size≠0:=λe=>by rw[e]at az;cases az
 obtain⟨rfl,ay⟩:=ZD aa;rw[Ih]at ab ay;refine⟨?_,L4 ab ((an.drop off).take _)⟩;have:=an.len;simp at ay;omega
theorem ZX{i:Nat}{hj:dG}(h:LJ E t i=some (off,hj)):∃ a b z cQ fp,E t=some ⟨a,b,z,.struct cQ⟩/\cQ[i]?=some (fp,off)/\E fp=some hj:=by
 unfold LJ at h;split at h
 ·rename_i a b z cQ av;split at h
  ·rename_i fp o aA;rw[Ae]at aA;split at h
   ·rename_i f tP;cases h;exact⟨_,_,_,_,fp,av,aA,tP⟩
   ·cases h
  ·cases h
 ·cases h
theorem alp{r:Option Nat}(h:Ra E t=some (r,aF)):(∃ a b z e,E t=some ⟨a,b,z,.slice e⟩/\E e=some aF/\r=none)\/∃ a b z n e,E t=some ⟨a,b,z,.array n e⟩/\E e=some aF/\r=some n:=by
 unfold Ra at h;split at h
 ·rename_i a b z e av;split at h
  ·cases h;exact .inl ⟨_,_,_,_,av,by assumption,rfl⟩
  ·cases h
 ·rename_i a b z n e av;split at h
  ·cases h;exact .inr ⟨_,_,_,_,_,av,by assumption,rfl⟩
  ·cases h
 ·cases h
theorem alq{x i v:ap}{u:Value}(h:H5 X.E t (some x) (some i)=some v)(ad:aU D x u)(hi:aU D i w){ρ:Operand->dA}{gF:Operand}(RO:dy ρ pO=.val u)(ig:dy ρ gF=.val w)
  (k:∀ x,gp D x v->V x):cG X (.index t pO gF) ρ C I M V O:=by
 unfold H5 at h;split at h
 ·rename_i l gU av aa ab;cases aa;cases ab;obtain⟨j,ai,h⟩:=cp h;obtain⟨gh,rfl⟩:=E5 ai;have fl:Rb l j=some v:=h;unfold Rb at fl;obtain⟨b,ag,dW⟩:=cp fl;cases dW;rw[Ae]at ag;rw[ad.str]at RO;rw[hi.int]at ig;have aX:=(ia.1 ag).1;simp only[cG,av,RO,ig];refine⟨j,rfl,by simpa[ByteArray.size]using aX,k _ (.val ?_)⟩;simp only[aU];have:(⟨l.toArray⟩:ByteArray)[j]'(by simpa[ByteArray.size]using aX)=b:=by have:=(ia.1 ag).2;show l.toArray[j]'_=b;simpa using this
  rw[this];rfl
 ·rename_i n e cs gU av aa ab;cases aa;cases ab;obtain⟨aF,he,h⟩:=cp h;obtain⟨j,ai,h⟩:=cp h;obtain⟨gh,rfl⟩:=E5 ai;obtain⟨us,fE,rfl⟩:=ad.agg;unfold Y6 at h;obtain⟨ag,h⟩:=fW h;rw[cz]at ag;obtain⟨aj,aI⟩:=ZW h fE;rw[hi.int]at ig;simp only[cG,av,RO,ig,he];have df:Nat.beq (n*aF.size) us.toArray.size=true:=by have bB:=dP ag.1;rw[oC,fE.len,<-bB];exact q5 _
  rw[df];simp only[b5];exact⟨j,rfl,bJ ag.2,k _ (.val aI)⟩
 ·cases h
theorem alr{x v:ap}{l:Nat}{h:Option Nat}{u:Value}(ar:Q9 x sz l h=some v)(ad:aU D x u):∃ a n c,u=.slice a n c/\l<=h.getD n/\h.getD n<=c/\(h=none->l<=n) /\
  aU D v (.slice (if c=l then a else a.map (·.add (l*sz))) (h.getD n-l) (c-l)):=by
 unfold Q9 at ar;split at ar
 ·cases ag:(Nat.beq l 0&&Nat.beq (h.getD 0) 0)with
  |false=>rw[ag]at ar;cases ar| true=>rw[ag]at ar;cases ar;rw[cz]at ag;have aa:=dP ag.1;have ab:=dP ag.2;subst aa;refine⟨none,0,0,ad.Cu,by omega,by omega,λ_=>by omega,?_⟩;rw[ab];simp[aU]
 ·rename_i id off n c;obtain⟨a,a4,rfl⟩:=ad.sX;simp only at ar;cases ag:(Nat.ble l (h.getD n)&&Nat.ble (h.getD n) c)with
  |false=>rw[ag]at ar;cases ar
  |true=>
   rw[ag]at ar;simp only[b5]at ar;rw[cz]at ag;have aa:=bJ ag.1;have ab:=bJ ag.2;refine⟨_,n,c,rfl,aa,ab,λe=>by subst e;exact aa,?_⟩;rw[RD]at ar;by_cases e:c=l;·subst e;simp only[KX,b5]at ar;cases ar;simp only[pk,aU];exact⟨a,a4,by simp only[Ez,pL]⟩
   ·simp only[e,decide_false,b']at ar;cases ar;simp only[e,lM,aU,k9];refine⟨a,a4,?_⟩;rw[eP _ rfl];simp only[zZ,Ey,Ez,tf]
 ·rename_i id off e n;obtain⟨a,a4,bm,rfl⟩:=ad.vg;simp only at ar;cases ag:(Nat.ble l (h.getD n)&&Nat.ble (h.getD n) n)with
  |false=>rw[ag]at ar;cases ar
  |true=>
   rw[ag]at ar;simp only[b5]at ar;rw[cz]at ag;have aa:=bJ ag.1;have ab:=bJ ag.2;refine⟨_,n,a.c-e,rfl,aa,by omega,λe=>by subst e;exact aa,?_⟩;cases an:(Nat.beq l 0||Nat.blt l n)with
   |true=>
    rw[an]at ar;simp only[b5]at ar;cases ar;rw[kQ]at an;simp only[aU];refine⟨a,a4,by simp only[zZ,Ez];omega,?_⟩;have aj:a.c-e-l=a.c-(e+l):=by omega
    by_cases az:l=0
    ·subst az;simp only[zf,KW,k9,zZ,Ey,Ez,qb];split
     ·rfl
     ·rw[eP _ rfl];simp
    ·have aI:l<n:=by
      rcases an with an | an;·exact absurd (dP an) az
      ·exact bJ an
     rw[bR (by omega)];simp only[k9];rw[eP _ rfl];simp only[zZ,Ey,Ez,tf,aj]
   |false=>
    rw[an]at ar;simp only[b']at ar;cases ar;rw[sF]at an;have aI:¬ l<n:=λaX=>by have:=Cf (show l.succ<=n from aX);rw[show Nat.blt l n=Nat.ble l.succ n from rfl,this]at an;cases an.2
    have bB:h.getD n-l=0:=by omega
    simp only[aU,bB];split;·exact⟨_,_,rfl⟩
    ·exact⟨_,_,rfl⟩
 ·cases ar
end
end Go.V
