/- Part 4 of what the proofs of this seat share: the executor, data in memory, walks.
-/
import Derived.Test.YtmncamccjfmbpaaGreatDoorK3
import Derived.ChangeSame
import Derived.ChangeArms
import Derived.OpenShut
import Derived.Deep.DeepHandedRow
import Derived.Lib.LaidTab
import Derived.Test.YtmncamccjfmbpaaGreatDoorRows
import Derived.Test.YtmncamccjfmbpaaGreatDoorCards
import Derived.Test.YtmncamccjfmbpaaGreatDoorTie
import Derived.WalkKit
import Derived.ProofKit
import Derived.WideKeyArgs
import Derived.Below
import Derived.JoinedOf
set_option linter.all false
set_option maxHeartbeats 16000000
set_option maxRecDepth 100000
namespace Go.V
open Go Go.Proofs
def ek:=@of_decide_eq_false
def fh:=@Option.some.inj
def hb:=@List.mem_flatMap
def ka:=@List.getElem_of_mem
def gA:=@List.map_map
def mw:=@List.perm_middle
def tK:=@List.sublist_append_left
def n5:=@List.length_set
def rO:=@List.foldl_append
def zL:=@List.getElem_append_left
def B2:=@List.perm_append_comm_assoc
def u5:=@List.getElem_range
def pL:=@Nat.sub_self
def nK:=@Nat.ble_eq
def x3:=@Nat.le_of_succ_le
def Hj:=@List.set_append_right
def B3:=@List.range_succ
def Hk:=@List.replicate_succ
def Hl:=@List.set_cons_zero
def PL:=@List.eq_of_mem_replicate
def PM:=@List.length_take_of_le
def PN:=@List.getLast?_concat
def PO:=@List.dropLast_concat
def PP:=@DataW.trod_string
def PQ:=@List.flatten_cons
def KV:=@Prod.mk.injEq
def PR:=@DataW.trod_array
def KW:=@Nat.sub_zero
def KX:=@decide_true
variable{I I':aJ}{M:List aD}{e size c sz e3:Nat}{ax:List Int}{g:cv}{os:aY}{xs aT vs cs:List Value}{v:Value}{α:Type}{t:TypeId}{L:List (List Int)}{z f:Bool}{X:cU}{F:Fr}{C:dC}{P:Program}{W k0:World}{cQ:Array Field}{rows:List (List Value)}{x y:Operand}{other:Prop}{c7 tx:dG}{pl:List (ByteArray×Int)}
def qE:Nat->List aP->List (Nat×ao)
 |_,[]=>[]| i,d::ds=>d.t.ns.map (λn=>(i,n))++qE (i+1) ds
def Hm:∀ (ds:List aP) (i:Nat),tJ i ds=(qE i ds).map λp=>[.int .i64 p.1,p.2.val]
 |[],i=>rfl| d::ds,i=>by simp only[tJ,qE,cM,gA,Hm ds (i+1)];rfl
def nL(ds:List aP):Bool:=ds.all λd=>nD d.name&&normal d.t
def lS:List (ByteArray×Int)->Nat->List aP->Option (List (ByteArray×Int))
 |a5,_,[]=>some a5| a5,i,d::ds=>bif (ez d.name a5).isSome then none else lS (a5++[(d.name,(i:Int))]) (i+1) ds
def zM(a5:List (ByteArray×Int))(n:ao):Bool:=!decide (n.k=3)||(ez n.t a5).isSome
def rP(a5:List (ByteArray×Int))(ds:List aP):Bool:=(qE 0 ds).all λp=>zM a5 p.2
def dz(ax:List Int)(g:cv):Int:=
 bif decide ((g.n:Int)=0)then 4 else bif !nL g.ds then 4 else bif oQ ax g then 40 else
 match lS [] 0 g.ds with
 |none=>6| some a5=>bif rP a5 g.ds then 0 else 41
def u6(b:Nat)(e:Int):aD:=⟨b,.cells #[.int .i64 e] 27 (0,0)⟩
def B4{b:Nat}{e:Int}(h:u6 b e∈M):cF I M ⟨b,0,none⟩ 1 [.int .i64 e]:=
 ⟨rfl,_,_,_,.inr ⟨_,h,rfl,rfl⟩,rfl,rfl⟩
def Hn(w:World):(zeroValue 3).run Tryz.prog w=.ok (.int .i64 0) w:=by
 have h:(Tryz.prog.info? 3).map (λi=>i.zero)=some (some (.int .i64 0)):=by kernel_rfl
 obtain⟨i,aa,ab⟩:=sk.1 h;simp[zeroValue,typeInfo,aa,ab]
def PS(bu:ga I ax)(au:g.ok I):Spec Tryz.prog 17 [g.val] I [] (λv I' M'=>v=.int .i64 (dz ax g)/\(∀ b o,I b=some o->I' b=some o)/\M'=[]):=by
 refine cb [2,5] a6 Tryz.func17 rfl rfl rfl ?_;intro B az;have fT:=au.n;have jx:=au.a0.cap;refine bX.mk λbW gY KY=>?_;refine a2.mk (λaa=>?_) (λaa=>?_)
 ·refine b2.mk [] [] _ _ rfl rfl (bJ rfl) rfl ?_;refine aM.mk _ (B4 (b:=bW) (e:=4) (.head _)) ?_;refine⟨_,_,.sub (fO _) .refl,?_,λ_ _ h=>h,rfl⟩;rw[dz,aa];rfl
 ·have oA:g.n≠0:=by simp at aa;omega
  refine di.inv (ι:=Nat) (λi=>{ bi:=[(1,.ref 1 0),(2,.val (ptr bW)),(19,.val (.slice g.a g.n g.c)),(20,.val (.int .i64 g.n)),(21,.val (.int .i64 i))],cl:=[(1,[.slice g.a g.n g.c])],cD:=I,c0:=[u6 bW 0] }) (λi=>i<=g.n/\nL (g.ds.take i)=true) (λi=>g.n-i) ?_ ?_;·exact⟨0,⟨by simp,rfl⟩,.refl,hn,.cons rfl .nil⟩
  ·rintro i⟨hi,gR⟩;refine a2.mk (λh=>?_) (λh=>?_)
   ·have aX:i<g.n:=by simpa using h
    have cj:i<g.ds.length:=by omega
    obtain⟨aS,bH,bl⟩:=au.a0.row aP.cP aX cj;have gz:g.ds[i]∈g.ds:=br cj;have bad:(nD g.ds[i].name&&normal g.ds[i].t)=false->dz ax g=4:=λag=>by
     have:nL g.ds=false:=by unfold nL;rw[Kw];exact⟨_,gz,by simp[ag]⟩
     rw[dz,aa,this];rfl
    refine bd.mk aS i bH rfl aX ?_;refine aM.mk _ (bl _) ?_;refine be.mk [] [u6 bW 0] _ (.refl _) (Pd _ g.ds[i].name) ?_;rintro v I' M' -⟨rfl,rfl,rfl⟩;refine ct.mk (λab=>?_) (λab=>?_)
    ·have hm:nD g.ds[i].name=true:=by simpa using ab
     refine be.mk [] [u6 bW 0] _ (.refl _) (ah0 bu.c (au.ds _ gz).t) ?_;rintro v I' M' -⟨rfl,rfl,rfl⟩;refine a2.mk (λaj=>?_) (λaj=>?_)
     ·have ea:normal g.ds[i].t=false:=by simpa using aj
      refine b2.mk [] [] _ _ rfl rfl (bJ rfl) rfl ?_;refine aM.mk _ (B4 (b:=bW) (e:=4) (.head _)) ?_;refine⟨_,_,.sub (fO _) .refl,?_,λ_ _ h=>h,rfl⟩;rw[bad (by rw[hm,ea];rfl)];rfl
     ·have ea:normal g.ds[i].t=true:=by simpa using aj
      refine bg.mk _ (cL (i:=i) (by omega)) ?_;refine⟨i+1,⟨⟨by omega,?_⟩,by omega⟩,.refl,hn,.cons rfl .nil⟩;unfold nL at gR |-;rw[gg cj,GW,gR];simp[hm,ea]
    ·have hm:nD g.ds[i].name=false:=by simpa using ab
     refine b2.mk [] [] _ _ rfl rfl (bJ rfl) rfl ?_;refine aM.mk _ (B4 (b:=bW) (e:=4) (.head _)) ?_;refine⟨_,_,.sub (fO _) .refl,?_,λ_ _ h=>h,rfl⟩;rw[bad (by rw[hm];rfl)];rfl
   ·have cI:g.n<=i:=by simpa using h
    rw[fA (by omega)]at gR;refine be.mk [] [u6 bW 0] _ (.refl _) (ah2 bu au) ?_;rintro v I1 M' -⟨rfl,cH,rfl⟩;refine a2.mk (λab=>?_) (λab=>?_);·refine b2.mk [] [] _ _ rfl rfl (bJ rfl) rfl ?_;refine aM.mk _ (B4 (b:=bW) (e:=40) (.head _)) ?_;refine⟨_,_,.sub (fO _) .refl,?_,cH,rfl⟩;rw[dz,aa,gR,ab];rfl
    ·have ah9:dz ax g=match lS [] 0 g.ds with
       |none=>6| some a5=>bif rP a5 g.ds then 0 else 41:=by
      rw[dz,aa,gR,ab];rfl
     rw[ah9];have pI:=au.mono cH;refine bz.makeMap a6 rfl (by simp) rfl rfl rfl λjN=>?_;refine bX.mk λeu Ee KZ=>?_;refine b2.mk [] [⟨jN,jC []⟩,u6 bW 0] _ _ rfl rfl (bJ rfl) rfl ?_;refine di.inv (ι:=Nat×List (ByteArray×Int)) (λx=>{ bi:=[(1,.ref 1 0),(2,.val (ptr bW)),(5,.val (ptr eu)),(43,.val (.slice g.a g.n g.c)),(44,.val (.int .i64 g.n)),(45,.val (.int .i64 x.1))],cl:=[(1,[.slice g.a g.n g.c])],cD:=I1,c0:=[⟨eu,.cells #[.map (some jN)] 102 (0,0)⟩,⟨jN,jC x.2⟩,u6 bW 0] }) (λx=>x.1<=g.n/\lS [] 0 g.ds=lS x.2 x.1 (g.ds.drop x.1)) (λx=>g.n-x.1) ?_ ?_;·exact⟨(0,[]),⟨by simp,rfl⟩,.refl,oB,.cons rfl .nil⟩
     ·rintro⟨i,a5⟩⟨hi,n1⟩;simp only at hi n1;refine a2.mk (λh=>?_) (λh=>?_)
      ·have aX:i<g.n:=by simpa using h
       have cj:i<g.ds.length:=by omega
       obtain⟨aS,bH,bl⟩:=pI.a0.row aP.cP aX cj;have j8:g.ds.drop i=g.ds[i]::g.ds.drop (i+1):=eV cj;refine bd.mk aS i bH rfl aX ?_;refine aM.mk _ (bl _) ?_;refine aM.mk [.map (some jN)] ⟨rfl,_,_,_,.inr ⟨_,.head _,rfl,rfl⟩,rfl,rfl⟩ ?_;refine bz.lookup a6 rfl (by simp) rfl rfl rfl rfl (λw=>Hn w) (l:=a5) (g:=jN) rfl rfl (by simp) ?_;refine a2.mk (λaj=>?_) (λaj=>?_);·refine b2.mk [⟨eu,.cells #[.map (some jN)] 102 (0,0)⟩,⟨jN,jC a5⟩] [] _ _ rfl rfl (bJ rfl) rfl ?_;refine aM.mk _ (B4 (b:=bW) (e:=6) (.tail _ (.tail _ (.head _)))) ?_;refine⟨_,_,.sub (fO _) .refl,?_,cH,rfl⟩;rw[n1,j8,lS,aj];rfl
       ·have ay:ez g.ds[i].name a5=none:=by simpa using aj
        refine aM.mk [.map (some jN)] ⟨rfl,_,_,_,.inr ⟨_,.head _,rfl,rfl⟩,rfl,rfl⟩ ?_;refine bz.W' a6 rfl rfl rfl rfl rfl rfl rfl rfl rfl ay (Mr:=[⟨eu,.cells #[.map (some jN)] 102 (0,0)⟩,u6 bW 0]) (List.Perm.swap _ _ _) ?_;refine bg.mk _ (cL (i:=i) (by omega)) ?_;refine⟨(i+1,a5++[(g.ds[i].name,(i:Int))]),⟨⟨by simp only;omega,?_⟩,by simp only;omega⟩,.perm (List.Perm.swap _ _ _) .refl,oB,.cons rfl .nil⟩;simp only;rw[n1,j8,lS,aj];rfl
      ·have Xa:g.n<=i:=by simpa using h
       have fk:lS [] 0 g.ds=some a5:=by rw[n1,kr (by omega),lS]
       rw[fk];refine be.mk [] [⟨eu,.cells #[.map (some jN)] 102 (0,0)⟩,⟨jN,jC a5⟩,u6 bW 0] _ (.refl _) (ah3 g) ?_;rintro v dI dq -⟨cJ,rfl,Ef,e4,rfl⟩;have kW:=pI.mono e4;have K0:∀ b o,I b=some o->dI b=some o:=λb o h=>e4 _ _ (cH _ _ h);refine cV.range a6 rfl rfl rfl .refl (ah4 kW Ef) (λvs h=>?_) (λk I' M'=>(∀ b o,dI b=some o->I' b=some o)/\((qE 0 g.ds).take k).all (λp=>zM a5 p.2)=true/\M'=[⟨eu,.cells #[.map (some jN)] 102 (0,0)⟩,⟨jN,jC a5⟩,u6 bW 0]) (λex I' M'=>ex=.ret/\(∀ b o,dI b=some o->I' b=some o)/\rP a5 g.ds=false/\M'=[⟨eu,.cells #[.map (some jN)] 102 (0,0)⟩,⟨jN,jC a5⟩,u6 bW 41]) ⟨λ_ _ h=>h,rfl,rfl⟩ ?_ ?_ ?_;·rw[Hm]at h;obtain⟨p,_,rfl⟩:=cN.1 h;rfl
       ·rintro k ae I' M' -⟨jh,bx,rfl⟩l B az iO;have sQ:k<(qE 0 g.ds).length:=by simpa[Hm]using ae
        generalize aC:(qE 0 g.ds)[k]=p;have ah:(tJ 0 g.ds)[k]=[.int .i64 p.1,p.2.val]:=by simp only[Hm,f',aC]
        rw[ah];have next:zM a5 p.2=true->((qE 0 g.ds).take (k+1)).all (λp=>zM a5 p.2)=true:=λh=>by rw[gg sQ,GW,bx,aC];simp[h]
        refine a2.mk (λaj=>?_) (λaj=>?_)
        ·refine⟨_,_,.refl,jh,next ?_,rfl⟩;have sR:decide (p.2.k=3)=false:=by simpa using aj
         simp[zM,sR]
        ·have sR:decide (p.2.k=3)=true:=by simpa using aj
         refine aM.mk [.map (some jN)] ⟨rfl,_,_,_,.inr ⟨_,.head _,rfl,rfl⟩,rfl,rfl⟩ ?_;refine bz.lookup a6 rfl (by simp) rfl rfl rfl rfl (λw=>Hn w) (l:=a5) (g:=jN) rfl rfl (by simp) ?_;refine a2.mk (λaI=>?_) (λaI=>?_)
         ·refine b2.mk [⟨eu,.cells #[.map (some jN)] 102 (0,0)⟩,⟨jN,jC a5⟩] [] _ _ rfl rfl (bJ rfl) rfl ?_;refine⟨_,_,.refl,rfl,jh,?_,rfl⟩;unfold rP;rw[Kw];have B5:(ez p.2.t a5).isSome=false:=by simpa using aI
          exact⟨p,by rw[<-aC];exact br sQ,by simp[zM,sR,B5]⟩
         ·have B5:(ez p.2.t a5).isSome=true:=by simpa using aI
          exact⟨_,_,.refl,jh,next (by simp[zM,B5]),rfl⟩
       ·rintro I' M' -⟨jh,bx,rfl⟩;have PT:rP a5 g.ds=true:=by unfold rP;rw[fA (by simp[Hm])]at bx;exact bx
        refine b2.mk [⟨eu,.cells #[.map (some jN)] 102 (0,0)⟩,⟨jN,jC a5⟩] [] _ _ rfl rfl (bJ rfl) rfl ?_;refine aM.mk _ (B4 (b:=bW) (e:=0) (.tail _ (.tail _ (.head _)))) ?_;refine⟨_,_,.sub (fO _) .refl,?_,λb o h=>jh _ _ (K0 _ _ h),rfl⟩;simp only[PT];rfl
       ·rintro ex I' M' -⟨rfl,jh,PT,rfl⟩;refine⟨by simp,?_⟩;refine aM.mk _ (B4 (b:=bW) (e:=41) (.tail _ (.tail _ (.head _)))) ?_;refine⟨_,_,.sub (fO _) .refl,?_,λb o h=>jh _ _ (K0 _ _ h),rfl⟩;simp only[PT];rfl
structure lT where
 a:Option Addr
 n:Nat
 c:Nat
 l:List Int
def lT.val(r:lT):Value:=.slice r.a r.n r.c
structure lT.ok(I:aJ)(r:lT):Prop where
 a0:de I r.a r.n r.c 1 8 (r.l.map (.int .i64 ·))
def lT.ok.n{r:lT}(h:r.ok I):r.l.length=r.n:=by have:=h.a0.len;simpa using this
def lT.ok.mono{r:lT}(h:r.ok I)(bw:∀ b o,I b=some o->I' b=some o):r.ok I':=⟨h.a0.mono bw⟩
structure lU where
 rows:List lT
 a:Option Addr
 n:Nat
 c:Nat
def lU.val(x:lU):Value:=.slice x.a x.n x.c
structure lU.ok(I:aJ)(x:lU):Prop where
 a0:de I x.a x.n x.c 1 24 (x.rows.map lT.val)
 rows:∀ r∈x.rows,r.ok I
def lU.ok.n{x:lU}(h:x.ok I):x.rows.length=x.n:=by have:=h.a0.len;simpa using this
def lU.ok.mono{x:lU}(h:x.ok I)(bw:∀ b o,I b=some o->I' b=some o):x.ok I':=⟨h.a0.mono bw,λr af=>(h.rows r af).mono bw⟩
def lU.fi(x:lU):List (List Int):=x.rows.map (·.l)
def aY.Ho{b:Nat}(h:os.ok size xs)(ag:os.n*b<=140737488355328)(bw:∀ g,os.a=some g->I g=none)(Mr:List aD) :
  ∃ I',ic [] I (os.aq e++Mr) I' Mr/\(∀ b o,I b=some o->I' b=some o)/\de I' (os.a.map λg=>⟨g,0,none⟩) os.n os.c size b xs:=by
 obtain⟨a,n,c,aT⟩:=os;cases a with
 |none=>obtain⟨aa,ab⟩:=h.nil rfl;simp only at aa ab;subst aa;subst ab;exact⟨I,.refl,λ_ _ h=>h,h.len,⟨ca _,by simp⟩,.inl rfl⟩
 |some g=>obtain⟨aa,ab,aj,aI⟩:=h.cap g rfl;have au:=bw g rfl;exact⟨ins I g (.cells aT.toArray e (0,0)),.kN rfl (by simp) .refl,hL au,h.len,⟨ab,ag⟩,.inr ⟨⟨g,0,none⟩,rfl,rfl,_,_,_,mo ..,by simpa using aI⟩⟩
def aY.Xb{l:List Int}(h:os.ok 1 (l.map (.int .i64 ·)))(ag:os.n*8<=140737488355328)(bw:∀ g,os.a=some g->I g=none)(Mr:List aD) :
  ∃ (I':aJ) (r:lT),ic [] I (os.aq e++Mr) I' Mr/\(∀ b o,I b=some o->I' b=some o)/\os.val=r.val/\r.ok I'/\r.l=l:=by
 obtain⟨I',aa,ab,aj⟩:=aY.Ho (b:=8) h ag bw Mr;exact⟨I',⟨_,_,_,l⟩,aa,ab,rfl,⟨aj⟩,rfl⟩
def h6:aY:=⟨none,0,0,[]⟩
def lv(size:Nat):h6.ok size []:=⟨by simp[h6],λ_=>⟨rfl,rfl⟩,λg h=>by cases h⟩
def K1(bT:os.ok 1 xs){g:Nat}(aa:aT.length=c*1)(ab:os.n+1<=c)(aj:c<=maxLen)(aI:aT.take ((os.n+1)*1)=xs++[v]) :
  aY.ok ⟨some g,os.n+1,c,aT⟩ 1 (xs++[v]):=by
 have ay:=bT.len;refine⟨?_,(λh=>by cases h),λbQ rI=>⟨aa,ab,aj,aI⟩⟩;rw[ch,ay];simp
def aY.ok.m7{l:List Int}(h:os.ok 1 (l.map (Value.int .i64))):os.n=l.length:=by have:=h.len;simp at this;omega
def Hp(a c:α)(L:List α):(a::(L++[c])).Perm (L++[c,a]):=by have h:=(Kt a (L++[c])).symm;rwa [dV]at h
def lx(wh:Bool):Nat->List Bool->List Int
 |_,[]=>[]| i,b::s=>bif b == wh then(i:Int)::lx wh (i+1) s else lx wh (i+1) s
def Xc(wh b:Bool):∀ (s:List Bool) (i:Nat),lx wh i (s++[b])=lx wh i s++(bif b == wh then [((i+s.length:Nat):Int)]else [])
 |[],i=>by
  show(bif b == wh then((i:Nat):Int)::lx wh (i+1) []else lx wh (i+1) [])=_;cases b == wh<;>simp[lx]
 |c::s,i=>by
  have:=Xc wh b s (i+1);rw[m4,lx,lx,this];cases c == wh<;>simp[Dv,Nat.add_left_comm]
def Xd(wh:Bool):∀ (s:List Bool) (i:Nat),(lx wh i s).length<=s.length
 |[],i=>by simp[lx]
 |c::s,i=>by
  have:=Xd wh s (i+1);unfold lx;cases c == wh<;>simp<;>omega
structure n6 where
 a:Option Addr
 n:Nat
 c:Nat
 l:List Bool
def n6.val(r:n6):Value:=.slice r.a r.n r.c
structure n6.ok(I:aJ)(r:n6):Prop where
 a0:de I r.a r.n r.c 1 1 (r.l.map Value.bool)
def n6.ok.n{r:n6}(h:r.ok I):r.l.length=r.n:=by have:=h.a0.len;simpa using this
def n6.ok.mono{r:n6}(h:r.ok I)(bw:∀ b o,I b=some o->I' b=some o):r.ok I':=⟨h.a0.mono bw⟩
def rQ(n:Nat)(s:List Bool)(k:Int):List Bool:=bif decide (0<=k)&&decide (k<n)then s.set k.toNat true else s
def oS(ds:List aP)(n:Nat)(names:List ByteArray):List Bool:=names.foldl (λs nm=>rQ n s (cu nm ds 0)) (List.replicate n false)
def Hq(g:cv)(t:bS):List Int:=lx true 0 (oS g.ds g.n (hN t.ns))
def Xe(n:Nat)(s:List Bool)(k:Int):(rQ n s k).length=s.length:=by
 unfold rQ;cases decide (0<=k)&&decide (k<n)<;>simp
def PU(ds:List aP)(n:Nat)(names:List ByteArray):(oS ds n names).length=n:=by
 have:∀ (names:List ByteArray) (s:List Bool),(names.foldl (λs nm=>rQ n s (cu nm ds 0)) s).length=s.length:=by
  intro names
  induction names with
  |nil=>intro s;rfl| cons nm names aL=>intro s;rw[js,aL,Xe]
 rw[oS,this];simp
def aia(au:g.ok I)(aB:g.n<=1099511627776){t:bS}(av:t.ok I):Spec Tryz.prog 145 [g.val,t.val] I [] λv I' M'=>(∀ b o,I b=some o->I' b=some o)/\∃ x:lT,v=x.val/\x.ok I'/\x.l=Hq g t/\M'=[]:=by
 refine cb [2,5] a6 Tryz.func145 rfl rfl rfl ?_;intro B az;have fT:=au.n;refine bX.mk λbW gY KY=>?_;refine aM.mk [.slice g.a g.n g.c] (c4 (b:=bW) (cs:=[.slice g.a g.n g.c]) (k:=0) (n:=1) (T:=24) (.head _) (by simp)) ?_;refine mO.mk g.n g.n rfl rfl (ca _) (by show 1*g.n<=_;omega) (by omega) ?_;refine bX.mk λb ag sB=>?_;refine bX.mk λeu Ee KZ=>?_;refine b2.mk [] [⟨b,.cells (rowOf [.bool false] (g.n*1)).toArray 4 (0,0)⟩,⟨bW,.cells #[.slice g.a g.n g.c] 24 (0,0)⟩] _ _ rfl rfl (bJ rfl) rfl ?_;refine be.mk [] [⟨eu,.cells #[.slice (some ⟨b,0,none⟩) g.n g.n] 138 (0,0)⟩,⟨b,.cells (rowOf [.bool false] (g.n*1)).toArray 4 (0,0)⟩,⟨bW,.cells #[.slice g.a g.n g.c] 24 (0,0)⟩] _ (.refl _) (ah5 t) ?_;rintro v I1 M1 -⟨aib,rfl,rM,cH,rfl⟩;have pI:=au.mono cH;have BZ:=av.mono cH;refine cV.range a6 rfl rfl rfl .refl (ah6 BZ rM) (λvs h=>?_) (λk I' M'=>(∀ b o,I1 b=some o->I' b=some o)/\M'=[⟨eu,.cells #[.slice (some ⟨b,0,none⟩) g.n g.n] 138 (0,0)⟩,iB b (oS g.ds g.n ((hN t.ns).take k)),⟨bW,.cells #[.slice g.a g.n g.c] 24 (0,0)⟩]) (λ_ _ _=>False) ⟨λ_ _ h=>h,?_⟩ ?_ ?_ (λ_ _ _ _ h=>h.elim)
 ·obtain⟨c,_,rfl⟩:=cN.1 h;rfl
 ·show _::_::_=_;rw[tv,e2];simp[iB,oS]
 ·rintro k ae I' M' -⟨jh,rfl⟩l B az iO;have Pu:k<(hN t.ns).length:=by simpa using ae
  generalize ad:(hN t.ns)[k]=x;have ah:((hN t.ns).map λs=>[Value.string s])[k]=[.string x]:=by simp[ad]
  rw[ah];have iF:oS g.ds g.n ((hN t.ns).take (k+1))=rQ g.n (oS g.ds g.n ((hN t.ns).take k)) (cu x g.ds 0):=by rw[gg Pu,ad];simp[oS,rO]
  have c2:=PU g.ds g.n ((hN t.ns).take k);generalize ar:oS g.ds g.n ((hN t.ns).take k)=s at *;rw[iF];refine aM.mk [.slice g.a g.n g.c] ⟨rfl,_,_,_,.inr ⟨_,.tail _ (.tail _ (.head _)),rfl,rfl⟩,rfl,rfl⟩ ?_;refine be.mk [] [⟨eu,.cells #[.slice (some ⟨b,0,none⟩) g.n g.n] 138 (0,0)⟩,iB b s,⟨bW,.cells #[.slice g.a g.n g.c] 24 (0,0)⟩] _ (.refl _) (KR (pI.mono jh) x) ?_;rintro v I' M' -⟨rfl,rfl,rfl⟩;refine ct.mk (λaa=>?_) (λaa=>?_)
  ·refine aM.mk [.slice (some ⟨b,0,none⟩) g.n g.n] ⟨rfl,_,_,_,.inr ⟨_,.head _,rfl,rfl⟩,rfl,rfl⟩ ?_;refine a2.mk (λab=>?_) (λab=>?_)
   ·have kV:0<=cu x g.ds 0:=by simpa using aa
    have e':cu x g.ds 0<g.n:=by simpa using ab
    have B6:rQ g.n s (cu x g.ds 0)=s.set (cu x g.ds 0).toNat true:=by rw[rQ,aa,ab];rfl
    refine aM.mk [.slice (some ⟨b,0,none⟩) g.n g.n] ⟨rfl,_,_,_,.inr ⟨_,.head _,rfl,rfl⟩,rfl,rfl⟩ ?_;refine bd.mk ⟨b,0,none⟩ (cu x g.ds 0).toNat rfl (by omega) (by omega) ?_;refine b2.add [⟨eu,.cells #[.slice (some ⟨b,0,none⟩) g.n g.n] 138 (0,0)⟩] [⟨bW,.cells #[.slice g.a g.n g.c] 24 (0,0)⟩] _ _ rfl ?_ rfl ?_;·simp only[oC,bI];show 0+(cu x g.ds 0).toNat*1+1<=_;omega
    refine⟨_,_,.refl,jh,?_⟩;rw[B6];have e:=DT s (cu x g.ds 0).toNat (by omega) true;simp only[iB];rw[<-e];simp only[c8,e2];rfl
   ·refine⟨_,_,.refl,jh,?_⟩;have:rQ g.n s (cu x g.ds 0)=s:=by rw[rQ,aa,ab];rfl
    rw[this];rfl
  ·refine⟨_,_,.refl,jh,?_⟩;have:rQ g.n s (cu x g.ds 0)=s:=by rw[rQ,aa];rfl
   rw[this];rfl
 ·rintro dI dq -⟨e4,rfl⟩;have K0:∀ b o,I b=some o->dI b=some o:=λb o h=>e4 _ _ (cH _ _ h);have aic:(hN t.ns).take ((hN t.ns).map λs=>[Value.string s]).length=hN t.ns:=fA (by simp);rw[aic];have e5:=PU g.ds g.n (hN t.ns);have dX:Hq g t=lx true 0 (oS g.ds g.n (hN t.ns)):=rfl;generalize ar:oS g.ds g.n (hN t.ns)=s at *;refine aM.mk [.slice (some ⟨b,0,none⟩) g.n g.n] ⟨rfl,_,_,_,.inr ⟨_,.head _,rfl,rfl⟩,rfl,rfl⟩ ?_;refine di.inv (ι:=Nat×aY) (λx=>{ bi:=[(8,.val x.2.val),(32,.val (.slice (some ⟨b,0,none⟩) g.n g.n)),(33,.val (.int .i64 g.n)),(34,.val (.int .i64 x.1))],cD:=dI,c0:=x.2.aq 3++[iB b s] }) (λx=>x.1<=g.n/\x.2.ok 1 ((lx true 0 (s.take x.1)).map (.int .i64 ·))/\∀ g,x.2.a=some g->dI g=none) (λx=>g.n-x.1) ?_ ?_
  ·exact⟨(0,h6),⟨by simp,lv 1,λg h=>by cases h⟩,.sub (.cons _ (.cons_cons _ (fO _))) .refl,ew,.nil⟩
  ·rintro⟨i,os⟩⟨hi,bT,bw⟩;simp only at hi bT bw;have tL:=bT.m7;have gX:=Xd true (s.take i) 0;have uZ:=BM i s;refine a2.mk (λh=>?_) (λh=>?_)
   ·have aX:i<g.n:=by simpa using h
    have cj:i<s.length:=by omega
    have iS:=Xc true s[i] (s.take i) 0;rw[<-gg cj,PM (by omega),c8]at iS;refine bd.mk ⟨b,0,none⟩ i rfl rfl aX ?_;refine aM.mk _ (GV (by simp) cj) ?_;refine a2.mk (λab=>?_) (λab=>?_);·rw[ab]at iS;refine bX.mk λb9 jM u1=>?_;refine bz.GU a6 rfl (by simp) (e:=3) rfl rfl rfl os bT rfl (m:=1) rfl (b8:=[.int .i64 i]) (by decide) (c4 (b:=b9) (cs:=[.int .i64 i]) (k:=0) (n:=1) (T:=3) (.head _) (by simp)) rfl (Mr:=[iB b s,⟨b9,.cells #[.int .i64 i] 3 (0,0)⟩]) (Hp _ _ _) (by simp only[maxLen];omega) (by show(os.n+1)*8<=_;omega) ?_;intro dK c' hC K2 dF eJ eF ik;refine bg.mk _ (cL (i:=i) (by omega)) ?_;refine⟨(i+1,⟨some dK,os.n+1,c',hC⟩),⟨⟨by simp only;omega,?_,λg au=>by cases au;exact K2⟩,by simp only;omega⟩,.sub (.cons_cons _ (.cons_cons _ (fO _))) .refl,ew,.nil⟩;simp only;rw[iS,cM];exact K1 bT dF eJ eF ik
    ·rw[ab]at iS;simp only[Bool.false_beq,uG,b',ee]at iS;refine bg.mk _ (cL (i:=i) (by omega)) ?_;refine⟨(i+1,os),⟨⟨by simp only;omega,?_,bw⟩,by simp only;omega⟩,.refl,ew,.nil⟩;simp only;rw[iS];exact bT
   ·have cI:g.n<=i:=by simpa using h
    rw[fA (by omega)]at bT gX tL;obtain⟨I',x,h1,ku,me,iP,Hr⟩:=aY.Xb (e:=3) bT (by omega) bw [];rw[ee]at h1;exact⟨_,_,.sub (tK _ _) h1,λb o h=>ku _ _ (K0 _ _ h),x,me,iP,Hr.trans dX.symm,rfl⟩
def h7(m:List Bool)(k:Nat):Prop:=m.getD k false=true
def jj(m:List Bool)(o:List Int):List Int->List Bool×List Int
 |[]=>(m,o)| k::ks=>bif m.getD k.toNat false then jj m o ks else jj (m.set k.toNat true) (o++[k]) ks
def x4(L:List (List Int)):Nat->List Bool->List Int->List Bool
 |0,m,_=>m
 |f+1,m,o=>match o.getLast? with
  |none=>m| some w=>bif decide (0<(jj m o.dropLast (L.getD w.toNat [])).2.length)then x4 L f (jj m o.dropLast (L.getD w.toNat [])).1 (jj m o.dropLast (L.getD w.toNat [])).2 else(jj m o.dropLast (L.getD w.toNat [])).1
def qF(L:List (List Int))(i:Nat):List Bool:=x4 L (2*L.length+2) ((List.replicate L.length false).set i true) [(i:Int)]
def oT:List Bool->Nat
 |[]=>0| b::s=>(bif b then 0 else 1)+oT s
def K3:∀ (m:List Bool) (k:Nat),k<m.length->m.getD k false=false->oT (m.set k true)+1=oT m
 |b::m,0,_,h=>by
  have:b=false:=by simpa using h
  subst this;simp[oT];omega
 |b::m,k+1,ae,h=>by have:=K3 m k (by simpa using ae) (by simpa using h);simp only[List.set_cons_succ,oT];omega
def Xf(m:List Bool):oT m<=m.length:=by
 induction m with
 |nil=>simp[oT]
 |cons b m aL=>
  simp only[oT,dx];cases b<;>simp<;>omega
def Eg{m:List Bool}{k a:Nat}(ae:k<m.length):h7 (m.set k true) a ↔ a=k\/h7 m a:=by
 unfold h7;simp only[bA,ih];by_cases e:k=a
 ·subst e;simp[ae]
 ·rw[bR e];constructor
  ·exact .inr
  ·rintro(h | h)
   ·exact(e h.symm).elim
   ·exact h
def valid(n:Nat)(l:List Int):Prop:=∀ k∈l,0<=k/\k<n
structure aid(m:List Bool)(o ks:List Int)(r:List Bool×List Int):Prop where
 len:r.1.length=m.length
 mono:∀ a,h7 m a->h7 r.1 a
 all:∀ k∈ks,h7 r.1 k.toNat
 only:∀ a,h7 r.1 a->h7 m a\/((a:Int)∈ks/\(a:Int)∈r.2)
 ny:∀ k∈o,k∈r.2
 b8:∀ k∈r.2,k∈o\/(k∈ks/\h7 r.1 k.toNat)
 Hd:2*oT r.1+r.2.length<=2*oT m+o.length
def PV{n:Nat}:∀ (ks:List Int) (m:List Bool) (o:List Int),m.length=n->valid n ks->aid m o ks (jj m o ks)
 |[],m,o,_,_=>⟨rfl,λ_ h=>h,λk ae=>by simp at ae,λa h=>.inl h,λk h=>h,λk h=>.inl h,ca _⟩
 |k::ks,m,o,hm,ah=>by
  have ae:=ah k (by simp);have j2:valid n ks:=λx ad=>ah x (by simp[ad]);have cA:k.toNat<m.length:=by omega
  unfold jj;cases ag:m.getD k.toNat false with
  |true=>
   have h:=PV ks m o hm j2;simp only[b5];refine⟨h.len,h.mono,λx ad=>?_,λa a4=>?_,h.ny,λx ad=>?_,h.Hd⟩
   ·rcases ec.1 ad with rfl | ad
    ·exact h.mono _ ag
    ·exact h.all x ad
   ·rcases h.only a a4 with aa | aa
    ·exact .inl aa
    ·exact .inr ⟨by simp[aa.1],aa.2⟩
   ·rcases h.b8 x ad with aa | aa
    ·exact .inl aa
    ·exact .inr ⟨by simp[aa.1],aa.2⟩
  |false=>
   have h:=PV ks (m.set k.toNat true) (o++[k]) (by simpa using hm) j2;have ar:=K3 m k.toNat cA ag;have B6:h7 (jj (m.set k.toNat true) (o++[k]) ks).1 k.toNat:=h.mono _ ((Eg cA).2 (.inl rfl));have kB:k∈(jj (m.set k.toNat true) (o++[k]) ks).2:=h.ny k (by simp);simp only[b'];refine⟨by rw[h.len];simp,λa a4=>h.mono a ((Eg cA).2 (.inr a4)),λx ad=>?_,λa a4=>?_,λx ad=>h.ny x (by simp[ad]),λx ad=>?_,?_⟩
   ·rcases ec.1 ad with rfl | ad
    ·exact B6
    ·exact h.all x ad
   ·rcases h.only a a4 with aa | aa
    ·rcases(Eg cA).1 aa with rfl | aa
     ·have e:((k.toNat:Nat):Int)=k:=by omega
      rw[e];exact .inr ⟨by simp,kB⟩
     ·exact .inl aa
    ·exact .inr ⟨by simp[aa.1],aa.2⟩
   ·rcases h.b8 x ad with aa | aa
    ·simp only[cB,ed]at aa;rcases aa with aa | rfl
     ·exact .inl aa
     ·exact .inr ⟨by simp,B6⟩
    ·exact .inr ⟨by simp[aa.1],aa.2⟩
   ·have:=h.Hd;simp only[ch,dx,fS]at this;omega
inductive Comes(L:List (List Int))(i:Nat):Nat->Prop
 |self:Comes L i i| next {a k:Nat} (h:Comes L i a) (ae:(k:Int)∈L.getD a []):Comes L i k
structure wk(L:List (List Int))(i:Nat)(m:List Bool)(o:List Int):Prop where
 len:m.length=L.length
 val:valid L.length o
 Xg:∀ k∈o,h7 m k.toNat
 cl:∀ a,h7 m a->(a:Int)∈o\/∀ k∈L.getD a [],h7 m k.toNat
 PW:∀ a,h7 m a->Comes L i a
 self:h7 m i
def aie{m:List Bool}{a:Nat}(h:h7 m a):a<m.length:=by apply Kz;intro bm;unfold h7 at h;simp[bA,bm]at h
def wk.step(cc:∀ l∈L,valid L.length l){i:Nat}{m:List Bool}{o:List Int}{w:Int}(h:wk L i m (o++[w])) :
  wk L i (jj m o (L.getD w.toNat [])).1 (jj m o (L.getD w.toNat [])).2/\2*oT (jj m o (L.getD w.toNat [])).1+(jj m o (L.getD w.toNat [])).2.length<2*oT m+(o++[w]).length:=by
 have hw:=h.val w (by simp);have x5:w.toNat<L.length:=by omega
 have K4:L.getD w.toNat []=L[w.toNat]:=by simp[bA,x5]
 have ah:valid L.length (L.getD w.toNat []):=by rw[K4];exact cc _ (br x5)
 have v:=PV (L.getD w.toNat []) m o h.len ah;have Ph:=h.Xg w (by simp);have aif:=h.PW _ Ph;refine⟨⟨v.len.trans h.len,λk ae=>?_,λk ae=>?_,λa a4=>?_,λa a4=>?_,v.mono _ h.self⟩,?_⟩
 ·rcases v.b8 k ae with aa | aa
  ·exact h.val k (by simp[aa])
  ·exact ah k aa.1
 ·rcases v.b8 k ae with aa | aa
  ·exact v.mono _ (h.Xg k (by simp[aa]))
  ·exact aa.2
 ·rcases v.only a a4 with aa | aa
  ·rcases h.cl a aa with ab | ab
   ·simp only[cB,ed]at ab;rcases ab with ab | ab
    ·exact .inl (v.ny _ ab)
    ·have e:a=w.toNat:=by omega
     subst e;exact .inr v.all
   ·exact .inr λk ae=>v.mono _ (ab k ae)
  ·exact .inl aa.2
 ·rcases v.only a a4 with aa | aa
  ·exact h.PW a aa
  ·exact .next aif aa.1
 ·have:=v.Hd;simp only[ch,dx,fS];omega
structure PX(L:List (List Int))(i:Nat)(m:List Bool):Prop where
 len:m.length=L.length
 iff:∀ a,h7 m a ↔ Comes L i a
def wk.done{i:Nat}{m:List Bool}(cc:∀ l∈L,valid L.length l)(h:wk L i m []):PX L i m:=by
 refine⟨h.len,λa=>⟨h.PW a,λan=>?_⟩⟩
 induction an with
 |self=>exact h.self
 |next an ae aL=>
  rcases h.cl _ aL with aa | aa;·simp at aa
  ·simpa using aa _ ae
def wk.start{i:Nat}(hi:i<L.length):wk L i ((List.replicate L.length false).set i true) [(i:Int)]:=by
 have aB:∀ a,¬ h7 (List.replicate L.length false) a:=λa=>by
  unfold h7;by_cases h:a<L.length<;>simp[bA,h]
 have ar:∀ a,h7 ((List.replicate L.length false).set i true) a ↔ a=i:=λa=>by rw[Eg (by simpa using hi)];exact⟨λh=>h.resolve_right (aB a),.inl⟩
 refine⟨by simp,λk ae=>?_,λk ae=>?_,λa a4=>?_,λa a4=>?_,(ar i).2 rfl⟩
 ·simp only[ed]at ae;omega
 ·simp only[ed]at ae;subst ae;simpa using(ar i).2 rfl
 ·rw[(ar a).1 a4];exact .inl (by simp)
 ·rw[(ar a).1 a4];exact .self
def Xh{L:List (List Int)}(cc:∀ l∈L,valid L.length l){i:Nat}:∀ (f:Nat) (m:List Bool) (o:List Int),wk L i m o->o≠[]->2*oT m+o.length<=f->PX L i (x4 L f m o)
 |0,m,o,h,aH,aA=>by exact(aH (iy (by omega))).elim
 |f+1,m,o,h,aH,aA=>by
  obtain⟨o',w,rfl⟩:∃ o' w,o=o'++[w]:=by
   rcases wb o with aa | ⟨r,p,aa⟩;·exact(aH aa).elim
   ·exact⟨r,p,by simpa using aa⟩
  obtain⟨aa,ab⟩:=h.step cc;unfold x4;simp only[PN,PO];cases ag:decide (0<(jj m o' (L.getD w.toNat [])).2.length)with
  |true=>simp only[b5];refine Xh cc f _ _ aa (λe=>?_) (by omega);rw[e]at ag;simp at ag| false=>simp only[b'];have e:(jj m o' (L.getD w.toNat [])).2=[]:=iy (by simpa using ag);rw[e]at aa;exact aa.done cc
def Hs(cc:∀ l∈L,valid L.length l){i:Nat}(hi:i<L.length):PX L i (qF L i):=by refine Xh cc _ _ _ (.start hi) (by simp) ?_;have:=Xf ((List.replicate L.length false).set i true);simp only[n5,sE,dx,fS]at this |-;omega
def Xi{a9 post:List Value}{z:Value}{k:Nat}(ae:k=a9.length):cm (a9++z::post) k [v]=a9++v::post:=by
 subst ae;unfold cm;have e:(a9++z::post).drop (a9.length+[v].length)=post:=by rw[show a9++z::post=(a9++[z])++post from by simp];exact BN (by simp)
 rw[e,qu rfl];simp
def im(g:cv):List (List Int):=g.ds.map λd=>Hq g d.t
def aih(bu:ga I ax)(au:g.ok I)(aB:g.n<=1099511627776):Spec Tryz.prog 91 [g.val] I [] λv I' M'=>(∀ b o,I b=some o->I' b=some o)/\M'=[] /\
  ((dz ax g≠0/\v=.tuple #[.slice none 0 0,.bool false])\/(dz ax g=0/\∃ x:lU,v=.tuple #[x.val,.bool true]/\x.ok I'/\x.fi=im g)):=by
 refine cb [] a6 Tryz.func91 rfl rfl rfl ?_;intro B az;have fT:=au.n;refine be.mk [] [] _ (.refl _) (PS bu au) ?_;rintro v I1 M1 -⟨rfl,cH,rfl⟩;refine a2.mk (λh=>?_) (λh=>?_)
 ·exact⟨_,_,.refl,cH,rfl,.inl ⟨by simpa using h,rfl⟩⟩
 ·have PY:dz ax g=0:=by simpa using h
  refine mO.mk g.n g.n rfl rfl (ca _) (by show 24*g.n<=_;omega) (by omega) ?_;refine bX.mk λb ag sB=>?_;refine di.inv (ι:=Nat×List lT×aJ) (λx=>{ bi:=[(1,.ref 1 0),(4,.val (.slice (some ⟨b,0,none⟩) g.n g.n)),(15,.val (.slice g.a g.n g.c)),(16,.val (.int .i64 g.n)),(17,.val (.int .i64 x.1))],cl:=[(1,[.slice g.a g.n g.c])],cD:=x.2.2,c0:=[⟨b,.cells (x.2.1.map lT.val++List.replicate (g.n-x.1) (Value.slice none 0 0)).toArray 55 (0,0)⟩] }) (λx=>x.1<=g.n/\x.2.1.length=x.1/\(∀ b o,I b=some o->x.2.2 b=some o)/\x.2.2 b=none/\(∀ r∈x.2.1,r.ok x.2.2)/\x.2.1.map (·.l)=(g.ds.take x.1).map (λd=>Hq g d.t)) (λx=>g.n-x.1) ?_ ?_;·refine⟨(0,[],I1),⟨by simp,rfl,cH,ag,by simp,rfl⟩,?_,hn,.cons rfl .nil⟩;show ic _ _ [⟨b,.cells (rowOf [.slice none 0 0] (g.n*1)).toArray 55 (0,0)⟩] _ _;rw[tv,e2];exact .refl
  ·rintro⟨i,a0,dI⟩⟨hi,fv,e4,gY,gj,ep⟩;simp only at hi fv e4 gY gj ep;refine a2.mk (λh=>?_) (λh=>?_)
   ·have aX:i<g.n:=by simpa using h
    have cj:i<g.ds.length:=by omega
    have kW:=au.mono e4;obtain⟨aS,bH,bl⟩:=kW.a0.row aP.cP aX cj;have gz:g.ds[i]∈g.ds:=br cj;refine bd.mk aS i bH rfl aX ?_;refine aM.mk _ (bl _) ?_;refine be.y1 [] [⟨b,.cells (a0.map lT.val++List.replicate (g.n-i) (Value.slice none 0 0)).toArray 55 (0,0)⟩] _ (.refl _) (aia kW aB (kW.ds _ gz).t) ?_;rintro v h2 sA-zN⟨iH,x,rfl,ad,ij,rfl⟩;refine bd.mk ⟨b,0,none⟩ i rfl rfl aX ?_;refine b2.add [] [] _ _ rfl ?_ rfl ?_;·simp only[oC,ch,bI,sE];show 0+i*1+1<=_;omega
    refine bg.mk _ (cL (i:=i) (by omega)) ?_;refine⟨(i+1,a0++[x],h2),⟨⟨by simp only;omega,by simp[fv],λb o h=>iH _ _ (e4 _ _ h),zN _ (.head _),λr af=>?_,?_⟩,by simp only;omega⟩,?_,hn,.cons rfl .nil⟩
    ·simp only[cB,ed]at af;rcases af with af | rfl
     ·exact(gj r af).mono iH
     ·exact ad
    ·simp only;rw[cM,ep,gg cj,cM];simp[ij]
    ·have B7:List.replicate (g.n-i) (Value.slice none 0 0)=.slice none 0 0::List.replicate (g.n-(i+1)) (Value.slice none 0 0):=by rw[show g.n-i=(g.n-(i+1))+1 from by omega,Hk]
     have e:=Xi (a9:=a0.map lT.val) (post:=List.replicate (g.n-(i+1)) (Value.slice none 0 0)) (z:=.slice none 0 0) (v:=x.val) (k:=0+i*1) (by simp[fv]);rw[B7];simp only[cM,b0,hy,dV,m4,iz];rw[<-e];exact .refl
   ·have cI:g.n<=i:=by simpa using h
    have fw:i=g.n:=by omega
    subst fw;refine⟨_,_,.kN rfl (by simp) .refl,λb o h=>hL gY _ _ (e4 _ _ h),rfl,.inr ⟨PY,⟨a0,some ⟨b,0,none⟩,g.n,g.n⟩,rfl,⟨⟨by simp[fv],⟨ca _,by simp only;omega⟩,.inr ⟨_,rfl,rfl,_,_,_,mo ..,?_⟩⟩,λr af=>(gj r af).mono (hL gY)⟩,?_⟩⟩;·simp[fv];exact fA (by simp[fv])
    ·simp only[lU.fi,ep,im];rw[fA (by omega)]
def Xj{c:Code}{K:j3}{t1 t2 t3:Nat}{a b d:dA}(h:∀ G oO,V X c (fZ (fZ (fZ G t3 d) t2 b) t1 a) oO I M K)
  (aa:F t1=a) (ab:F t2=b) (aj:F t3=d):V X c F C I M K:=by
 have:=h F C;rwa [Ea aj,Ea ab,Ea aa]at this
abbrev K5:=Nat×List Bool×aY×List Int×Nat
def Xk(I:aJ)(x:lU)(y:K5):vT:={ bi:=[(0,.val x.val),(5,.val (.slice (some ⟨y.1,0,none⟩) x.n x.n)),(6,.val y.2.2.1.val)],cD:=I,c0:=y.2.2.1.aq 3++[iB y.1 y.2.1] }
structure K6(I:aJ)(L:List (List Int))(i:Nat)(y:K5):Prop where
 aq:I y.1=none
 os:y.2.2.1.ok 1 (y.2.2.2.1.map (.int .i64 ·))
 inv:wk L i y.2.1 y.2.2.2.1
 ne:y.2.2.2.1≠[]
 Hd:2*oT y.2.1+y.2.2.2.1.length<=y.2.2.2.2
 gJ:y.2.2.2.2<=2*L.length+2
 eq:qF L i=x4 L y.2.2.2.2 y.2.1 y.2.2.2.1
def aii(L:List (List Int))(f:Nat)(m:List Bool)(o:List Int)(w:Int):x4 L (f+1) m (o++[w]) =
  bif decide (0<(jj m o (L.getD w.toNat [])).2.length)then x4 L f (jj m o (L.getD w.toNat [])).1 (jj m o (L.getD w.toNat [])).2 else(jj m o (L.getD w.toNat [])).1:=by
 rw[x4];simp only[PN,PO]
def Xl{x:lU}(ad:x.ok I)(aB:x.n<=1099511627776)(cc:∀ l∈x.fi,valid x.fi.length l){i:Nat}(y:K5)(aE:K6 I x.fi i y){p:Nat->K5->Prop}(aC:∀ z,K6 I x.fi i z->z.2.2.2.2<y.2.2.2.2->p 0 z)(B:Nat)(az:World)(G:Fr)(oO:dC) :
  V ⟨Tryz.prog,qs,[],Tryz.f94.ntmps,B,az,I,[],none⟩ (KO (Eb (Tryz.f94.body.getD .skip)) 0) (fZ (fZ (fZ G 6 (.val y.2.2.1.val)) 5 (.val (.slice (some ⟨y.1,0,none⟩) x.n x.n))) 0 (.val x.val)) oO I (y.2.2.1.aq 3++[iB y.1 y.2.1])
   (Kj (λl=>pq [] (Xk I x) (p l)) (uD ⟨Tryz.prog,qs,[],Tryz.f94.ntmps,B,az,I,[],none⟩ Tryz.f94.results.toList
    (λv I' M'=>(∀ b o,I b=some o->I' b=some o)/\∃ r:n6,v=r.val/\r.ok I'/\r.l=qF x.fi i/\M'=[]))):=by
 obtain⟨b,m,⟨x1,n,eU,aT⟩,o,f⟩:=y;obtain⟨ag,bT,hinv,bt,rK,aij,sH⟩:=aE;simp only at ag bT hinv bt rK aij sH aC |-;have qG:=ad.n;have gX:x.fi.length=x.n:=by simp[lU.fi,qG]
 have je:m.length=x.n:=hinv.len.trans gX;obtain⟨o',w,rfl⟩:∃ o' w,o=o'++[w]:=by
  rcases wb o with aa | ⟨r,p,aa⟩;·exact(bt aa).elim
  ·exact⟨r,p,by simpa using aa⟩
 have tL:n=o'.length+1:=by have:=bT.m7;simpa using this
 cases x1 with
 |none=>have:=(bT.nil rfl).1;simp only at this;omega| some cJ=>
 obtain⟨dX,mZ,kv,ey⟩:=bT.cap cJ rfl;simp only at dX mZ kv ey;have hw:=hinv.val w (by simp);have x5:w.toNat<x.fi.length:=by omega
 have fQ:w.toNat<x.rows.length:=by omega
 have Xm:w.toNat<x.n:=by omega
 obtain⟨er,aX⟩:=hinv.step cc;have K4:x.fi.getD w.toNat []=x.rows[w.toNat].l:=by simp[lU.fi,bA,fQ]
 rw[K4]at er aX;obtain⟨f,rfl⟩:∃ uR,f=uR+1:=⟨f-1,by simp at rK;omega⟩;have eA:qF x.fi i=bif decide (0<(jj m o' x.rows[w.toNat].l).2.length)then x4 x.fi f (jj m o' x.rows[w.toNat].l).1 (jj m o' x.rows[w.toNat].l).2 else(jj m o' x.rows[w.toNat].l).1:=by rw[sH,aii,K4]
 have tF:valid x.fi.length x.rows[w.toNat].l:=cc _ (by simp only[lU.fi];exact cN.2 ⟨_,br fQ,rfl⟩);have my:=ad.rows _ (br fQ);have hZ:=my.n;have zO:=my.a0.cap;obtain⟨Ht,Hu,fJ⟩:=ad.a0.one Xm fQ;have qz:IntKind.i64.wrap ((n:Int)-1)=((n-1:Nat):Int):=by simp only[ch,dx,fS]at rK;rw[wrap_i64 ⟨by omega,by omega⟩];omega
 obtain⟨bj,mr⟩:∃ bj,aT=o'.map (Value.int .i64)++(.int .i64 w::bj):=by refine⟨aT.drop n,?_⟩;have ab:=rG (n*1) aT;rw[ey,e2]at ab;rw[cM,dV]at ab;exact ab.symm
 have PZ:aT.drop (n-1)=.int .i64 w::bj:=by rw[mr];exact BN (by simp;omega)
 refine bg.mk _ qz ?_;refine bd.mk ⟨cJ,0,none⟩ (n-1) rfl rfl (by show n-1<n;omega) ?_;refine aM.mk [.int .i64 w] ?_ ?_
 ·have:=c4 (I:=I) (M:=[⟨cJ,.cells aT.toArray 3 (0,0)⟩]++[iB b m]) (b:=cJ) (cs:=aT) (T:=3) (.head _) (k:=(n-1)*1) (n:=1) (by omega);rw[e2,PZ]at this;rw[e2];exact this
 refine bg.mk _ qz ?_;refine l6.mk 0 (n-1) rfl rfl (dD _) (by show n-1<=eU;omega) ?_;refine bd.mk Ht w.toNat Hu (by omega) Xm ?_;refine aM.mk _ (fJ _) ?_;generalize eR:x.rows[w.toNat]=row at *;have zP:aY.ok ⟨some cJ,n-1,eU,aT⟩ 1 (o'.map (.int .i64 ·)):=by refine⟨by simp;omega,(λh=>by cases h),λbQ aj=>⟨dX,by show n-1<=eU;omega,kv,?_⟩⟩;show aT.take ((n-1)*1)=_;have ab:=rG (n*1) aT;rw[ey,e2]at ab;rw[<-ab,cM,dV,e2];exact qu (by simp;omega)
 simp only[ch,dx,fS]at aX rK;refine di.inv (ι:=Nat×List Bool×aY×List Int) (λz=>{ bi:=[(0,.val x.val),(5,.val (.slice (some ⟨b,0,none⟩) x.n x.n)),(6,.val z.2.2.1.val),(32,.val row.val),(33,.val (.int .i64 row.n)),(34,.val (.int .i64 z.1))],cD:=I,c0:=z.2.2.1.aq 3++[iB b z.2.1] }) (λz=>z.1<=row.n/\z.2.1.length=x.n/\z.2.2.1.ok 1 (z.2.2.2.map (.int .i64 ·))/\2*oT z.2.1+z.2.2.2.length<=2*x.n+2/\jj m o' row.l=jj z.2.1 z.2.2.2 (row.l.drop z.1)) (λz=>row.n-z.1) ?_ ?_
 ·exact⟨(0,m,⟨some cJ,n-1,eU,aT⟩,o'),⟨by simp,je,zP,by simp only;omega,rfl⟩,.refl,oB,.nil⟩
 ·rintro⟨j,s,os,q⟩⟨ai,e5,qH,Hv,BA⟩;simp only at ai e5 qH Hv BA;refine a2.mk (λh=>?_) (λh=>?_)
  ·have eM:j<row.n:=by simpa using h
   have iD:j<row.l.length:=by omega
   obtain⟨gk,fu,fb⟩:=my.a0.one eM iD;have j9:row.l.drop j=row.l[j]::row.l.drop (j+1):=eV iD;have jg:=tF _ (br iD);generalize ae:row.l[j]=k at *;have cA:k.toNat<s.length:=by omega
   have aik:=qH.m7;refine bd.mk gk j fu rfl eM ?_;refine aM.mk _ (fb _) ?_;refine bd.mk ⟨b,0,none⟩ k.toNat rfl (by omega) (by omega) ?_;refine aM.mk _ (GV (by simp) cA) ?_;have oH:s.getD k.toNat false=s[k.toNat]:=by simp[bA,cA]
   refine a2.mk (λab=>?_) (λab=>?_)
   ·have aA:s.getD k.toNat false=false:=by rw[oH];simpa using ab
    have Gg:=K3 s k.toNat cA aA;refine bd.mk ⟨b,0,none⟩ k.toNat rfl (by omega) (by omega) ?_;refine b2.add (os.aq 3) [] _ _ rfl ?_ rfl ?_;·simp only[oC,bI];show 0+k.toNat*1+1<=_;omega
    have e:=DT s k.toNat cA true;refine bX.mk λb9 jM u1=>?_;refine bz.append a6 rfl (by simp) (e:=3) rfl rfl rfl os qH rfl (m:=1) rfl (b8:=[.int .i64 k]) (by decide) (c4 (b:=b9) (cs:=[.int .i64 k]) (k:=0) (n:=1) (T:=3) (.head _) (by simp)) rfl (Mr:=[⟨b,.cells (cm (s.map Value.bool) (0+k.toNat*1) [.bool true]).toArray 4 (0,0)⟩,⟨b9,.cells #[.int .i64 k] 3 (0,0)⟩]) (Hp _ _ _) (by simp only[maxLen];omega) (by show(os.n+1)*8<=_;omega) ?_;intro dK c' hC dF eJ eF ik;refine bg.mk _ (cL (i:=j) (by omega)) ?_;refine⟨(j+1,s.set k.toNat true,⟨some dK,os.n+1,c',hC⟩,q++[k]),⟨⟨by simp only;omega,by simpa using e5,?_,?_,?_⟩,by simp only;omega⟩,?_,oB,.nil⟩;·simp only;rw[cM];exact K1 qH dF eJ eF ik
    ·simp only[ch,dx,fS];omega
    ·simp only;rw[BA,j9,jj,aA];rfl
    ·simp only[iB];rw[<-e];simp only[c8,e2];exact .sub (.cons_cons _ (.cons_cons _ (fO _))) .refl
   ·have aA:s.getD k.toNat false=true:=by rw[oH];simpa using ab
    refine bg.mk _ (cL (i:=j) (by omega)) ?_;refine⟨(j+1,s,os,q),⟨⟨by simp only;omega,e5,qH,Hv,?_⟩,by simp only;omega⟩,.refl,oB,.nil⟩;simp only;rw[BA,j9,jj,aA];rfl
  ·have cI:row.n<=j:=by simpa using h
   have ah:jj m o' row.l=(s,q):=by rw[BA,kr (by omega)];rfl
   rw[ah]at eA er aX;simp only at eA er aX;have aik:=qH.m7;refine a2.mk (λab=>?_) (λab=>?_)
   ·have fe:0<q.length:=by simp at ab;omega
    refine⟨(b,s,os,q,f),aC _ ⟨ag,qH,er,λe=>by simp only at e;rw[e]at fe;simp at fe,by simp only;omega,by simp only;omega,?_⟩ (by simp only;omega),.refl,hl,.nil⟩;simp only;rw[eA,show decide (0<q.length)=true from e9 fe];rfl
   ·have fe:¬ 0<q.length:=by simp at ab;omega
    have m8:qF x.fi i=s:=by rw[eA,show decide (0<q.length)=false from et fe];rfl
    refine⟨_,_,.sub (l' _ _) (.kN rfl (by simp) .refl),hL ag,⟨some ⟨b,0,none⟩,x.n,x.n,s⟩,rfl,⟨⟨by simp[e5],⟨ca _,by simp only;omega⟩,.inr ⟨_,rfl,rfl,_,_,_,mo ..,?_⟩⟩⟩,m8.symm,rfl⟩;simp[e5];exact fA (by simp[e5])
def ail{x:lU}(ad:x.ok I)(aB:x.n<=1099511627776)(cc:∀ l∈x.fi,valid x.fi.length l){i:Nat}(hi:i<x.n):Spec Tryz.prog 94 [x.val,.int .i64 i] I [] λv I' M'=>(∀ b o,I b=some o->I' b=some o)/\∃ r:n6,v=r.val/\r.ok I'/\r.l=qF x.fi i/\M'=[]:=by
 refine cb [] a6 Tryz.func94 rfl rfl rfl ?_;intro B az;have qG:=ad.n;have gX:x.fi.length=x.n:=by simp[lU.fi,qG]
 refine cV.scope a6 rfl (Xk I x) (λ_=>0) (K6 I x.fi i) (λy=>y.2.2.2.2) (λ_=>KO (Eb (Tryz.f94.body.getD .skip)) 0) (λ_ _=>⟨by kernel_rfl,by kernel_rfl⟩) ?_ ?_
 ·refine mO.mk x.n x.n rfl rfl (ca _) (by show 1*x.n<=_;omega) (by omega) ?_;refine bX.mk λb ag sB=>?_;refine bd.mk ⟨b,0,none⟩ i rfl rfl hi ?_;have af:rowOf [.bool false] (x.n*1)=(List.replicate x.n false).map Value.bool:=by rw[tv,e2,xI]
  refine b2.add [] [] (((List.replicate x.n false).map Value.bool).toArray) 4 (by rw[<-af];rfl) ?_ rfl ?_;·simp only[oC,bI,sE];show 0+i*1+1<=_;omega
  refine bX.mk λb6 B0 PG=>?_;have e:=DT (List.replicate x.n false) i (by simpa using hi) true;have er:=wk.start (L:=x.fi) (i:=i) (by omega);rw[gX]at er;have key:=λG oO=>Xl ad aB cc (i:=i) (b,(List.replicate x.n false).set i true,⟨some b6,1,1,[.int .i64 i]⟩,[(i:Int)],2*x.n+2) ⟨ag,⟨rfl,(λh=>by cases h),λbQ _=>⟨rfl,ca _,by simp only[maxLen];omega,rfl⟩⟩,er,by simp,?_,by simp only;omega,by simp only[qF];rw[gX]⟩ (p:=λl y=>K6 I x.fi i y/\0=l) (λz bb _=>⟨bb,rfl⟩) B az G oO;·refine Xj (t1:=0) (t2:=5) (t3:=6) (λG oO=>?_) rfl rfl rfl;have cy:=key G oO;simp only[iB]at cy;rw[<-e]at cy;simp only[c8,e2];exact cy
  ·simp only;have:=Xf ((List.replicate x.n false).set i true);simp only[n5,sE,dx,fS]at this |-;omega
 ·intro y aE;exact Xj (t1:=0) (t2:=5) (t3:=6) (λG oO=>Xl ad aB cc y aE (λz bb aX=>⟨⟨bb,rfl⟩,aX⟩) B az G oO) rfl rfl rfl
def P0(wh:Bool):∀ (s:List Bool) (i:Nat) (k:Int),k∈lx wh i s ↔ ∃ j:Nat,k=((i+j:Nat):Int)/\s[j]?=some wh
 |[],i,k=>by simp[lx]
 |b::s,i,k=>by
  have aL:=P0 wh s (i+1) k;unfold lx;have tail:(∃ j:Nat,k=((i+1+j:Nat):Int)/\s[j]?=some wh) ↔ ∃ j:Nat,k=((i+(j+1):Nat):Int)/\(b::s)[j+1]?=some wh:=by
   constructor;·rintro⟨j,aa,ab⟩;exact⟨j,by rw[aa];omega,by simpa using ab⟩
   ·rintro⟨j,aa,ab⟩;exact⟨j,by rw[aa];omega,by simpa using ab⟩
  have split:(∃ j:Nat,k=((i+j:Nat):Int)/\(b::s)[j]?=some wh) ↔ (k=(i:Int)/\b=wh)\/∃ j:Nat,k=((i+(j+1):Nat):Int)/\(b::s)[j+1]?=some wh:=by
   constructor
   ·rintro⟨j,aa,ab⟩;cases j with
    |zero=>exact .inl ⟨by simpa using aa,by simpa using ab⟩| succ j=>exact .inr ⟨j,aa,ab⟩
   ·rintro(⟨aa,ab⟩ | ⟨j,aa,ab⟩)
    ·exact⟨0,by simpa using aa,by simpa using ab⟩
    ·exact⟨j+1,aa,ab⟩
  rw[split];cases ag:b == wh with
  |true=>
   have:b=wh:=by simpa using ag
   simp only[b5,ec,aL,tail];simp[this]
  |false=>
   have:b≠wh:=by simpa using ag
   simp only[b',aL,tail];simp[this]
def aim{wh:Bool}{s:List Bool}:valid s.length (lx wh 0 s):=λk ae=>by obtain⟨j,aa,ab⟩:=(P0 wh s 0 k).1 ae;have:=(ia.1 ab).1;omega
def ain(g:cv)(t:bS):valid g.n (Hq g t):=by have h:=aim (wh:=true) (s:=oS g.ds g.n (hN t.ns));rw[PU]at h;exact h
def P1(aB:g.ds.length=g.n):∀ l∈im g,valid (im g).length l:=by intro l ay;obtain⟨d,_,rfl⟩:=cN.1 ay;simp only[im,bI,aB];exact ain g d.t
def aio{s:List Bool}{k:Nat}:(k:Int)∈lx true 0 s ↔ h7 s k:=by
 rw[P0];unfold h7;constructor
 ·rintro⟨j,aa,ab⟩;have:k=j:=by omega
  subst this;simp[bA,ab]
 ·intro h;refine⟨k,by omega,?_⟩;have ay:=aie h;simp only[bA,dg ay,kk]at h;rw[dg ay,h]
def gK(L:List (List Int)):List (List Bool):=(List.range L.length).map λi=>qF L i
def m9(R:List (List Bool))(i k:Nat):Bool:=(R.getD i []).getD k false
def kb(R:List (List Bool))(i:Nat):Nat->Nat->List Bool->List Int->List Bool×List Int
 |0,_,p,q=>(p,q)| f+1,k,p,q=>bif m9 R i k&&m9 R k i then kb R i f (k+1) (p.set k true) (q++[(k:Int)])else kb R i f (k+1) p q
def wm(R:List (List Bool))(n:Nat):Nat->Nat->List Bool->List (List Int)->List (List Int)
 |0,_,_,ps=>ps| f+1,i,p,ps=>bif p.getD i false then wm R n f (i+1) p ps else wm R n f (i+1) (kb R i (n-i) i p []).1 (ps++[(kb R i (n-i) i p []).2])
def mz(L:List (List Int)):List (List Int):=wm (gK L) L.length L.length 0 (List.replicate L.length false) []
def P2(R:List (List Bool))(i:Nat):∀ (f k:Nat) (p:List Bool) (q:List Int),(kb R i f k p q).1.length=p.length/\(kb R i f k p q).2.length<=q.length+f
 |0,k,p,q=>by simp[kb]
 |f+1,k,p,q=>by
  unfold kb;cases m9 R i k&&m9 R k i with
  |true=>obtain⟨aa,ab⟩:=P2 R i f (k+1) (p.set k true) (q++[(k:Int)]);simp only[b5];refine⟨by rw[aa];simp,?_⟩;simp only[ch,dx,fS]at ab;omega
  |false=>obtain⟨aa,ab⟩:=P2 R i f (k+1) p q;simp only[b'];exact⟨aa,by omega⟩
def kC(R:List (List Bool))(i k:Nat):Prop:=m9 R i k=true/\m9 R k i=true
def P3{R:List (List Bool)}{i n:Nat}:∀ (f k:Nat) (p:List Bool) (q:List Int),k+f=n->p.length=n->(∀ a,k<=a->a<n->kC R i a->¬ h7 p a) -> (∀ a,h7 (kb R i f k p q).1 a ↔ h7 p a\/(k<=a/\a<n/\kC R i a)) /\ (∀ x,x∈(kb R i f k p q).2 ↔ x∈q\/∃ a:Nat,x=(a:Int)/\k<=a/\a<n/\kC R i a) /\ oT (kb R i f k p q).1+(kb R i f k p q).2.length=oT p+q.length
 |0,k,p,q,ae,aC,ak=>by
  refine⟨λa=>?_,λx=>?_,rfl⟩
  ·constructor
   ·exact .inl
   ·rintro(h | ⟨aa,ab,_⟩)
    ·exact h
    ·omega
  ·constructor
   ·exact .inl
   ·rintro(h | ⟨a,_,aa,ab,_⟩)
    ·exact h
    ·omega
 |f+1,k,p,q,ae,aC,ak=>by
  unfold kb;cases hm:m9 R i k&&m9 R k i with
  |true=>
   have rK:kC R i k:=by simpa[kC]using hm
   have sQ:k<p.length:=by omega
   have aip:=ak k (ca _) (by omega) rK;obtain⟨aa,ab,aj⟩:=P3 (n:=n) f (k+1) (p.set k true) (q++[(k:Int)]) (by omega) (by simpa using aC) (λa P4 nM zQ an=>by
    rcases(Eg sQ).1 an with rfl | an;·omega
    ·exact ak a (by omega) nM zQ an)
   simp only[b5];refine⟨λa=>?_,λx=>?_,?_⟩
   ·rw[aa,Eg sQ];constructor
    ·rintro((rfl | h) | ⟨a8,ba,bQ⟩)
     ·exact .inr ⟨ca _,by omega,rK⟩
     ·exact .inl h
     ·exact .inr ⟨by omega,ba,bQ⟩
    ·rintro(h | ⟨a8,ba,bQ⟩)
     ·exact .inl (.inr h)
     ·by_cases e:a=k
      ·exact .inl (.inl e)
      ·exact .inr ⟨by omega,ba,bQ⟩
   ·rw[ab];simp only[cB,ed];constructor
    ·rintro((h | h) | ⟨a,oU,a8,ba,bQ⟩)
     ·exact .inl h
     ·exact .inr ⟨k,h,ca _,by omega,rK⟩
     ·exact .inr ⟨a,oU,by omega,ba,bQ⟩
    ·rintro(h | ⟨a,oU,a8,ba,bQ⟩)
     ·exact .inl (.inl h)
     ·by_cases e:a=k
      ·subst e;exact .inl (.inr oU)
      ·exact .inr ⟨a,oU,by omega,ba,bQ⟩
   ·have ar:=K3 p k sQ (by simpa[h7]using aip);simp only[ch,dx,fS]at aj;omega
  |false=>
   have rK:¬ kC R i k:=by intro h;rw[h.1,h.2]at hm;cases hm
   obtain⟨aa,ab,aj⟩:=P3 (n:=n) f (k+1) p q (by omega) aC (λa P4 nM zQ an=>ak a (by omega) nM zQ an);simp only[b'];refine⟨λa=>?_,λx=>?_,aj⟩
   ·rw[aa];constructor
    ·rintro(h | ⟨a8,ba,bQ⟩)
     ·exact .inl h
     ·exact .inr ⟨by omega,ba,bQ⟩
    ·rintro(h | ⟨a8,ba,bQ⟩)
     ·exact .inl h
     ·by_cases e:a=k
      ·subst e;exact(rK bQ).elim
      ·exact .inr ⟨by omega,ba,bQ⟩
   ·rw[ab];constructor
    ·rintro(h | ⟨a,oU,a8,ba,bQ⟩)
     ·exact .inl h
     ·exact .inr ⟨a,oU,by omega,ba,bQ⟩
    ·rintro(h | ⟨a,oU,a8,ba,bQ⟩)
     ·exact .inl h
     ·by_cases e:a=k
      ·subst e;exact(rK bQ).elim
      ·exact .inr ⟨a,oU,by omega,ba,bQ⟩
structure Xn(R:List (List Bool))(n:Nat):Prop where
 refl:∀ i,i<n->kC R i i
 trans:∀ i j k,kC R i j->kC R j k->kC R i k
def kC.symm{R:List (List Bool)}{i j:Nat}(h:kC R i j):kC R j i:=⟨h.2,h.1⟩
def Comes.trans{i j k:Nat}(aa:Comes L i j)(ab:Comes L j k):Comes L i k:=by
 induction ab with
 |self=>exact aa| next _ ae aL=>exact .next aL ae
def tM(cc:∀ l∈L,valid L.length l){i k:Nat}(hi:i<L.length):m9 (gK L) i k=true ↔ Comes L i k:=by
 have h:=(Hs cc hi).iff k;have e:(gK L).getD i []=qF L i:=by simp[gK,bA,hi]
 unfold m9;rw[e];exact h
def P5{i k:Nat}(h:m9 (gK L) i k=true):i<L.length:=by
 apply Kz;intro bm;have e:(gK L).getD i []=[]:=by simp[gK,bA,bm]
 unfold m9 at h;rw[e]at h;simp at h
def Xo(cc:∀ l∈L,valid L.length l):Xn (gK L) L.length:=by refine⟨λi hi=>⟨(tM cc hi).2 .self,(tM cc hi).2 .self⟩,λi j k aa ab=>?_⟩;have cC:=P5 aa.1;have dQ:=P5 aa.2;have dT:=P5 ab.2;exact⟨(tM cc cC).2 (((tM cc cC).1 aa.1).trans ((tM cc dQ).1 ab.1)),(tM cc dT).2 (((tM cc dT).1 ab.2).trans ((tM cc dQ).1 aa.2))⟩
def P6(i:Int)(n:Nat):Bool:=!decide (i<0) && !decide ((n:Int)<=i)
def aiq(cc:∀ l∈L,valid L.length l){i:Nat}(hi:i<L.length):(qF L i).length=L.length:=(Hs cc hi).len
def oV(ax:List Int)(g:cv)(i:Int):Bool:=
 bif P6 i g.n&&decide (dz ax g=0)then((im g).getD i.toNat []).any λk=>(qF (im g) k.toNat).getD i.toNat false else false
structure zR where
 rows:List n6
 a:Option Addr
 n:Nat
 c:Nat
def zR.val(x:zR):Value:=.slice x.a x.n x.c
structure zR.ok(I:aJ)(x:zR):Prop where
 a0:de I x.a x.n x.c 1 24 (x.rows.map n6.val)
 rows:∀ r∈x.rows,r.ok I
def zR.ok.mono{x:zR}(h:x.ok I)(bw:∀ b o,I b=some o->I' b=some o):x.ok I':=⟨h.a0.mono bw,λr af=>(h.rows r af).mono bw⟩
def air(a c:α)(K7 hO:List α):(a::((K7++hO)++[c])).Perm (K7++(hO++[c,a])):=by have h:=Hp a c (K7++hO);rwa [dV K7 hO [c,a]]at h
def ais(a r:α)(Q O:List α):(a::(Q++(O++[r]))).Perm (O++(Q++[r,a])):=by
 have aa:(Q++(O++[r])).Perm (O++Q++[r]):=by rw[<-dV];exact eI.append_right [r]
 have ab:=(aa.cons a).trans (Hp a r (O++Q));rwa [dV]at ab
def ait(g r b:α)(Q:List α):(g::(Q++[r,b])).Perm ([b]++(Q++[g,r])):=by have aa:(Q++[r,b]).Perm (b::(Q++[r])):=(Hp b r Q).symm;have ab:(g::(Q++[r])).Perm (Q++[g,r]):=mw.symm;exact((aa.cons g).trans (List.Perm.swap b g _)).trans (ab.cons b)
def Hw(ax:List Int)(g:cv):List (List Int):=bif decide (dz ax g=0)then mz (im g)else []
def aiu(bu:ga I ax)(au:g.ok I)(aB:g.n<=1099511627776):Spec Tryz.prog 131 [g.val] I [] λv I' M'=>(∀ b o,I b=some o->I' b=some o)/\∃ (os:aY) (a0:List lT),v=os.val/\os.ok 1 (a0.map lT.val)/\(∀ r∈a0,r.ok I')/\a0.map (·.l)=Hw ax g/\M'=os.aq 55:=by
 refine cb [] a6 Tryz.func131 rfl rfl rfl ?_;intro B az;have fT:=au.n;refine be.mk [] [] _ (.refl _) (aih bu au aB) ?_;rintro v I1 M1 -⟨cH,rfl,⟨hm,rfl⟩|⟨hm,x,rfl,ad,ij⟩⟩
 ·refine a2.mk (λ_=>?_) (λh=>by cases h);refine⟨_,_,.refl,cH,h6,[],rfl,lv 1,by simp,?_,rfl⟩;have sR:decide (dz ax g=0)=false:=by simpa using hm
  rw[Hw,sR];rfl
 ·have sR:decide (dz ax g=0)=true:=by simpa using hm
  have B8:Hw ax g=mz x.fi:=by rw[Hw,sR,ij];rfl
  rw[B8];have zS:=ad.n;have qG:x.n=g.n:=by have ab:=congrArg List.length ij;simp only[lU.fi,bI,im]at ab;omega
  have ah:∀ l∈x.fi,valid x.fi.length l:=by rw[ij];exact P1 fT
  have gX:x.fi.length=x.n:=by simp[lU.fi,zS]
  refine a2.mk (λh=>by cases h) (λ_=>?_);refine mO.mk x.n x.n rfl rfl (ca _) (by show 24*x.n<=_;omega) (by omega) ?_;refine bX.mk λb ag sB=>?_;refine di.inv (ι:=Nat×List n6×aJ) (λy=>{ bi:=[(3,.val x.val),(5,.val (.slice (some ⟨b,0,none⟩) x.n x.n)),(23,.val (.int .i64 x.n)),(24,.val (.int .i64 y.1))],cD:=y.2.2,c0:=[⟨b,.cells (y.2.1.map n6.val++List.replicate (x.n-y.1) (Value.slice none 0 0)).toArray 138 (0,0)⟩] }) (λy=>y.1<=x.n/\y.2.1.length=y.1/\(∀ b o,I1 b=some o->y.2.2 b=some o)/\y.2.2 b=none/\(∀ r∈y.2.1,r.ok y.2.2)/\y.2.1.map (·.l)=(List.range y.1).map (λi=>qF x.fi i)) (λy=>x.n-y.1) ?_ ?_;·refine⟨(0,[],I1),⟨by simp,rfl,λ_ _ h=>h,ag,by simp,rfl⟩,?_,ew,.nil⟩;show ic _ _ [⟨b,.cells (rowOf [.slice none 0 0] (x.n*1)).toArray 138 (0,0)⟩] _ _;rw[tv,e2];exact .refl
  ·rintro⟨i,a0,dI⟩⟨hi,fv,e4,gY,gj,ep⟩;simp only at hi fv e4 gY gj ep;refine a2.mk (λh=>?_) (λh=>?_)
   ·have aX:i<x.n:=by simpa using h
    refine be.y1 [] [⟨b,.cells (a0.map n6.val++List.replicate (x.n-i) (Value.slice none 0 0)).toArray 138 (0,0)⟩] _ (.refl _) (ail (ad.mono e4) (by omega) ah (i:=i) aX) ?_;rintro v h2 sA-zN⟨iH,r,rfl,af,aiv,rfl⟩;refine bd.mk ⟨b,0,none⟩ i rfl rfl aX ?_;refine b2.add [] [] _ _ rfl ?_ rfl ?_;·simp only[oC,ch,bI,sE];show 0+i*1+1<=_;omega
    refine bg.mk _ (cL (i:=i) (by omega)) ?_;refine⟨(i+1,a0++[r],h2),⟨⟨by simp only;omega,by simp[fv],λb o h=>iH _ _ (e4 _ _ h),zN _ (.head _),λrf eY=>?_,?_⟩,by simp only;omega⟩,?_,ew,.nil⟩
    ·simp only[cB,ed]at eY;rcases eY with eY | rfl
     ·exact(gj rf eY).mono iH
     ·exact af
    ·simp only;rw[cM,ep,B3,cM];simp[aiv]
    ·have B7:List.replicate (x.n-i) (Value.slice none 0 0)=.slice none 0 0::List.replicate (x.n-(i+1)) (.slice none 0 0):=by rw[show x.n-i=(x.n-(i+1))+1 from by omega,Hk]
     have e:=Xi (a9:=a0.map n6.val) (post:=List.replicate (x.n-(i+1)) (.slice none 0 0)) (z:=.slice none 0 0) (v:=r.val) (k:=0+i*1) (by simp[fv]);rw[B7];simp only[cM,b0,hy,dV,m4,iz];rw[<-e];exact .refl
   ·have cI:x.n<=i:=by simpa using h
    have fw:i=x.n:=by omega
    subst fw;have aiw:a0.map (·.l)=gK x.fi:=by rw[ep,gK,gX]
    have P7:zR.ok (ins dI b (.cells (a0.map n6.val++List.replicate (x.n-x.n) (Value.slice none 0 0)).toArray 138 (0,0))) ⟨a0,some ⟨b,0,none⟩,x.n,x.n⟩:=by refine⟨⟨by simp[fv],⟨ca _,by simp only;omega⟩,.inr ⟨_,rfl,rfl,_,_,_,mo ..,?_⟩⟩,λr af=>(gj r af).mono (hL gY)⟩;simp[fv];exact fA (by simp[fv])
    generalize aV:(⟨a0,some ⟨b,0,none⟩,x.n,x.n⟩:zR)=R at P7;have aix:R.val=.slice (some ⟨b,0,none⟩) x.n x.n:=by rw[<-aV];rfl
    have Xp:R.rows=a0:=by rw[<-aV]
    have VY:R.n=x.n:=by rw[<-aV]
    have Xq:R.a=some ⟨b,0,none⟩:=by rw[<-aV]
    generalize lr:ins dI b (.cells (a0.map n6.val++List.replicate (x.n-x.n) (Value.slice none 0 0)).toArray 138 (0,0))=dn at P7;have aiy:∀ b o,dI b=some o->dn b=some o:=by rw[<-lr];exact hL gY
    refine mO.mk x.n x.n rfl rfl (ca _) (by show 1*x.n<=_;omega) (by omega) ?_;refine bX.mk λfU Eh aiz=>?_;refine di.inv (ι:=Nat×List Bool×aY×List lT×aJ) (λy=>{ bi:=[(3,.val x.val),(5,.val R.val),(7,.val y.2.2.1.val),(8,.val (.slice (some ⟨fU,0,none⟩) x.n x.n)),(38,.val (.int .i64 x.n)),(39,.val (.int .i64 y.1))],cD:=y.2.2.2.2,c0:=y.2.2.1.aq 55++[iB fU y.2.1] }) (λy=>y.1<=x.n/\y.2.1.length=x.n/\y.2.2.1.ok 1 (y.2.2.2.1.map lT.val)/\(∀ b o,dn b=some o->y.2.2.2.2 b=some o)/\(∀ r∈y.2.2.2.1,r.ok y.2.2.2.2)/\y.2.2.2.1.length<=y.1/\mz x.fi=wm (gK x.fi) x.n (x.n-y.1) y.1 y.2.1 (y.2.2.2.1.map (·.l))) (λy=>x.n-y.1) ?_ ?_
    ·refine⟨(0,List.replicate x.n false,h6,[],dn),⟨by simp,by simp,lv 1,λ_ _ h=>h,by simp,by simp,by simp only[mz,gX];rfl⟩,?_,.cons .refl (.cons (by simp only[aix];exact .refl) (ew)),.nil⟩;have aiA:rowOf [.bool false] (x.n*1)=(List.replicate x.n false).map Value.bool:=by rw[tv,e2,xI]
     show ic _ _ [⟨fU,.cells (rowOf [.bool false] (x.n*1)).toArray 4 (0,0)⟩,_] _ _;rw[aiA];refine .perm (List.Perm.swap _ _ _) (.kN rfl (by simp) ?_);rw[lr];exact .refl
    ·rintro⟨i,p,os,ws,h2⟩⟨hi,jz,bT,iH,sI,x5,eA⟩;simp only at hi jz bT iH sI x5 eA;refine a2.mk (λh=>?_) (λh=>?_)
     ·have aX:i<x.n:=by simpa using h
      have Ei:i<p.length:=by omega
      have wo:=P7.mono iH;have K8:os.n=ws.length:=by have:=bT.len;simp at this;omega
      have oH:p.getD i false=p[i]:=by simp[bA,Ei]
      have Hx:mz x.fi=bif p.getD i false then wm (gK x.fi) x.n (x.n-(i+1)) (i+1) p (ws.map (·.l))else wm (gK x.fi) x.n (x.n-(i+1)) (i+1) (kb (gK x.fi) i (x.n-i) i p []).1 (ws.map (·.l)++[(kb (gK x.fi) i (x.n-i) i p []).2]):=by rw[eA,show x.n-i=(x.n-(i+1))+1 from by omega,wm,show(x.n-(i+1))+1=x.n-i from by omega]
      refine bd.mk ⟨fU,0,none⟩ i rfl rfl aX ?_;refine aM.mk _ (GV (by simp) Ei) ?_;refine a2.mk (λab=>?_) (λab=>?_);·rw[oH,ab]at Hx;refine bg.mk _ (cL (i:=i) (by omega)) ?_;exact⟨(i+1,p,os,ws,h2),⟨⟨by simp only;omega,jz,bT,iH,sI,by simp only;omega,Hx⟩,by simp only;omega⟩,.refl,oB,.nil⟩
      ·rw[oH,ab,b']at Hx;refine di.inv (ι:=Nat×List Bool×aY×List Int) (λz=>{ bi:=[(3,.val x.val),(5,.val R.val),(7,.val os.val),(8,.val (.slice (some ⟨fU,0,none⟩) x.n x.n)),(9,.val (.int .i64 i)),(10,.val z.2.2.1.val),(11,.val (.int .i64 z.1)),(38,.val (.int .i64 x.n)),(39,.val (.int .i64 i))],cD:=h2,c0:=z.2.2.1.aq 3++(os.aq 55++[iB fU z.2.1]) }) (λz=>z.1<=x.n/\i<=z.1/\z.2.1.length=x.n/\z.2.2.1.ok 1 (z.2.2.2.map (.int .i64 ·))/\(∀ g,z.2.2.1.a=some g->h2 g=none)/\z.2.2.2.length<=z.1/\kb (gK x.fi) i (x.n-i) i p []=kb (gK x.fi) i (x.n-z.1) z.1 z.2.1 z.2.2.2) (λz=>x.n-z.1) ?_ ?_
       ·exact⟨(i,p,h6,[]),⟨by simp only;omega,ca _,jz,lv 1,(λg h=>by cases h),dD _,rfl⟩,.refl,i',.nil⟩
       ·rintro⟨k,s,u7,q⟩⟨ae,K9,e5,qH,K',fe,P8⟩;simp only at ae K9 e5 qH K' fe P8;have auY:=qH.m7;refine a2.mk (λh=>?_) (λh=>?_)
        ·have cA:k<x.n:=by simpa using h
         have Xr:∀ {j:Nat} (ai:j<x.n),∃ (mA:j<R.rows.length),(R.rows[j]'mA).ok h2/\(R.rows[j]'mA).n=x.n/\(R.rows[j]'mA).l.length=x.n/\∀ a (a4:a<(R.rows[j]'mA).l.length),m9 (gK x.fi) j a=(R.rows[j]'mA).l[a]:=fun {j} ai=>by
          have mA:j<R.rows.length:=by rw[Xp];omega
          have bx:=wo.rows _ (br mA);have qI:(gK x.fi).getD j []=(R.rows[j]'mA).l:=by rw[<-aiw,<-Xp];simp[bA,mA]
          have ay:(R.rows[j]'mA).l.length=x.n:=by
           rw[<-qI];have:(gK x.fi).getD j []=qF x.fi j:=by simp[gK,bA,gX,ai]
           rw[this,aiq ah (by omega),gX]
          refine⟨mA,bx,by rw[<-bx.n,ay],ay,λa a4=>?_⟩;unfold m9;rw[qI];simp[bA,a4]
         obtain⟨aiB,aiC,fw,dM,aiD⟩:=Xr aX;obtain⟨Hy,aiE,e',Ej,aiF⟩:=Xr cA;have oz:∀ {j:Nat} (ai:j<R.n) (ix:j<R.rows.length),∃ aS,R.a=some aS/\∀ M,cF h2 M (aS.add (j*1)) 1 [(R.rows[j]'ix).val]:=λai ix=>wo.a0.one ai ix;obtain⟨aiG,oW,P9⟩:=oz (j:=i) (by omega) aiB;obtain⟨gk,fu,fb⟩:=oz (j:=k) (by omega) Hy;obtain⟨ci,aiH,aiI⟩:=aiC.a0.one (j:=k) (by omega) (by omega);obtain⟨aiJ,B9,aiK⟩:=aiE.a0.one (j:=i) (by omega) (by omega);have La:kb (gK x.fi) i (x.n-i) i p []=bif m9 (gK x.fi) i k&&m9 (gK x.fi) k i then kb (gK x.fi) i (x.n-(k+1)) (k+1) (s.set k true) (q++[(k:Int)])else kb (gK x.fi) i (x.n-(k+1)) (k+1) s q:=by rw[P8,show x.n-k=(x.n-(k+1))+1 from by omega,kb]
         rw[aiD k (by omega),aiF i (by omega)]at La;refine bd.mk aiG i oW rfl (by omega) ?_;refine aM.mk _ (P9 _) ?_;refine bd.mk ci k aiH rfl (by omega) ?_;refine aM.mk _ (aiI _) ?_;refine ct.mk (λgy=>?_) (λgy=>?_)
         ·refine bd.mk gk k fu rfl (by omega) ?_;refine aM.mk _ (fb _) ?_;refine bd.mk aiJ i B9 rfl (by omega) ?_;refine aM.mk _ (aiK _) ?_;refine a2.mk (λgE=>?_) (λgE=>?_)
          ·have eR:k<s.length:=by omega
           have e:=DT s k eR true;refine bd.mk ⟨fU,0,none⟩ k rfl rfl cA ?_;refine b2.add (u7.aq 3++os.aq 55) [] (s.map Value.bool).toArray 4 (by simp[iB]) ?_ rfl ?_;·simp only[oC,bI];show 0+k*1+1<=_;omega
           refine bX.mk λb9 jM u1=>?_;refine bz.GU a6 rfl (by simp) (e:=3) rfl rfl rfl u7 qH rfl (m:=1) rfl (b8:=[.int .i64 k]) (by decide) (c4 (b:=b9) (cs:=[.int .i64 k]) (k:=0) (n:=1) (T:=3) (.head _) (by simp)) rfl (Mr:=os.aq 55++[⟨fU,.cells (cm (s.map Value.bool) (0+k*1) [.bool true]).toArray 4 (0,0)⟩,⟨b9,.cells #[.int .i64 k] 3 (0,0)⟩]) (air _ _ _ _) (by simp only[maxLen];omega) (by show(u7.n+1)*8<=_;omega) ?_;intro dK c' hC K2 dF eJ eF ik;refine bg.mk _ (cL (i:=k) (by omega)) ?_;refine⟨(k+1,s.set k true,⟨some dK,u7.n+1,c',hC⟩,q++[(k:Int)]),⟨⟨by simp only;omega,by simp only;omega,by simpa using e5,?_,λg au=>by cases au;exact K2,by simp only[ch,dx,fS];omega,?_⟩,by simp only;omega⟩,?_,i',.nil⟩;·simp only;rw[cM];exact K1 qH dF eJ eF ik
           ·simp only;rw[La,gy,gE];rfl
           ·simp only[iB];rw[<-e];simp only[c8,e2];exact .sub (.cons_cons _ (List.Sublist.append_left (.cons_cons _ (fO _)) _)) .refl
          ·refine bg.mk _ (cL (i:=k) (by omega)) ?_;refine⟨(k+1,s,u7,q),⟨⟨by simp only;omega,by simp only;omega,e5,qH,K',by simp only;omega,?_⟩,by simp only;omega⟩,.refl,i',.nil⟩;simp only;rw[La,gy,gE];rfl
         ·refine bg.mk _ (cL (i:=k) (by omega)) ?_;refine⟨(k+1,s,u7,q),⟨⟨by simp only;omega,by simp only;omega,e5,qH,K',by simp only;omega,?_⟩,by simp only;omega⟩,.refl,i',.nil⟩;simp only;rw[La,gy];rfl
        ·have cI:x.n<=k:=by simpa using h
         have Hz:kb (gK x.fi) i (x.n-i) i p []=(s,q):=by rw[P8,show x.n-k=0 from by omega];rfl
         rw[Hz]at Hx;refine bX.mk λb9 jM u1=>?_;refine bz.GU a6 rfl (by simp) (e:=55) rfl rfl rfl os bT rfl (m:=1) rfl (b8:=[u7.val]) (by decide) (c4 (b:=b9) (cs:=[u7.val]) (k:=0) (n:=1) (T:=55) (.head _) (by simp)) rfl (Mr:=u7.aq 3++[iB fU s,(⟨b9,.cells #[u7.val] 55 (0,0)⟩:aD)]) (ais _ _ _ _) (by simp only[maxLen];omega) (by show(os.n+1)*24<=_;omega) ?_;intro dK c' hC K2 dF eJ eF ik;refine bg.mk _ (cL (i:=i) (by omega)) ?_;obtain⟨rB,r,h1,ku,me,iP,Hr⟩:=aY.Xb (e:=3) qH (by omega) K' [⟨dK,.cells hC.toArray 55 (0,0)⟩,iB fU s];refine⟨(i+1,s,⟨some dK,os.n+1,c',hC⟩,ws++[r],rB),⟨⟨by simp only;omega,e5,?_,λb o h=>ku _ _ (iH _ _ h),λrf eY=>?_,by simp only[ch,dx,fS];omega,?_⟩,by simp only;omega⟩,.perm (ait _ _ _ _) (.sub (l' [(⟨b9,.cells #[u7.val] 55 (0,0)⟩:aD)] _) h1),oB,.nil⟩;·simp only;rw[cM,b0,hy,<-me];exact K1 bT dF eJ eF ik
         ·simp only[cB,ed]at eY;rcases eY with eY | rfl
          ·exact(sI rf eY).mono ku
          ·exact iP
         ·simp only;rw[cM,b0,hy,Hr];exact Hx
     ·have cI:x.n<=i:=by simpa using h
      refine⟨_,_,.sub (tK _ _) .refl,λb o h=>iH _ _ (aiy _ _ (e4 _ _ (cH _ _ h))),os,ws,rfl,bT,sI,?_,rfl⟩;rw[eA,show x.n-i=0 from by omega];rfl
def rR(W:World):aJ:=λb=>W.heap[b]?
def aiL(W:World):eE (rR W) [] W:=⟨λb o h=>h,(λx ad=>by cases ad),(λx ad=>by cases ad),Du⟩
structure B'(W k0:World):Prop where
 dH:∀ b,b<W.heap.size->k0.heap[b]?=W.heap[b]?
 sz:W.heap.size<=k0.heap.size
 out:ot W k0
def aiM{f:Nat}{args:List Value}{post:Value->aJ->List aD->Prop}(h:vN P f args (rR W) [] post) :
  Calls P f args.toArray W λe k0=>∃ v,e=.returned v/\(∃ I' M',post v I' M')/\B' W k0:=by
 refine(h.2 W (aiL W)).mono ?_;rintro e k0⟨v,I',M',rfl,aC,_,dZ⟩;exact⟨v,rfl,⟨I',M',aC⟩,λb ag=>dZ.dH b ag (λy aE=>by cases aE),dZ.sz,dZ.out⟩
def B'.kept(h:B' W k0)(may:MemPlace->Prop):W.keptBut k0 may:=by
 refine⟨h.out.1,h.out.2,λi hi=>?_⟩;rw[h.dH i hi];cases W.heap[i]? with
 |none=>rfl| some o=>cases o<;>simp
def B'.frozen(h:B' W k0){a:Addr}(a4:a.block<W.heap.size):k0.frozen? a=W.frozen? a:=by unfold World.frozen?;rw[h.dH _ a4]
variable{H:Type}{enc:TypeId×Value->H}{P:Program}
def aiN{f:Func}{s:ChangeSpec}{apart fresh handsOn again:Bool}{args:Array Value}{ds gs:List (DataW H)}{before pa pv:List MemPlace}(hX:DataW.Whole enc P f.params.toList s.vars apart W args.toList ds gs before)(HA:∀ (b:Nat) (fP:Nat->Bool) (ak:Bool),DataW.TrodAll enc P k0 b fP ak f.resultTypes.toList (v.resultList f.resultTypes.size) (s.fn H (ds++gs)).results [])(na:∀ fP:Nat->Bool,(∀ p∈before,fP p.block=true)->DataW.TrodAll enc P k0 0 fP true f.params.toList args.toList (s.fn H (ds++gs)).args pa)(Xs:∀ fP:Nat->Bool,(∀ p∈before,fP p.block=true)->DataW.TrodVars enc P k0 fP s.vars (s.fn H (ds++gs)).vars pv)(Ek:before=pa++pv)(ae:B' W k0)(bx:∀ (j:Nat) (t:TypeId) (r:Value),f.resultTypes[j]?=some t->(v.resultList f.resultTypes.size)[j]?=some r->Value.okWide P k0 .any 0 t r) :
  s.post enc P f apart fresh handsOn again W args v k0:=by
 have hold:∀ p∈before,(λb=>decide (b<W.heap.size)) p.block=true:=λp aC=>by simpa using hX.lt p aC
 have aX:∀ p∈before,p.block<W.heap.size:=λp aC=>hX.lt p aC;refine⟨ds,gs,before,[],pa,pv,hX,HA _ _ _,na _ hold,Xs _ hold,World.keptBut_mono (λp aC=>⟨aC,?_⟩) (ae.kept (·∈before)),λ_=>?_⟩
 ·rw[Ek,cB]at aC;exact Or.inr aC
 ·obtain⟨_,_,_,_,_,bb,aB⟩:=hX;refine⟨bx,_,_,([]++pa)++pv,⟨[]++pa,pv,ChangeShapes.trodAll_append (na _ (λ_ _=>rfl)) (HA _ _ _),Xs _ (λ_ _=>rfl),rfl,?_,?_⟩,?_⟩
  ·intro b off aC;have El:MemPlace.cell b off∈before:=by rw[Ek];simpa using aC
   rw[ae.frozen (a:=⟨b,off,none⟩) (aX _ El)];exact bb b off El
  ·intro a4;have:=aB a4;rw[Ek]at this;simpa using this
  ·intro p aC _;rw[Ek];simpa using aC
def x6:DataW H->Option Value
 | .lit (.int k z)=>some (.int k z)| .lit (.string l)=>some (.string ⟨l.toArray⟩)| .lit (.bool b)=>some (.bool b)| _=>none
def HB(P:Program)(e:TypeId):Bool:=match P.underlying e with
 |some .bool | some (.int _) | some .string=>true| _=>false
section
variable{w:World}{cR:Nat}{fP:Nat->Bool}{held:Bool}{e3:Nat}{t e:TypeId}{cs:List Value}{d:DataW H}{p:List MemPlace}
def Xt(he:HB P e=true)(h:DataW.trod enc P w cR fP held e3 e cs=some (d,p))(ah:x6 d=some v):cs=[v]:=by
 unfold HB at he;split at he
 ·rename_i hu;obtain⟨b,rfl,ad⟩:=DataW.trod_bool hu h;cases ad;simpa[x6]using ah
 ·rename_i k hu;obtain⟨n,rfl,ad,_⟩:=DataW.trod_int hu h;cases ad;simpa[x6]using ah
 ·rename_i hu;obtain⟨s,rfl,ad,_⟩:=PP hu h;cases ad;simpa[x6]using ah
 ·cases he
def Lb{α β:Type}{f:α->Option β}:∀ {l:List α} {r:List β},l.mapM f=some r->r.length=l.length/\∀ i (h:i<l.length) (bc:i<r.length),f l[i]=some r[i]
 |[],r,h=>by simp at h;subst h;exact⟨rfl,λi h=>by simp at h⟩
 |x::l,r,h=>by
  simp only[F9,Option.bind_eq_bind,J6,Option.pure_def,jY]at h;obtain⟨b,ag,rf,eY,rfl⟩:=h;obtain⟨aa,ab⟩:=Lb eY;refine⟨by simp[aa],λi hi cZ=>?_⟩;cases i with
  |zero=>simpa using ag| succ i=>simpa using ab i (by simpa using hi) (by simpa using cZ)
def Xu{cs vs:List Value}(ay:cs.length=vs.length)(h:∀ i (hi:i<vs.length),(cs.drop i).take 1=[vs[i]]):cs=vs:=by apply mT ay;intro i aa ab;have:=h i ab;rw[eV aa,qh,rl]at this;simpa using this
def Xv{n:Nat}(av:P.underlying t=some (.array n e))(he:HB P e=true)(HC:P.cellsOf e=1)(ey:P.cellsOf t=n){ds:List (DataW H)}(h:DataW.trod enc P w cR fP held e3 t cs=some (.agg ds,p))(ah:ds.mapM x6=some vs):cs=vs:=by
 obtain⟨xs,m,rfl,ad,ay,ij,hi⟩:=PR av h;have gn:ds=xs.map (·.1):=by have:=congrArg Prod.fst ad;simpa using this
 obtain⟨a8,ba⟩:=Lb ah;have sS:vs.length=n:=by rw[a8,gn];simpa using ij
 refine Xu (by rw[ay,ey,sS]) λi cZ=>?_;have aa:=hi i (by omega);rw[HC,e2]at aa;have u9:i<xs.length:=by omega
 rw[dg u9]at aa;have ab:=ba i (by rw[gn];simpa using u9) cZ;have aj:ds[i]'(by rw[gn];simpa using u9)=xs[i].1:=by simp[gn]
 rw[aj]at ab;exact Xt he (d:=xs[i].1) (p:=xs[i].2) aa ab
def aiO(av:P.underlying t=some (.struct cQ))(aA:∀ (i:Nat) (f:Field),cQ[i]?=some f->HB P f.type=true/\f.offset=i/\P.cellsOf f.type=1)(ey:P.cellsOf t=cQ.size){ds:List (DataW H)}(h:DataW.trod enc P w cR fP held e3 t cs=some (.agg ds,p))(ah:ds.mapM x6=some vs):cs=vs:=by
 obtain⟨xs,m,rfl,ad,ay,ij,hi⟩:=DataW.trod_struct av h;have gn:ds=xs.map (·.1):=by have:=congrArg Prod.fst ad;simpa using this
 obtain⟨a8,ba⟩:=Lb ah;have sS:vs.length=cQ.size:=by rw[a8,gn];simpa using ij
 refine Xu (by rw[ay,ey,sS]) λi cZ=>?_;have Xw:i<cQ.size:=by omega
 obtain⟨eg,cy,gG⟩:=aA i cQ[i] (Oj Xw);have aa:=hi i cQ[i] (Oj Xw);rw[cy,gG]at aa;have u9:i<xs.length:=by omega
 rw[dg u9]at aa;have ab:=ba i (by rw[gn];simpa using u9) cZ;have aj:ds[i]'(by rw[gn];simpa using u9)=xs[i].1:=by simp[gn]
 rw[aj]at ab;exact Xt eg (d:=xs[i].1) (p:=xs[i].2) aa ab
def Xx{sz:Nat}:∀ (rows:List (List Value)) (cs:List Value),cs.length=rows.length*sz->(∀ i (hi:i<rows.length),(cs.drop (i*sz)).take sz=rows[i])->cs=rows.flatten
 |[],cs,ay,_=>iy (by simpa using ay)
 |r::rows,cs,ay,h=>by
  have az:=h 0 (by simp);simp only[zf,vW,uE]at az;rw[dx,lO,oD]at ay;have aL:=Xx (sz:=sz) rows (cs.drop sz) (by rw[tp];omega) λi hi=>by have:=h (i+1) (by simpa using hi);rw[Gy,show sz+i*sz=(i+1)*sz from by rw[lO];omega];simpa using this
  rw[PQ,<-aL,<-az,rG]
def aiP{n:Nat}(av:P.underlying t=some (.array n e))(HC:P.cellsOf e=sz)(ey:P.cellsOf t=n*sz){ds:List (DataW H)}(h:DataW.trod enc P w cR fP held e3 t cs=some (.agg ds,p))(af:rows.length=ds.length)
  (fw:∀ i (hi:i<ds.length) (cZ:i<rows.length) e3 cs p,DataW.trod enc P w cR fP held e3 e cs=some (ds[i],p)->cs=rows[i]):cs=rows.flatten:=by
 obtain⟨xs,m,rfl,ad,ay,ij,hi⟩:=PR av h;have gn:ds=xs.map (·.1):=by have:=congrArg Prod.fst ad;simpa using this
 have fv:rows.length=n:=by rw[af,gn];simpa using ij
 refine Xx (sz:=sz) rows cs (by rw[ay,ey,fv]) λi cZ=>?_;have aa:=hi i (by omega);rw[HC]at aa;have u9:i<xs.length:=by omega
 rw[dg u9]at aa;have aj:ds[i]'(by rw[gn];simpa using u9)=xs[i].1:=by simp[gn]
 exact fw i (by rw[gn];simpa using u9) cZ m _ xs[i].2 (by rw[aj];exact aa)
def Xy(d:DataW H):Option (List Value):=match d with
 | .agg l=>l.mapM x6| _=>none
def P'{n:Nat}(av:P.underlying t=some (.array n e))(HC:P.cellsOf e=sz)(ey:P.cellsOf t=n*sz){ds:List (DataW H)}(h:DataW.trod enc P w cR fP held e3 t cs=some (.agg ds,p))(af:ds.mapM Xy=some rows)
  (fw:∀ e3 cs p l row,DataW.trod enc P w cR fP held e3 e cs=some (.agg l,p)->l.mapM x6=some row->cs=row):cs=rows.flatten:=by
 obtain⟨a8,ba⟩:=Lb af;refine aiP av HC ey h a8 λi hi cZ e3 cs p bc=>?_;have ab:=ba i hi cZ;unfold Xy at ab;split at ab
 ·rename_i l ay;rw[ay]at bc;exact fw _ _ _ _ _ bc ab
 ·cases ab
end
end Go.V
namespace Go.V
open Go Go.Proofs
variable{I I':aJ}{M:List aD}{e size c sz e3:Nat}{ax:List Int}{g:cv}{os:aY}{xs aT vs cs:List Value}{v:Value}{α:Type}{t:TypeId}{L:List (List Int)}{z f:Bool}{X:cU}{F:Fr}{C:dC}{P:Program}{W k0:World}{cQ:Array Field}{rows:List (List Value)}{x y:Operand}{other:Prop}{c7 tx:dG}{pl:List (ByteArray×Int)}
def Lc{n:String}{g:Nat}{cs:Array Value}(au:P.globalNamed n=some g)(h:W.var? P n=some cs):∃ T al,W.heap[g]?=some (.cells cs T al):=by
 simp only[World.var?,au,Option.bind_some]at h;split at h
 ·rename_i c T al cS;cases h;exact⟨T,al,cS⟩
 ·cases h
def hP:List Int:=[0,1,56,2,57,49,28,3,61,58,42,50,38,29,17,4,62,47,59,36,45,43,51,22,53,39,33,30,24,18,12,5,63,55,48,27,60,41,37,16,46,35,44,21,52,32,23,11,54,26,40,15,34,20,31,10,25,14,19,9,13,8,7,6]
def aiQ{bj:List (String×DataW Unit)}(h:laidMet Tryz.prog ([("math/bits.deBruijn32tab",YtmncamccjfmbpaaGreatDoor.Rows.laid_math_bits_deBruijn32tab),("math/bits.deBruijn64tab",YtmncamccjfmbpaaGreatDoor.Rows.laid_math_bits_deBruijn64tab),("internal/strconv.uint64pow10",YtmncamccjfmbpaaGreatDoor.Rows.laid_internal_strconv_uint64pow10),("bonsai/tree.counts",YtmncamccjfmbpaaGreatDoor.Rows.laid_bonsai_tree_counts),("bonsai/print.counts",YtmncamccjfmbpaaGreatDoor.Rows.laid_bonsai_print_counts),("bonsai/print.signs",YtmncamccjfmbpaaGreatDoor.Rows.laid_bonsai_print_signs)]++bj) W):ga (rR W) hP:=by
 obtain⟨ps,cc,_⟩:=h;obtain⟨a8,t1,Xz,f1,BQ,dF,pI,BZ,JY,ha,cc,_⟩:=cc;obtain⟨ba,t2,HD,f2,D6,eJ,kW,sN,nw,qD,cc,_⟩:=cc;obtain⟨bQ,t3,Qa,f3,auZ,eF,rI,x7,Qb,zN,cc,_⟩:=cc;obtain⟨ft,t4,aiR,f4,p4,ik,Ed,Qc,aiS,aiT,cc,_⟩:=cc;obtain⟨lj,t5,aiU,f5,p5,au0,XA,aiV,aiW,aiX,cc,_⟩:=cc;obtain⟨Ld,t6,aiY,f6,au1,au2,HE,aiZ,ai0,ai1,cc,_⟩:=cc;obtain rfl:=fh ((show Tryz.prog.globalNamed "math/bits.deBruijn64tab" = some 3 by kernel_rfl).symm.trans kW)
 obtain rfl:=fh ((show(Tryz.prog.globals[3]?).map (·.type)=some 377 by kernel_rfl).symm.trans sN);obtain rfl:=fh ((show Tryz.prog.globalNamed "bonsai/tree.counts" = some 0 by kernel_rfl).symm.trans Ed)
 obtain rfl:=fh ((show(Tryz.prog.globals[0]?).map (·.type)=some 232 by kernel_rfl).symm.trans Qc);obtain rfl:=fh ((show Tryz.prog.globalNamed "bonsai/print.counts" = some 2 by kernel_rfl).symm.trans XA)
 obtain rfl:=fh ((show(Tryz.prog.globals[2]?).map (·.type)=some 346 by kernel_rfl).symm.trans aiV);obtain rfl:=fh ((show Tryz.prog.globalNamed "bonsai/print.signs" = some 1 by kernel_rfl).symm.trans HE)
 obtain rfl:=fh ((show(Tryz.prog.globals[1]?).map (·.type)=some 291 by kernel_rfl).symm.trans aiZ);obtain⟨BX,n7,bW⟩:=Lc kW nw;obtain⟨PF,zT,hp⟩:=Lc Ed aiS;obtain⟨ai2,ai3,eu⟩:=Lc XA aiW;obtain⟨ai4,ai5,b6⟩:=Lc HE ai0;have gE:HD.toList=hP.map (Value.int .u8):=Xv (show Tryz.prog.underlying 377=some (.array 64 5) by kernel_rfl) (by kernel_rfl) (by kernel_rfl) (by kernel_rfl) qD (by kernel_rfl);have Le:aiR.toList=lp.map (Value.int .i64):=P' (n:=10) (sz:=2) (show Tryz.prog.underlying 232=some (.array 10 231) by kernel_rfl) (by kernel_rfl) (by kernel_rfl) aiT (rows:=[[.int .i64 0,.int .i64 0],[.int .i64 0,.int .i64 0],[.int .i64 0,.int .i64 0],[.int .i64 0,.int .i64 0],[.int .i64 2,.int .i64 (-1)],[.int .i64 2,.int .i64 (-1)],[.int .i64 1,.int .i64 1],[.int .i64 1,.int .i64 1],[.int .i64 1,.int .i64 1],[.int .i64 1,.int .i64 1]]) (by kernel_rfl) (λ_ _ _ _ _ aa ab=>Xv (show Tryz.prog.underlying 231=some (.array 2 3) by kernel_rfl) (by kernel_rfl) (by kernel_rfl) (by kernel_rfl) aa ab);have fields:∀ {t:TypeId},(match Tryz.prog.underlying t with
   |some (.struct cQ)=>decide (Tryz.prog.cellsOf t=cQ.size)&&(List.range cQ.size).all λi=>match cQ[i]? with
    |some f=>HB Tryz.prog f.type&&(decide (f.offset=i)&&decide (Tryz.prog.cellsOf f.type=1))| none=>false
   |_=>false)=true->∀ (e3:Nat) (cs:List Value) (p:List MemPlace) (l:List (DataW Unit)) (row:List Value),DataW.trod (λ_=>()) Tryz.prog W 0 (λ_=>true) false e3 t cs=some (.agg l,p)->l.mapM x6=some row->cs=row:=by
  intro t an e3 cs p l row aa ab;split at an;·rename_i cQ hu;simp only[cz,hV,fy,g7]at an;refine aiO hu (λi f aA=>?_) an.1 aa ab;have hi:=an.2 i (lK.1 aA).1;rw[aA]at hi;simpa using hi
  ·cases an
 have Lf:aiU.toList=G8:=P' (n:=3) (sz:=3) (show Tryz.prog.underlying 346=some (.array 3 345) by kernel_rfl) (by kernel_rfl) (by kernel_rfl) aiX (rows:=[[.int .i64 0,.int .i64 1,.string ⟨#[63]⟩],[.int .i64 0,.int .i64 (-1),.string ⟨#[42]⟩],[.int .i64 1,.int .i64 (-1),.string ⟨#[43]⟩]]) (by kernel_rfl) (fields (by kernel_rfl));have XB:aiY.toList=uV.map λl=>Value.string (strOf l):=P' (n:=10) (sz:=3) (show Tryz.prog.underlying 291=some (.array 10 290) by kernel_rfl) (by kernel_rfl) (by kernel_rfl) ai1 (rows:=[[.string ⟨#[]⟩,.string ⟨#[]⟩,.string ⟨#[]⟩],[.string ⟨#[]⟩,.string ⟨#[]⟩,.string ⟨#[]⟩],[.string ⟨#[]⟩,.string ⟨#[]⟩,.string ⟨#[]⟩],[.string ⟨#[]⟩,.string ⟨#[]⟩,.string ⟨#[]⟩],[.string ⟨#[]⟩,.string ⟨#[32]⟩,.string ⟨#[]⟩],[.string ⟨#[]⟩,.string ⟨#[32,47,32]⟩,.string ⟨#[]⟩],[.string ⟨#[]⟩,.string ⟨#[]⟩,.string ⟨#[]⟩],[.string ⟨#[38]⟩,.string ⟨#[]⟩,.string ⟨#[]⟩],[.string ⟨#[33]⟩,.string ⟨#[]⟩,.string ⟨#[]⟩],[.string ⟨#[60]⟩,.string ⟨#[]⟩,.string ⟨#[62]⟩]]) (by kernel_rfl) (fields (by kernel_rfl));have arr:∀ {cs:Array Value} {l:List Value},cs.toList=l->cs=l.toArray:=λh=>by apply gV;simpa using h
 refine⟨⟨PF,zT,?_⟩,⟨ai2,ai3,?_⟩,⟨ai4,ai5,?_⟩,by decide,by decide,BX,n7,?_⟩
 ·rw[<-arr Le];exact hp
 ·rw[<-arr Lf];exact eu
 ·rw[<-arr XB];exact b6
 ·rw[<-arr gE];exact bW
def Em(cs:Array Value):Obj->Obj
 | .cells _ t al=>.cells cs t al| o=>o
def ai6:List Int:=(List.range 20).map λi=>(10:Int)^i
def ai7:List Int:=[0,1,28,2,29,14,24,3,30,22,20,15,25,17,4,8,31,27,13,23,21,19,16,7,26,12,18,6,11,5,10,9]
noncomputable def Qd(os:Os):World:=
 { World.holding Tryz.prog os ⟨#[],#[],[]⟩with heap:=((((((World.holding Tryz.prog os ⟨#[],#[],[]⟩).heap.modify 0 (Em (lp.map (Value.int .i64)).toArray)).modify 2 (Em G8.toArray)).modify 1 (Em (uV.map λl=>Value.string (strOf l)).toArray)).modify 3 (Em (hP.map (Value.int .u8)).toArray)).modify 5 (Em (ai6.map (Value.int .u64)).toArray)).modify 6 (Em (ai7.map (Value.int .u8)).toArray) }
def own:ownKnob Tryz.prog.godebug=none:=by kernel_rfl
def laidOut:laidOutB Tryz.prog=true:=by kernel_rfl
def XC{l:List α}{q:α->Bool}(h:l.all q=true){x:α}(ad:x∈l):q x=true:=fy.1 h x ad
def ai8{L:List (String×DataW Unit)}(cc:laidMetH Tryz.prog L W)(he:L=[("math/bits.deBruijn32tab",YtmncamccjfmbpaaGreatDoor.Rows.laid_math_bits_deBruijn32tab),("math/bits.deBruijn64tab",YtmncamccjfmbpaaGreatDoor.Rows.laid_math_bits_deBruijn64tab),("internal/strconv.uint64pow10",YtmncamccjfmbpaaGreatDoor.Rows.laid_internal_strconv_uint64pow10),("bonsai/tree.counts",YtmncamccjfmbpaaGreatDoor.Rows.laid_bonsai_tree_counts),("bonsai/print.counts",YtmncamccjfmbpaaGreatDoor.Rows.laid_bonsai_print_counts),("bonsai/print.signs",YtmncamccjfmbpaaGreatDoor.Rows.laid_bonsai_print_signs)]):ga (rR W) hP:=by
 subst he;exact aiQ (bj:=[]) cc
structure wq(I:aJ)(d:ao):Prop where
 k:0<=d.k/\d.k<256
 cx:g' d.cx
 s1:g' d.s1
 s2:g' d.s2
 c1:g' d.c1
 lo:iR d.lo
 hi:iR d.hi
 a0:de I d.dB d.aN d.dp 1 0 (d.aw.map (.int .i64 ·))
 aw:∀ x∈d.aw,iR x
 fK:d.t.size<=9223372036854775807
structure En(I:aJ)(t:bS):Prop where
 a0:de I t.a t.n t.c 9 0 (t.ns.flatMap ao.cells)
 ns:∀ d∈t.ns,wq I d
 bn:iR t.bn
structure zU(I:aJ)(d:aP):Prop where
 name:d.name.size<=9223372036854775807
 t:En I d.t
structure sT(I:aJ)(g:cv):Prop where
 a0:de I g.a g.n g.c 3 0 (g.ds.flatMap aP.cells)
 ds:∀ d∈g.ds,zU I d
def de.Eo{a:Option Addr}{n b iM:Nat}(h:de I a n c size b vs)(ag:n*iM<=140737488355328):de I a n c size iM vs:=⟨h.len,⟨h.cap.1,ag⟩,h.rd⟩
structure Qe(d:ao):Prop where
 aN:d.aN<2500
structure XD(d:aP):Prop where
 name:d.name.size<2500
 n:d.t.n<2500
 ns:∀ cd∈d.t.ns,Qe cd
structure ai9(g:cv):Prop where
 n:g.n<2500
 ds:∀ d∈g.ds,XD d
def wq.ok{d:ao}(h:wq I d)(ar:Qe d):d.ok I:=
 ⟨h.k,h.cx,h.s1,h.s2,h.c1,h.fK,h.lo,h.hi,h.a0.Eo (by have:=ar.aN;omega),h.aw⟩
def zU.ok{d:aP}(h:zU I d)(ar:XD d):d.ok I:=
 ⟨by have:=ar.name;omega,⟨h.t.a0.Eo (by have:=ar.n;omega),λcd bF=>(h.t.ns cd bF).ok (ar.ns cd bF),h.t.bn⟩⟩
def sT.ok(h:sT I g)(ar:ai9 g):g.ok I:=
 ⟨h.a0.Eo (by have:=ar.n;omega),λd ak=>(h.ds d ak).ok (ar.ds d ak)⟩
def wq.mono{d:ao}(h:wq I d)(bw:∀ b o,I b=some o->I' b=some o):wq I' d:={ h with a0:=h.a0.mono bw }
def zU.mono{d:aP}(h:zU I d)(bw:∀ b o,I b=some o->I' b=some o):zU I' d:=⟨h.name,h.t.a0.mono bw,λcd bF=>(h.t.ns cd bF).mono bw,h.t.bn⟩
def sT.mono(h:sT I g)(bw:∀ b o,I b=some o->I' b=some o):sT I' g:=⟨h.a0.mono bw,λd ak=>(h.ds d ak).mono bw⟩
def sT.n(h:sT I g):g.ds.length=g.n:=by have:=h.a0.len;rw[iQ _ 3 aP.cP]at this;omega
def En.n{t:bS}(h:En I t):t.ns.length=t.n:=by have:=h.a0.len;rw[iQ _ 9 ao.cP]at this;omega
def rS{x r:Int}(h:x=r)(af:-9223372036854775808<=r/\r<=9223372036854775807):IntKind.i64.wrap x=r:=by rw[h];exact wrap_i64 af
def aY.Ca{l:List Int}(h:os.ok 1 (l.map (.int .i64 ·)))(a':∀ x∈os.aq e,x∈M){j:Nat}(ai:j<l.length) :
  ∃ aS,(os.a.map λg=>(⟨g,0,none⟩:Addr))=some aS/\cF I M (aS.add (j*1)) 1 [.int .i64 l[j]]:=by
 obtain⟨a,n,c,aT⟩:=os;have ay:=h.m7;simp only at ay;cases a with
 |none=>have:=(h.nil rfl).1;simp only at this;omega
 |some g=>
  obtain⟨aa,ab,aj,aI⟩:=h.cap g rfl;simp only at aa ab aI;refine⟨⟨g,0,none⟩,rfl,?_⟩;rw[eP _ rfl];refine⟨rfl,_,_,_,.inr ⟨⟨g,.cells aT.toArray e (0,0)⟩,a' _ (by simp[aY.aq]),rfl,rfl⟩,?_,rfl⟩;simp only[c8,e2];have ix:j<(l.map (Value.int .i64)).length:=by simpa using ai
  have aG:(aT.take (n*1))[j]?=some (.int .i64 l[j]):=by rw[aI];simp[ai]
  rw[k7]at aG;have m6:j<n*1:=by omega
  rw[bN m6]at aG;have XE:j<aT.length:=(ia.1 aG).1;rw[eV XE,qh,rl];rw[dg XE]at aG;rw[fh aG]
section
variable{H:Type}{enc:TypeId×Value->H}{P:Program}{W:World}{cR:Nat}{fP:Nat->Bool}{held:Bool}
def XF{α:Type}{p:Nat->α->Prop}:∀ (n:Nat),(∀ i,i<n->∃ d,p i d)->∃ l:List α,l.length=n/\∀ i (h:i<l.length),p i l[i]
 |0,_=>⟨[],rfl,λi h=>by simp at h⟩
 |n+1,h=>by
  obtain⟨l,aa,ab⟩:=XF n λi hi=>h i (by omega);obtain⟨d,ak⟩:=h n (by omega);refine⟨l++[d],by simp[aa],λi hi=>?_⟩;by_cases aX:i<l.length;·rw[zL aX];exact ab i aX
  ·have e:i=l.length:=by simp at hi;omega
   subst e;simpa[aa]using ak
def Qf{f:α->List Value}(ar:0<size)(aA:∀ x,(f x).length=size)(ok:α->Prop){e:TypeId}(av:P.underlying t=some (.slice e))(an:P.cellsOf e=size)(fw:∀ e3 cs x,DataW.trod enc P W cR fP held e3 e cs=some x->∃ d,cs=f d/\ok d){x:DataW H×List MemPlace}(h:DataW.trod enc P W cR fP held e3 t cs=some x) :
  ∃ (a:Option Addr) (n c:Nat) (l:List α),cs=[.slice a n c]/\de (rR W) a n c size 0 (l.flatMap f)/\l.length=n/\(∀ d∈l,ok d)/\(a=none->c=0)/\c<=maxLen:=by
 rcases DataW.trod_slice av h with⟨rfl,_⟩ | ⟨a,len,cap,au3,bj,m,_,rfl,_,ag,ay,hm,c2,aja,_,_⟩
 ·exact⟨none,0,0,[],rfl,⟨by simp,⟨ca _,by omega⟩,.inl rfl⟩,rfl,λd ak=>by simp at ak,λ_=>rfl,by unfold maxLen;omega⟩
 have each:∀ i,i<len->∃ d,ok d/\W.cells? cR (a.add (i*size)) size=some (f d):=λi hi=>by have aa:=aja i hi;rw[an,dg (by omega)]at aa;obtain⟨cs',ab,aj⟩:=J6.1 aa;obtain⟨d,rfl,ak⟩:=fw _ _ _ aj;exact⟨d,ak,ab⟩
 obtain⟨l,gX,Ei⟩:=XF len each;refine⟨some a,len,cap,l,rfl,⟨by rw[iQ f size aA,gX],⟨ay,by omega⟩,?_⟩,gX,λd ak=>?_,λh=>by simp at h,hm⟩
 ·by_cases az:len=0
  ·exact .inl az
  right
  have tN:=(Ei 0 (by omega)).2;obtain⟨-,-,HF⟩:=World.cells?_some tN;have XG:=HF 0 ar;rw[dg (by rw[aA];exact ar)]at XG;have XH:a.spot=none:=by
   have:=World.cell?_spot XG;cases dL:a.spot with
   |none=>rfl| some s=>simp[Addr.add,dL]at this
  refine⟨a,rfl,XH,?_⟩;have XI:∀ i (hi:i<l.length),∀ k,k<size->W.cell? ⟨a.block,a.off+(i*size+k),none⟩=(f l[i])[k]?:=λi hi k ae=>by obtain⟨-,-,cS⟩:=World.cells?_some (Ei i hi).2;have:=cS k ae;rw[eP _ XH,eP _ rfl]at this;rw[<-this];congr 2;simp only[];omega
  have ajb:∃ cs T al,W.heap[a.block]?=some (.cells cs T al):=by
   have aa:=XI 0 (by omega) 0 ar;rw[dg (by rw[aA];exact ar)]at aa;unfold World.cell? at aa;cases cS:W.heap[a.block]? with
   |none=>simp[cS]at aa
   |some o=>
    cases o with
    |cells cs T al=>exact⟨cs,T,al,rfl⟩| _=>simp[cS]at aa
  obtain⟨cs,T,al,cS⟩:=ajb;refine⟨cs,T,al,cS,?_⟩;have m8:=iQ f size aA l;apply zw;intro j;by_cases ai:j<len*size
  ·have hdiv:j/size<l.length:=by rw[gX];exact Nat.div_lt_of_lt_mul (by rw[Nat.mul_comm];exact ai)
   have Lg:=Nat.mod_lt j ar;have e:=Nat.div_add_mod j size;rw[Nat.mul_comm]at e;have aa:=XI (j/size) hdiv (j%size) Lg;rw[e]at aa;have ab:=DS f size aA l (j/size) hdiv;have aj:(l.flatMap f)[j]?=(f l[j/size])[j%size]?:=by rw[<-ab,k7,bN Lg,nX,e]
   rw[aj,<-aa,k7,bN ai,nX];simp[World.cell?,cS]
  ·rw[rk (by rw[hx];omega),rk (by rw[m8,gX];omega)]
 ·obtain⟨i,hi,rfl⟩:=ka ak;exact(Ei i hi).1
def Ep{k:IntKind}{x:DataW H×List MemPlace}(av:P.underlying t=some (.int k))(h:DataW.trod enc P W cR fP held e3 t cs=some x):∃ n,cs=[.int k n]/\(Lit.int k n).wf=true:=by obtain⟨n,aa,_,ab⟩:=DataW.trod_int av h;exact⟨n,aa,ab⟩
def wf_i64{n:Int}(h:(Lit.int .i64 n).wf=true):iR n:=by simp[Lit.wf,IntKind.min,IntKind.max,IntKind.signed,IntKind.bits]at h;exact h
def wf_u64{n:Int}(h:(Lit.int .u64 n).wf=true):g' n:=by simp[Lit.wf,IntKind.min,IntKind.max,IntKind.signed,IntKind.bits]at h;unfold g';omega
def wf_u8{n:Int}(h:(Lit.int .u8 n).wf=true):0<=n/\n<256:=by simp[Lit.wf,IntKind.min,IntKind.max,IntKind.signed,IntKind.bits]at h;omega
end
section
variable{H:Type}{enc:TypeId×Value->H}{W:World}{cR:Nat}{fP:Nat->Bool}{held:Bool}
def ajc{x:DataW H×List MemPlace}(h:DataW.trod enc Tryz.prog W cR fP held e3 55 cs=some x) :
  ∃ (a:Option Addr) (n c:Nat) (l:List Int),cs=[.slice a n c]/\de (rR W) a n c 1 0 (l.map (.int .i64 ·))/\l.length=n/\∀ k∈l,iR k:=by
 obtain⟨a,n,c,l,aa,ab,aj,aI,-,-⟩:=Qf (f:=λk=>[Value.int .i64 k]) (size:=1) (by decide) (λ_=>rfl) iR (show Tryz.prog.underlying 55=some (.slice 3) by kernel_rfl) (by kernel_rfl)
  (λe3 cs x h=>by
   obtain⟨n,aa,ab⟩:=Ep (show Tryz.prog.underlying 3=some (.int .i64) by kernel_rfl) h;exact⟨n,aa,wf_i64 ab⟩) h
 refine⟨a,n,c,l,aa,?_,aj,aI⟩;rwa [<-List.map_eq_flatMap]at ab
def ajd{l:List α}(h:l.length=4):∃ a b c d,l=[a,b,c,d]:=by
 match l,h with
 |[a,b,c,d],_=>exact⟨a,b,c,d,rfl⟩
def aje{l:List α}(h:l.length=9):∃ a b c d e f g i j,l=[a,b,c,d,e,f,g,i,j]:=by
 match l,h with
 |[a,b,c,d,e,f,g,i,j],_=>exact⟨a,b,c,d,e,f,g,i,j,rfl⟩
def ajf{l:List α}(h:l.length=3):∃ a b c,l=[a,b,c]:=by
 match l,h with
 |[a,b,c],_=>exact⟨a,b,c,rfl⟩
def ajg{l:List α}(h:l.length=2):∃ a b,l=[a,b]:=by
 match l,h with
 |[a,b],_=>exact⟨a,b,rfl⟩
def ajh{l:List α}(h:l.length=1):∃ a,l=[a]:=by
 match l,h with
 |[a],_=>exact⟨a,rfl⟩
def aji{x:DataW H×List MemPlace}(h:DataW.trod enc Tryz.prog W cR fP held e3 64 cs=some x) :
  ∃ a b c d:Int,cs=[.int .u64 a,.int .u64 b,.int .u64 c,.int .u64 d]/\g' a/\g' b/\g' c/\g' d:=by
 obtain⟨xs,m,_,_,ay,ij,hi⟩:=PR (show Tryz.prog.underlying 64=some (.array 4 62) by kernel_rfl) h;rw[show Tryz.prog.cellsOf 64=4 by kernel_rfl]at ay;rw[show Tryz.prog.cellsOf 62=1 by kernel_rfl]at hi;have hu:Tryz.prog.underlying 62=some (.int .u64):=by kernel_rfl
 obtain⟨a,b,c,d,rfl⟩:=ajd ay;have get:∀ i,(kp:i<4)->∃ n,(([a,b,c,d]:List Value).drop (i*1)).take 1=[.int .u64 n]/\g' n:=λi kp=>by have aa:=hi i kp;rw[dg (by omega)]at aa;obtain⟨n,ab,aj⟩:=Ep hu aa;exact⟨n,ab,wf_u64 aj⟩
 obtain⟨n0,db,HG⟩:=get 0 (by decide);obtain⟨kX,aG,eg⟩:=get 1 (by decide);obtain⟨iE,a7,cy⟩:=get 2 (by decide);obtain⟨Lh,cn,gG⟩:=get 3 (by decide);simp at db aG a7 cn;subst db aG a7 cn;exact⟨_,_,_,_,rfl,HG,eg,cy,gG⟩
def HH{t:Nat}{l:List (Nat×Nat)}(h:(match P.underlying t with
  |some (.struct cQ)=>decide (cQ.toList.map (λf=>(f.type,f.offset))=l)| _=>false)=true):∃ cQ,P.underlying t=some (.struct cQ)/\cQ.toList.map (λf=>(f.type,f.offset))=l:=by
 split at h
 ·rename_i cQ hu;exact⟨cQ,hu,dw h⟩
 ·cases h
def Li{P:Program}{l:List (Nat×Nat)}{q:Nat->Nat->Prop}(aA:cQ.toList.map (λf=>(f.type,f.offset))=l)(h:∀ (i:Nat) (f:Field),cQ[i]?=some f->q f.type f.offset):∀ (i t o:Nat),l[i]?=some (t,o)->q t o:=by subst aA;intro i t o hi;simp only[jH,sk,KV]at hi;obtain⟨f,aa,rfl,rfl⟩:=hi;exact h i f (by simpa using aa)
def Lj{x:DataW H×List MemPlace}(av:P.underlying t=some (.struct cQ))(h:DataW.trod enc P W cR fP held e3 t cs=some x) :
  cs.length=P.cellsOf t/\∀ (i:Nat) (f:Field),cQ[i]?=some f->∃ e3 y,DataW.trod enc P W cR fP held e3 f.type ((cs.drop f.offset).take (P.cellsOf f.type))=some y:=by
 obtain⟨xs,m,_,_,ay,ij,hi⟩:=DataW.trod_struct av h;refine⟨ay,λi f aA=>?_⟩;have aX:=(lK.1 aA).1;have aa:=hi i f aA;rw[dg (by omega)]at aa;exact⟨_,_,aa⟩
def ajj{x:DataW H×List MemPlace}(h:DataW.trod enc Tryz.prog W cR fP held e3 66 cs=some x):∃ d:ao,cs=d.cells/\wq (rR W) d:=by obtain⟨cQ,av,aA⟩:∃ cQ,Tryz.prog.underlying 66=some (.struct cQ)/\cQ.toList.map (λf=>(f.type,f.offset))=[(5,0),(64,1),(9,5),(3,6),(3,7),(55,8)]:=HH (by kernel_rfl);obtain⟨ay,hi⟩:=Lj av h;have hi:∀ (i t o:Nat),[(5,0),(64,1),(9,5),(3,6),(3,7),(55,8)][i]?=some (t,o)->∃ e3 y,DataW.trod enc Tryz.prog W cR fP held e3 t ((cs.drop o).take (Tryz.prog.cellsOf t))=some y:=Li (P:=Tryz.prog) aA hi;rw[show Tryz.prog.cellsOf 66=9 by kernel_rfl]at ay;obtain⟨tN,gy,gE,qC,Le,Lf,XB,au4,au5,rfl⟩:=aje ay;obtain⟨_,_,az⟩:=hi 0 _ _ rfl;obtain⟨_,_,aa⟩:=hi 1 _ _ rfl;obtain⟨_,_,ab⟩:=hi 2 _ _ rfl;obtain⟨_,_,aj⟩:=hi 3 _ _ rfl;obtain⟨_,_,aI⟩:=hi 4 _ _ rfl;obtain⟨_,_,bB⟩:=hi 5 _ _ rfl;rw[show Tryz.prog.cellsOf 5=1 by kernel_rfl]at az;rw[show Tryz.prog.cellsOf 64=4 by kernel_rfl]at aa;rw[show Tryz.prog.cellsOf 9=1 by kernel_rfl]at ab;rw[show Tryz.prog.cellsOf 3=1 by kernel_rfl]at aj aI;rw[show Tryz.prog.cellsOf 55=1 by kernel_rfl]at bB;obtain⟨k,db,ajk⟩:=Ep (show Tryz.prog.underlying 5=some (.int .u8) by kernel_rfl) az;obtain⟨a,b,c,d,aG,h1,ku,me,iP⟩:=aji aa;obtain⟨s,a7,-,ws⟩:=PP (show Tryz.prog.underlying 9=some .string by kernel_rfl) ab;obtain⟨lo,cn,wl⟩:=Ep (show Tryz.prog.underlying 3=some (.int .i64) by kernel_rfl) aj;obtain⟨cZ,dr,wh⟩:=Ep (show Tryz.prog.underlying 3=some (.int .i64) by kernel_rfl) aI;obtain⟨dB,aN,dp,aw,lq,ep,e',we⟩:=ajc bB;simp at db aG a7 cn dr lq;obtain⟨Qg,Qh,ajl,ajm⟩:=aG;subst db Qg Qh ajl ajm a7 cn dr lq;exact⟨⟨k,a,b,c,d,s,lo,cZ,dB,aN,dp,aw⟩,rfl,wf_u8 ajk,h1,ku,me,iP,wf_i64 wl,wf_i64 wh,ep,we,by unfold maxLen at ws;omega⟩
def ajn{x:DataW H×List MemPlace}(h:DataW.trod enc Tryz.prog W cR fP held e3 31 cs=some x):∃ t:bS,cs=t.cells/\En (rR W) t:=by obtain⟨cQ,av,aA⟩:∃ cQ,Tryz.prog.underlying 31=some (.struct cQ)/\cQ.toList.map (λf=>(f.type,f.offset))=[(29,0),(3,1)]:=HH (by kernel_rfl);obtain⟨ay,hi⟩:=Lj av h;have hi:∀ (i t o:Nat),[(29,0),(3,1)][i]?=some (t,o)->∃ e3 y,DataW.trod enc Tryz.prog W cR fP held e3 t ((cs.drop o).take (Tryz.prog.cellsOf t))=some y:=Li (P:=Tryz.prog) aA hi;rw[show Tryz.prog.cellsOf 31=2 by kernel_rfl]at ay;obtain⟨tN,gy,rfl⟩:=ajg ay;obtain⟨_,_,az⟩:=hi 0 _ _ rfl;obtain⟨_,_,aa⟩:=hi 1 _ _ rfl;rw[show Tryz.prog.cellsOf 29=1 by kernel_rfl]at az;rw[show Tryz.prog.cellsOf 3=1 by kernel_rfl]at aa;obtain⟨a,n,c,l,db,ep,aB,bx,-,-⟩:=Qf (f:=ao.cells) (size:=9) (by decide) ao.cP (wq (rR W)) (show Tryz.prog.underlying 29=some (.slice 66) by kernel_rfl) (by kernel_rfl) (λe3 cs x h=>ajj h) az;obtain⟨r,aG,wr⟩:=Ep (show Tryz.prog.underlying 3=some (.int .i64) by kernel_rfl) aa;simp at db aG;subst db aG;exact⟨⟨l,a,n,c,r⟩,rfl,ep,bx,wf_i64 wr⟩
def ajo{x:DataW H×List MemPlace}(h:DataW.trod enc Tryz.prog W cR fP held e3 35 cs=some x):∃ d:aP,cs=d.cells/\zU (rR W) d:=by obtain⟨cQ,av,aA⟩:∃ cQ,Tryz.prog.underlying 35=some (.struct cQ)/\cQ.toList.map (λf=>(f.type,f.offset))=[(9,0),(31,1)]:=HH (by kernel_rfl);obtain⟨ay,hi⟩:=Lj av h;have hi:∀ (i t o:Nat),[(9,0),(31,1)][i]?=some (t,o)->∃ e3 y,DataW.trod enc Tryz.prog W cR fP held e3 t ((cs.drop o).take (Tryz.prog.cellsOf t))=some y:=Li (P:=Tryz.prog) aA hi;rw[show Tryz.prog.cellsOf 35=3 by kernel_rfl]at ay;obtain⟨tN,gy,gE,rfl⟩:=ajf ay;obtain⟨_,_,az⟩:=hi 0 _ _ rfl;obtain⟨_,_,aa⟩:=hi 1 _ _ rfl;rw[show Tryz.prog.cellsOf 9=1 by kernel_rfl]at az;rw[show Tryz.prog.cellsOf 31=2 by kernel_rfl]at aa;obtain⟨s,db,-,ws⟩:=PP (show Tryz.prog.underlying 9=some .string by kernel_rfl) az;obtain⟨t,aG,av⟩:=ajn aa;simp[bS.cells]at db aG;obtain⟨Qg,Qh⟩:=aG;subst db Qg Qh;exact⟨⟨s,t⟩,rfl,by unfold maxLen at ws;exact ws,av⟩
def ajp{x:DataW H×List MemPlace}(h:DataW.trod enc Tryz.prog W cR fP held e3 24 cs=some x):∃ g:cv,cs=[.slice g.a g.n g.c]/\sT (rR W) g:=by obtain⟨cQ,av,aA⟩:∃ cQ,Tryz.prog.underlying 24=some (.struct cQ)/\cQ.toList.map (λf=>(f.type,f.offset))=[(22,0)]:=HH (by kernel_rfl);obtain⟨ay,hi⟩:=Lj av h;have hi:∀ (i t o:Nat),[(22,0)][i]?=some (t,o)->∃ e3 y,DataW.trod enc Tryz.prog W cR fP held e3 t ((cs.drop o).take (Tryz.prog.cellsOf t))=some y:=Li (P:=Tryz.prog) aA hi;rw[show Tryz.prog.cellsOf 24=1 by kernel_rfl]at ay;obtain⟨tN,rfl⟩:=ajh ay;obtain⟨_,_,az⟩:=hi 0 _ _ rfl;rw[show Tryz.prog.cellsOf 22=1 by kernel_rfl]at az;obtain⟨a,n,c,l,db,ep,aB,bx,-,-⟩:=Qf (f:=aP.cells) (size:=3) (by decide) aP.cP (zU (rR W)) (show Tryz.prog.underlying 22=some (.slice 35) by kernel_rfl) (by kernel_rfl) (λe3 cs x h=>ajo h) az;exact⟨⟨l,a,n,c⟩,db,ep,bx⟩
def ajq{w:World}{r:Reach}{cR t:Nat}(av:P.underlying t=some (.struct cQ))(h:Value.okWide P w r cR t v):∃ cs,v=.agg cs:=by obtain⟨cs,aa,-⟩:=Go.WideShapes.okWide_struct av h;exact⟨cs,aa⟩
def ajr{W:World}{cR:Nat}{d:DataW H}{p:List MemPlace}(h:DataW.Trod enc Tryz.prog W 0 (λ_=>true) true 24 v d p)(ah:Value.okWide Tryz.prog W .any cR 24 v):∃ g:cv,v=g.val/\sT (rR W) g:=by obtain⟨cQ,av,-⟩:=HH (P:=Tryz.prog) (t:=24) (l:=[(22,0)]) (by kernel_rfl);obtain⟨cs,rfl⟩:=ajq av ah;obtain⟨e3,aA⟩:=h;obtain⟨g,e,au⟩:=ajp aA;refine⟨g,?_,au⟩;have cX:cs.toList=[.slice g.a g.n g.c]:=e;cases cs;simp only at cX;subst cX;rfl
end
def XJ{H:Type}{enc:TypeId×Value->H}{P:Program}(ay:laidOutB P=true){W k0:World}(ae:B' W k0):∀ {fK:List TypeId} {vs:List Value} {ds:List (DataW H)} {ps:List MemPlace},(∀ t∈fK,P.readableRec t=true/\t<P.types.size) -> DataW.TrodAll enc P W 0 (λ_=>true) true fK vs ds ps->(∀ p∈ps,p.block<W.heap.size)->∀ fP:Nat->Bool,(∀ p∈ps,fP p.block=true)->DataW.TrodAll enc P k0 0 fP true fK vs ds ps
 |[],[],[],_,_,h,_,_,_=>h
 |t::fK,v::vs,d::ds,_,av,⟨p,q,aa,ab,e⟩,aX,fP,ar=>by
  subst e;refine⟨p,q,?_,?_,rfl⟩
  ·refine Go.WideElems.Trod_stays ay (av t (.head _)).1 (av t (.head _)).2 aa (λx ad=>?_) (λx ad=>ar x (cB.2 (.inl ad)));have cj:=aX x (cB.2 (.inl ad));cases x with
   |cell b o=>exact World.cell?_of_block (w:=W) (ae.dH b cj)| map b=>exact ae.dH b cj
  ·exact XJ ay ae (λt h=>av t (.tail _ h)) ab (λx ad=>aX x (cB.2 (.inr ad))) fP (λx ad=>ar x (cB.2 (.inr ad)))
def ajs:mapsRowed Tryz.prog=true:=by kernel_rfl
def ajt:Tryz.prog.stopsHeard=true:=by kernel_rfl
def aju:Tryz.prog.mayEnter=true:=by kernel_rfl
def Qi:g' 0:=⟨by decide,by decide⟩
def i0:iR 0:=⟨by decide,by decide⟩
def Lk(k:Int)(s:ByteArray):ao:=⟨k,0,0,0,0,s,0,0,none,0,0,[]⟩
def Ll(d:ao):Bool:=decide (d.t=⟨#[]⟩)&&(decide (d.lo=0)&&decide (d.hi=0))
def ajv(d:ao)(n:Int):Bool:=
 bif decide (d.k=0)then Ll d&&decide (n=0)else
 bif decide (d.k=1)then Ll d&&decide (n=0)else
 bif decide (d.k=2)then decide (d.lo=0)&&(decide (d.hi=0)&&(decide (n=0)&&(decide ((1:Int)<=d.t.size)&&decide ((d.t.size:Int)<=255))))else
 bif decide (d.k=3)then decide (d.lo=0)&&(decide (d.hi=0)&&(decide (n=0)&&nD d.t))else
 bif decide (d.k=4)||decide (d.k=5)then Ll d&&decide (2<=n)else
 bif decide (d.k=6)then decide (d.t=⟨#[]⟩)&&(decide (n=1)&&(decide (0<=d.lo)&&(decide (d.lo<=99)&&(decide (d.hi=-1)||(decide (d.lo<=d.hi)&&decide (d.hi<=99))))))else
 bif decide (d.k=7)||decide (d.k=8)then Ll d&&decide (n=1)else
 bif decide (d.k=9)then decide (d.lo=0)&&(decide (d.hi=0)&&(decide (n=1)&&nD d.t))else false
def Qj{bn:Int}:∀ {s:List Bool} {i j:Nat},j<s.length->(s.getD j false == decide (((i+j:Nat):Int)=bn))=true->rD bn i s=false
 |b::s,i,0,_,h=>by unfold rD;rw[show(b == decide ((i:Int)=bn))=true by simpa using h];rfl
 |b::s,i,j+1,ai,h=>by
  unfold rD;cases b == decide ((i:Int)=bn)with
  |true=>rfl| false=>simp only[b'];refine Qj (j:=j) (by simpa using ai) ?_;rw[show i+1+j=i+(j+1) by omega];simpa using h
def XK{bn:Int}:∀ {s:List Bool} {i:Nat},(∀ j,j<s.length->(s.getD j false == decide (((i+j:Nat):Int)=bn))=false)->rD bn i s=true
 |[],i,h=>rfl| b::s,i,h=>by unfold rD;have az:=h 0 (by simp);rw[show(b == decide ((i:Int)=bn))=false by simpa using az];simp only[b'];refine XK λj ai=>?_;have:=h (j+1) (by simpa using ai);rw[show i+1+j=i+(j+1) by omega];simpa using this
structure XL(I:aJ)(a:Option Addr)(c:Nat)(k:Int)(s:ByteArray):Prop where
 a0:de I a 1 c 9 96 (Lk k s).cells
def XL.rd{a:Option Addr}{k:Int}{s:ByteArray}(h:XL I a c k s):∃ aS,a=some aS/\∀ M,cF I M (aS.add (0*9)) 9 (Lk k s).cells:=by have:=de.row (f:=ao.cells) (l:=[Lk k s]) ao.cP (size:=9) (j:=0) (by simpa using h.a0) (by decide) (ca 1);simpa using this
def bz.cd{o:Oper}{K:gi}(h:bz X o F C I M (λF C I M=>(M.map (·.num)).Nodup->(∀ x∈M,I x.num=none)->K F C I M)):bz X o F C I M K:=
 ⟨λa w Q aV=>te (λbO w'=>λ⟨dm,C',I',M',⟨β,af⟩,ae⟩=>⟨dm,C',I',M',⟨β,af⟩,ae af.holds.cd af.holds.d⟩) (h.1 a w Q aV)⟩
def aY.zV{foot:List Nat}{b:Nat}(h:os.ok size xs)(ag:os.n*b<=140737488355328)(bw:∀ g,os.a=some g->I g=none/\g ∉ foot)(Mr:List aD) :
  ∃ I',(∀ dI dq,ic foot I' Mr dI dq->ic foot I (os.aq e++Mr) dI dq)/\(∀ b o,I b=some o->I' b=some o)/\de I' (os.a.map λg=>⟨g,0,none⟩) os.n os.c size b xs/\(∀ g,os.a≠some g->I' g=I g):=by
 obtain⟨a,n,c,aT⟩:=os;cases a with
 |none=>obtain⟨aa,ab⟩:=h.nil rfl;simp only at aa ab;subst aa;subst ab;exact⟨I,λ_ _ k=>k,λ_ _ h=>h,⟨h.len,⟨ca _,by simp⟩,.inl rfl⟩,λ_ _=>rfl⟩
 |some g=>obtain⟨aa,ab,aj,aI⟩:=h.cap g rfl;obtain⟨au,ajw⟩:=bw g rfl;refine⟨ins I g (.cells aT.toArray e (0,0)),λ_ _ k=>.kN rfl ajw k,hL au,⟨h.len,⟨ab,ag⟩,.inr ⟨⟨g,0,none⟩,rfl,rfl,_,_,_,mo ..,by simpa using aI⟩⟩,λdK kq=>?_⟩;have:dK≠g:=λe=>kq (by rw[e]);unfold ins;simp only[hs this,b']
def XM{ys:List Value}(bT:os.ok size xs){g:Nat}(aE:ys.length=size)(aa:aT.length=c*size)(ab:os.n+1<=c)(aj:c<=maxLen)(aI:aT.take ((os.n+1)*size)=xs++ys) :
  aY.ok ⟨some g,os.n+1,c,aT⟩ size (xs++ys):=by
 have ay:=bT.len;refine⟨?_,(λh=>by cases h),λbQ rI=>⟨aa,ab,aj,aI⟩⟩;rw[ch,ay,aE];simp only;rw[lO,oD]
abbrev Lm:=bS×Int×ByteArray
def Lm.cd(x:Lm):ao:=Lk x.2.1 x.2.2
structure Lm.ok(I:aJ)(x:Lm):Prop where
 t:x.1.ok I
 ns:x.1.ns=[x.cd]
 bn:x.1.bn=0
 fits:ajv x.cd 0=true
def nb(ns:List ao):Int->Nat:=ml 0 (λd g=>1+g2 g d.aw) ns
def HI{t:bS}(af:right t=true){j:Nat}(ai:j<t.ns.length):nb t.ns j=1+g2 (nb t.ns) t.ns[j].aw:=
 D2 (λd g dK h=>by rw[WV h]) af ai
def ajx{t:bS}(af:right t=true):nb t.ns t.bn<=t.ns.length:=by
 have:=Pn af (g:=nb t.ns) (c:=λ_=>1) λj ai=>by rw[HI af ai];exact ca _
 rwa [KN,oD]at this
def XN{i:Nat}:∀ {ks:List Int} {s b3:List Bool},kU i ks s=some b3->∀ j,b3.getD j false=true->s.getD j false=true\/((j:Int)∈ks/\j<i)
 |[],s,b3,h,j,ai=>by simp only[kU,jY]at h;subst h;exact .inl ai
 |k::ks,s,b3,h,j,ai=>by
  unfold kU at h;cases ag:decide (k<0)||(decide ((i:Int)<=k)||s.getD k.toNat false)with
  |true=>rw[ag]at h;cases h
  |false=>
   rw[ag]at h;simp only[b']at h;simp only[sF,ss]at ag;rcases XN h j ai with aa | aa
   ·by_cases e:k.toNat=j
    ·right
     refine⟨?_,by omega⟩;have:(j:Int)=k:=by omega
     rw[this];exact .head _
    ·left
     simp only[bA,ih]at aa |-;rwa [bR e]at aa
   ·exact .inr ⟨.tail _ aa.1,aa.2⟩
def XO:∀ {ds:List ao} {i:Nat} {s b3:List Bool},jw i ds s=some b3->∀ j,b3.getD j false=true->s.getD j false=true\/∃ q,∃ h:q<ds.length,(j:Int)∈ds[q].aw/\j<i+q
 |[],i,s,b3,h,j,ai=>by simp only[jw,jY]at h;subst h;exact .inl ai
 |d::ds,i,s,b3,h,j,ai=>by
  unfold jw at h;cases aA:fits d d.aw.length with
  |false=>rw[aA]at h;cases h
  |true=>
   rw[aA]at h;simp only[b5]at h;split at h
   ·rename_i s1 fq;rcases XO h j ai with aa | ⟨q,aR,aa,ab⟩
    ·rcases XN fq j aa with aj | ⟨aj,aI⟩
     ·exact .inl aj
     ·exact .inr ⟨0,by simp,aj,by omega⟩
    ·exact .inr ⟨q+1,by simpa using aR,by simpa using aa,by omega⟩
   ·cases h
def XP{t:bS}(af:right t=true){j:Nat}(ai:j<t.ns.length)(bt:(j:Int)≠t.bn):∃ p,∃ h:p<t.ns.length,(j:Int)∈t.ns[p].aw/\j<p:=by
 unfold right at af;simp only[cz]at af;obtain⟨_,_,af⟩:=af;split at af
 ·rename_i s ar;have e5:=(Pm (g:=λ_=>0) (c:=λ_=>0) ar (by simp) (λj ai=>by simp)).1;have hm:s.getD j false=true:=by
   cases ag:s.getD j false with
   |true=>rfl| false=>have:=Qj (bn:=t.bn) (s:=s) (i:=0) (j:=j) (by rw[e5];simpa using ai) (by rw[ag,c8];simp[bt]);rw[this]at af;cases af
  rcases XO ar j hm with aa | ⟨q,aR,aa,ab⟩;·simp[bA,ai]at aa
  ·exact⟨q,aR,aa,by omega⟩
 ·cases af
def XQ{g:Int->Nat}:∀ {ks:List Int} {k:Int},k∈ks->g k<=g2 g ks
 |a::ks,k,h=>by
  simp only[g2,b0,h4];rcases ec.1 h with rfl | h;·omega
  ·have:=XQ (g:=g) h;simp only[g2]at this;omega
def Qk{t:bS}(af:right t=true):∀ (m j:Nat),j<t.ns.length->t.ns.length-j<=m->nb t.ns j<=t.ns.length
 |0,j,ai,hm=>by omega
 |m+1,j,ai,hm=>by
  by_cases e:(j:Int)=t.bn;·rw[e];exact ajx af
  ·obtain⟨p,aC,ae,aX⟩:=XP af ai e;have aa:=Qk af m p aC (by omega);rw[HI af aC]at aa;have:=XQ (g:=nb t.ns) ae;omega
def HJ(g:Int->Nat)(a b:List Int):g2 g (a++b)=g2 g a+g2 g b:=by simp[g2]
def Ql{t:bS}(af:right t=true):∀ {l:List Int},valid t.ns.length l->l.length<=g2 (nb t.ns) l
 |[],_=>by simp
 |a::l,ah=>by have aa:=Ql af (l:=l) λk ae=>ah k (.tail _ ae);have ab:=ah a (.head _);obtain⟨a,rfl⟩:=eH ab.1;have aj:=HI af (j:=a) (by omega);simp only[g2,b0,h4,dx]at aa |-;have aI:nb t.ns (Int.ofNat a)=nb t.ns a:=rfl;omega
def tO(ns:List ao):Nat->List Int->List Int->List Int
 |0,_,b=>b
 |f+1,todo,b=>match todo.getLast? with
  |none=>b| some n=>tO ns f (todo.dropLast++(nodeAt ns n.toNat).aw) (b++[n])
def zW(ns:List ao)(node:Int):List Int:=tO ns (ns.length+1) [node] []
def XR(ns:List ao)(f:Nat)(b:List Int):tO ns f [] b=b:=by cases f<;>rfl
def XS(ns:List ao)(f:Nat)(todo:List Int)(n:Int)(b:List Int):tO ns (f+1) (todo++[n]) b=tO ns f (todo++(nodeAt ns n.toNat).aw) (b++[n]):=by rw[tO];simp only[PN,PO]
def ao.a1(d:ao):ao:=⟨d.k,d.cx,d.s1,d.s2,d.c1,d.t,d.lo,d.hi,none,0,0,d.aw⟩
def ao.eB(d:ao)(l:List Int):ao:=⟨d.k,d.cx,d.s1,d.s2,d.c1,d.t,d.lo,d.hi,none,0,0,l⟩
def Cb(ns:List ao)(aZ:List Int×List ao)(b:Int):List Int×List ao:=
 (aZ.1.set b.toNat aZ.2.length,aZ.2++[(nodeAt ns b.toNat).eB ((nodeAt ns b.toNat).aw.map λk=>(aZ.1.set b.toNat aZ.2.length).getD k.toNat 0)])
def rT(ns:List ao)(node:Int):List ao:=((zW ns node).reverse.foldl (Cb ns) (List.replicate ns.length 0,[])).2
def aY.pop{x:Value}(h:os.ok 1 (xs++[x])):aY.ok ⟨os.a,os.n-1,os.c,os.aT⟩ 1 xs:=by
 have ay:=h.len;simp only[ch,dx,fS,e2]at ay;refine⟨by simp only;omega,λa4=>?_,λg au=>?_⟩
 ·have:=h.nil a4;simp only;omega
 ·obtain⟨aa,ab,aj,aI⟩:=h.cap g au;refine⟨aa,by simp only;omega,aj,?_⟩;simp only;have e:os.n*1=xs.length+1:=by omega
  rw[e]at aI;have:os.aT.take xs.length=(os.aT.take (xs.length+1)).take xs.length:=by rw[Bw];congr 1;omega
  rw[show(os.n-1)*1=xs.length by omega,this,aI,ze]
structure ajy(t:bS)(node:Int)(x:aY×List Int×aY×List Int×Nat):Prop where
 todo:x.1.ok 1 (x.2.1.map (.int .i64 ·))
 back:x.2.2.1.ok 1 (x.2.2.2.1.map (.int .i64 ·))
 au6:valid t.ns.length x.2.1
 au7:valid t.ns.length x.2.2.2.1
 sum:g2 (nb t.ns) x.2.1+x.2.2.2.1.length=nb t.ns node
 e3:g2 (nb t.ns) x.2.1+1<=x.2.2.2.2
 eq:zW t.ns node=tO t.ns x.2.2.2.2 x.2.1 x.2.2.2.1
structure XT(I:aJ)(t:bS)(rb:List Int)(x:Nat×List Int×aY×List ao×aJ):Prop where
 j:x.1<=rb.length
 len:x.2.1.length=t.ns.length
 out:x.2.2.1.ok 9 (x.2.2.2.1.flatMap ao.cells)
 on:x.2.2.2.1.length=x.1
 eq:(rb.take x.1).foldl (Cb t.ns) (List.replicate t.ns.length 0,[])=(x.2.1,x.2.2.2.1.map ao.a1)
 ok:∀ d∈x.2.2.2.1,d.ok x.2.2.2.2
 le:∀ b o,I b=some o->x.2.2.2.2 b=some o
 HK:∀ c∈x.2.1,0<=c/\c<=rb.length
 XU:∀ d∈x.2.2.2.1,∀ k∈d.aw,0<=k/\k<=rb.length
structure aW where
 z:Bool
 s:Bool
 f:Bool
 deriving DecidableEq
def aW.cells(x:aW):List Value:=[.bool x.z,.bool x.s,.bool x.f]
def aW.val(x:aW):Value:=.agg #[.bool x.z,.bool x.s,.bool x.f]
def aW.cP(x:aW):x.cells.length=3:=rfl
def aW.kD(x:aW):Bool:=x.z||x.s
def ajz(x y:aW)(p q:Operand)(w:World):(do eqGuard .neq 270 p q x.val y.val;binOp .neq 270 x.val y.val:Sem Value).run Tryz.prog w=.ok (.bool (!decide (x=y))) w:=by
 obtain⟨a,b,c⟩:=x;obtain⟨d,e,f⟩:=y;cases a<;>cases b<;>cases c<;>cases d<;>cases e<;>cases f<;>kernel_rfl
def gw.XV{p q:aW}{V:Value->Prop}(h:V (.bool (!decide (p=q)))):gw Tryz.prog .neq 270 x y (.val (.agg #[.bool p.z,.bool p.s,.bool p.f])) (.val (.agg #[.bool q.z,.bool q.s,.bool q.f])) V other:=
 .mk _ _ _ rfl rfl (λw=>ajz p q x y w) h
def Qm{s:Bool}{x:aW}(aa:z=x.z)(ab:s=x.s)(aj:f=x.f):Value.agg #[.bool z,.bool s,.bool f]=x.val:=by subst aa ab aj;rfl
def XW{s:Bool}{x:aW}(aa:z=x.z)(ab:s=x.s)(aj:f=x.f):[Value.bool z,Value.bool s,Value.bool f]=x.cells:=by subst aa ab aj;rfl
def ajA{a b:Bool}(h:a=b):xE (.val (.bool a)) (.val (.bool b)):=by subst h;exact .refl
def Ln{a b:Bool}(h:a=b):xE (.lit a) (.val (.bool b)):=by subst h;exact .lit
def perm_nil:M.Perm (M++[]):=by simp
def gw.ajB{E:Env}(aO:cT P E){t:Nat}{aF:dG}(av:E t=some c7)(dR:c7.bL=.array 4 e)(he:E e=some aF){k:IntKind}(kw:aF.bL=.int k)(au:P.eqGuardType P.depth t=false){fC cC dQ dT oI b1 bW cY:Int}{V:Value->Prop}
  (h:V (.bool (!(fC == oI&&(cC == b1&&(dQ == bW&&dT == cY)))))):gw P .neq t x y (.val (.agg #[.int k fC,.int k cC,.int k dQ,.int k dT])) (.val (.agg #[.int k oI,.int k b1,.int k bW,.int k cY])) V other:=by
 obtain⟨d,fF,fk⟩:=(aO _ _ av).fo;obtain⟨qq,O4,O5⟩:=(aO _ _ he).fo;obtain⟨inf,z,hi,fr,_⟩:=(aO _ _ he).inf;have aa:d=.array 4 e:=by rw[dR]at fk;cases d<;>simp_all[fm]
 have ab:qq=.int k:=by rw[kw]at O5;cases qq<;>simp_all[fm]
 subst aa;subst ab;have fq:inf.size=1:=by rw[fr];exact(aO _ _ he).JR (by rw[kw];rfl)
 refine .mk _ _ _ rfl rfl (λw=>?_) h;simp only[ck,run_eqGuard_agg (hm:=au),bV,binOp,VZ fF O4 hi fq,c3]
def Qn(x:aW):Spec Tryz.prog 283 [x.val] I M λv I' M'=>v=.bool x.kD/\I'=I/\M'=M:=by
 obtain⟨a,b,c⟩:=x;refine cb [] a6 Tryz.func283 rfl rfl rfl ?_;intro B az;refine ct.mk (λh=>?_) (λh=>?_)
 ·exact⟨_,_,.refl,by rw[show a=false from h];rfl,rfl,rfl⟩
 ·exact⟨_,_,.refl,by rw[show a=true from h];rfl,rfl,rfl⟩
structure lV(I:aJ)(M:List aD)(a:Option Addr)(n:Nat)(ks:List aW):Prop where
 n:ks.length=n
 rd:∀ j (h:j<ks.length),∃ aS,a=some aS/\cF I M (aS.add (j*3)) 3 ks[j].cells
def k1(aZ:aW×Bool)(k:aW):aW×Bool:=(⟨aZ.1.z&&k.z,aZ.1.s||k.s,aZ.1.f||(aZ.2&&k.f)⟩,aZ.2&&k.kD)
def hE(ks:List aW):aW×Bool:=ks.foldl k1 (⟨true,false,false⟩,true)
def hF(ks:List aW):aW:=⟨(hE ks).1.z,(hE ks).1.s&&(hE ks).2,(hE ks).1.f⟩
def oX(f k:aW):aW:=⟨f.z||(f.f&&k.z),f.s||(f.f&&k.s),f.f&&k.f⟩
def qJ(ks:List aW):aW:=ks.foldl oX ⟨false,false,true⟩
def bZ:aW:=⟨false,false,false⟩
def x8(d:ao)(k:aW):aW:=bif decide (d.hi=0)then⟨true,false,false⟩else⟨k.z||(decide (d.lo=0)&&k.f),k.s,decide (0<d.lo)&&k.f⟩
def gT(d:ao)(ks:List aW):aW:=
 bif decide (d.k=0)then⟨true,false,false⟩else
 bif decide (d.k=1)then⟨false,!d.rC,true⟩else
 bif decide (d.k=2)then⟨false,true,true⟩else
 bif decide (d.k=3)then ks.headD bZ else
 bif decide (d.k=4)then hF ks else
 bif decide (d.k=5)then qJ ks else
 bif decide (d.k=6)then x8 d (ks.headD bZ)else
 bif decide (d.k=7)then⟨(ks.headD bZ).kD,false,(ks.headD bZ).f⟩else
 bif decide (d.k=8)then⟨(ks.headD bZ).f,false,(ks.headD bZ).kD⟩else ks.headD bZ
section
variable{I:aJ}{M:List aD}{d:ao}{a:Option Addr}{n c:Nat}{ks:List aW}
def lV.head(ae:lV I M a n ks)(az:0<n):∃ aS,a=some aS/\cF I M (aS.add (0*3)) 3 (ks.headD bZ).cells:=by
 have aa:0<ks.length:=by rw[ae.n];exact az
 obtain⟨aS,ab,aj⟩:=ae.rd 0 aa;refine⟨aS,ab,?_⟩;cases ks with
 |nil=>simp at aa| cons k ks=>exact aj
def ajC:Spec Tryz.prog 263 [d.val,.slice a n c] I M λv I' M'=>v=aW.val ⟨true,false,false⟩/\I'=I/\M'=M:=by refine cb [] a6 Tryz.func263 rfl rfl rfl ?_;intro B az;exact⟨_,_,.refl,rfl,rfl,rfl⟩
def ajD:Spec Tryz.prog 265 [d.val,.slice a n c] I M λv I' M'=>v=aW.val ⟨false,true,true⟩/\I'=I/\M'=M:=by refine cb [] a6 Tryz.func265 rfl rfl rfl ?_;intro B az;exact⟨_,_,.refl,rfl,rfl,rfl⟩
def XX(ae:lV I M a n ks)(az:0<n):Spec Tryz.prog 266 [d.val,.slice a n c] I M λv I' M'=>v=(ks.headD bZ).val/\I'=I/\M'=M:=by refine cb [] a6 Tryz.func266 rfl rfl rfl ?_;intro B iO;obtain⟨aS,bH,bl⟩:=ae.head az;refine bd.mk aS 0 bH rfl az ?_;refine aM.mk _ bl ?_;exact⟨_,_,.refl,rfl,rfl,rfl⟩
def ajE(ae:lV I M a n ks)(az:0<n):Spec Tryz.prog 270 [d.val,.slice a n c] I M λv I' M'=>v=aW.val ⟨(ks.headD bZ).kD,false,(ks.headD bZ).f⟩/\I'=I/\M'=M:=by refine cb [] a6 Tryz.func270 rfl rfl rfl ?_;intro B iO;obtain⟨aS,bH,bl⟩:=ae.head az;refine cV.draw a6 rfl rfl rfl ?_;refine bd.mk aS 0 bH rfl az ?_;refine aM.mk _ bl ?_;refine bd.mk aS 0 bH rfl az ?_;refine aM.mk _ (bl.part (k:=2) (m:=1) (by decide)) ?_;refine d'.oE M [] _ perm_nil (Qn (ks.headD bZ)) (λv I' M' h x ad=>by rw[h.2.2];exact ad) ?_;rintro v I' M' -⟨rfl,rfl,rfl⟩;rw[ee];exact⟨_,_,.refl,rfl,rfl,rfl⟩
def ajF(ae:lV I M a n ks)(az:0<n):Spec Tryz.prog 271 [d.val,.slice a n c] I M λv I' M'=>v=aW.val ⟨(ks.headD bZ).f,false,(ks.headD bZ).kD⟩/\I'=I/\M'=M:=by refine cb [] a6 Tryz.func271 rfl rfl rfl ?_;intro B iO;obtain⟨aS,bH,bl⟩:=ae.head az;refine cV.draw a6 rfl rfl rfl ?_;refine bd.mk aS 0 bH rfl az ?_;refine aM.mk _ (bl.part (k:=2) (m:=1) (by decide)) ?_;refine bd.mk aS 0 bH rfl az ?_;refine aM.mk _ bl ?_;refine d'.oE M [] _ perm_nil (Qn (ks.headD bZ)) (λv I' M' h x ad=>by rw[h.2.2];exact ad) ?_;rintro v I' M' -⟨rfl,rfl,rfl⟩;rw[ee];exact⟨_,_,.refl,rfl,rfl,rfl⟩
def ajG:Spec Tryz.prog 264 [d.val,.slice a n c] I M λv I' M'=>v=aW.val ⟨false,!d.rC,true⟩/\I'=I/\M'=M:=by refine cb [] a6 Tryz.func264 rfl rfl rfl ?_;intro B az;refine gw.ajB a6 (e:=62) rfl rfl rfl rfl (by kernel_rfl) ?_;exact⟨_,_,.refl,rfl,rfl,rfl⟩
def ajH(ae:lV I M a n ks)(az:0<n):Spec Tryz.prog 269 [d.val,.slice a n c] I M λv I' M'=>v=(x8 d (ks.headD bZ)).val/\I'=I/\M'=M:=by
 refine cb [] a6 Tryz.func269 rfl rfl rfl ?_;intro B iO;obtain⟨aS,bH,bl⟩:=ae.head az;generalize ks.headD bZ=k at bl;obtain⟨Qo,Qp,Qq⟩:=k;refine a2.mk (λh=>?_) (λh=>?_)
 ·refine⟨_,_,.refl,Qm ?_ ?_ ?_,rfl,rfl⟩<;>simp[x8,h]
 refine bd.mk aS 0 bH rfl az ?_;refine aM.mk _ bl ?_
 repeat' refine ct.mk (λh=>?_) (λh=>?_)
 all_goals refine⟨_,_,.refl,Qm ?_ ?_ ?_,rfl,rfl⟩
 all_goals first | (simp_all[x8];done) | (simp_all[x8];intros;omega)
def ajI(ae:lV I M a n ks)(aB:n<=140737488355328):Spec Tryz.prog 268 [d.val,.slice a n c] I M λv I' M'=>v=(qJ ks).val/\I'=I/\M'=M:=by
 refine cb [] a6 Tryz.func268 rfl rfl rfl ?_;intro B iO;have e':=ae.n;refine di.inv (ι:=Nat×aW) (λx=>{ bi:=[(4,.ref 4 0),(5,.ref 5 0),(9,.val (.slice a n c)),(10,.val (.int .i64 n)),(11,.val (.int .i64 x.1))],cl:=[(4,bZ.cells),(5,x.2.cells)],cD:=I,c0:=M }) (λx=>x.1<=n/\x.2=(ks.take x.1).foldl oX ⟨false,false,true⟩) (λx=>n-x.1) ?_ ?_
 ·exact⟨(0,⟨false,false,true⟩),⟨dD _,rfl⟩,.refl,hn,.cons rfl (.cons rfl .nil)⟩
 rintro⟨i,f⟩⟨hi,aA⟩;simp only at hi aA;refine a2.mk (λh=>?_) (λh=>?_)
 rotate_left
 ·have cI:n<=i:=by have:=ek h;omega
  refine⟨_,_,.refl,?_,rfl,rfl⟩;rw[fA (by omega)]at aA;rw[qJ,<-aA];rfl
 have aX:i<n:=by have:=dw h;omega
 obtain⟨aS,bH,bl⟩:=ae.rd i (by omega);have er:∀ g:aW,g=oX f (ks[i]'(by omega))->g=(ks.take (i+1)).foldl oX ⟨false,false,true⟩:=λg au=>by rw[gg (by omega),rO,<-aA,au];rfl
 generalize ks[i]'(by omega)=k at bl er;obtain⟨Qo,Qp,Qq⟩:=k;obtain⟨z,s,Qr⟩:=f;refine bd.mk aS i bH rfl aX ?_;refine aM.mk _ bl ?_
 repeat' refine ct.mk (λh=>?_) (λh=>?_)
 all_goals refine bg.mk _ (cL (i:=i) (by omega)) ?_
 all_goals refine⟨(i+1,_),⟨⟨by simp only;omega,er _ rfl⟩,by simp only;omega⟩,.refl,hn,.cons rfl (.cons ?_ .nil)⟩
 all_goals clear er aA bl
 all_goals (refine congrArg some (XW ?_ ?_ ?_)<;>simp_all[oX])
def ajJ(l:List aW)(k:aW):hE (l++[k])=k1 (hE l) k:=by simp[hE]
def ajK(ae:lV I M a n ks)(aB:n<=140737488355328):Spec Tryz.prog 267 [d.val,.slice a n c] I M λv I' M'=>v=(hF ks).val/\I'=I/\M'=M:=by
 refine cb [] a6 Tryz.func267 rfl rfl rfl ?_;intro B iO;have e':=ae.n;refine di.inv (ι:=Nat×aW×Bool) (λx=>{ bi:=[(4,.ref 4 0),(5,.ref 5 0),(6,.val (.bool x.2.2)),(10,.val (.slice a n c)),(11,.val (.int .i64 n)),(12,.val (.int .i64 x.1))],cl:=[(4,bZ.cells),(5,x.2.1.cells)],cD:=I,c0:=M }) (λx=>x.1<=n/\x.2=hE (ks.take x.1)) (λx=>n-x.1) ?_ ?_
 ·exact⟨(0,⟨true,false,false⟩,true),⟨dD _,rfl⟩,.refl,.cons .refl (.cons .refl (.cons .lit (hl))),.cons rfl (.cons rfl .nil)⟩
 rintro⟨i,f,XY⟩⟨hi,aA⟩;simp only at hi aA;refine a2.mk (λh=>?_) (λh=>?_)
 rotate_left
 ·have cI:n<=i:=by have:=ek h;omega
  rw[fA (by omega)]at aA;obtain⟨z,s,Qr⟩:=f;have aG:(hE ks).1=⟨z,s,Qr⟩:=by rw[<-aA]
  have a7:(hE ks).2=XY:=by rw[<-aA]
  refine ct.mk (λab=>?_) (λab=>?_)
  all_goals refine⟨_,_,.refl,Qm ?_ ?_ ?_,rfl,rfl⟩
  all_goals simp_all[hF]
 have aX:i<n:=by have:=dw h;omega
 obtain⟨aS,bH,bl⟩:=ae.rd i (by omega);have er:∀ g:aW×Bool,g=k1 (f,XY) (ks[i]'(by omega))->g=hE (ks.take (i+1)):=λg au=>by rw[gg (by omega),ajJ,<-aA,au]
 generalize ks[i]'(by omega)=k at bl er;obtain⟨Qo,Qp,Qq⟩:=k;obtain⟨z,s,Qr⟩:=f;refine bd.mk aS i bH rfl aX ?_;refine aM.mk _ bl ?_
 repeat' first
  |refine ct.mk (λh=>?_) (λh=>?_)|(refine be.mk M [] _ perm_nil (Qn ⟨Qo,Qp,Qq⟩) ?_;rintro v I' M' -⟨rfl,rfl,rfl⟩;rw[ee])
 all_goals refine bg.mk _ (cL (i:=i) (by omega)) ?_
 all_goals refine⟨(i+1,_),⟨⟨by simp only;omega,er _ rfl⟩,by simp only;omega⟩,.refl,.cons .refl (.cons .refl (.cons ?_ (hl))),.cons rfl (.cons ?_ .nil)⟩
 all_goals clear er aA bl
 all_goals first
  |(refine congrArg some (XW ?_ ?_ ?_)<;>simp_all[k1])|(refine ajA ?_;simp_all[k1])|(refine Ln ?_;simp_all[k1])
end
def cF.mono{a:Addr}{n:Nat}(h:cF I M a n vs)(bw:∀ b o,I b=some o->I' b=some o):cF I' M a n vs:=by obtain⟨aa,cs,T,al,ab,aj⟩:=h;exact⟨aa,cs,T,al,ab.imp (bw _ _) id,aj⟩
def cF.sub{I:aJ}{M M':List aD}{a:Addr}{n:Nat}{vs:List Value}(h:cF I M a n vs)(a':∀ x∈M,x∈M'):cF I M' a n vs:=by obtain⟨aa,cs,T,al,ab,aj⟩:=h;refine⟨aa,cs,T,al,ab.imp id ?_,aj⟩;rintro⟨x,ad,aG,a7⟩;exact⟨x,a' x ad,aG,a7⟩
def jD(aZ:List ao×List Int)(l:List ao):List ao×List Int:=
 (aZ.1++l.map (λx=>x.eB (x.aw.map λk=>(aZ.1.length:Int)+k)),aZ.2++[((aZ.1.length+l.length:Nat):Int)-1])
def wu(d:ao)(fV:List (List ao)):List ao:=(fV.foldl jD ([],[])).1++[d.eB (fV.foldl jD ([],[])).2]
section
variable{X:cU}{β:Nat->Nat}{a:Act}{w:World}{F:Fr}{C:dC}{I:aJ}{M:List aD}{o:Oper}{Q:Exit->Act->World->Prop}{K:gi}
def XZ(aO:cT X.P X.E){t:Nat}{k:Nat}(av:X.E t=some c7)(dR:c7.bL=.map k e)(ae:X.E k=some tx)(eR:tx.bL=.string)(bb:∀ w,(zeroValue e).run X.P w=.ok (.int .i64 0) w){g:Nat}{l:List (ByteArray×Int)}{s:ByteArray}(au:w.heap[g]?=some (jC l))(ok:Bool) :
  (Instr.lookup t (.map (some g)) (.string s) ok).run X.P w=.ok (bif ok then .tuple #[.int .i64 ((ez s l).getD 0),.bool (ez s l).isSome]else .int .i64 ((ez s l).getD 0)) w:=by
 obtain⟨d,fF,fk⟩:=(aO _ _ av).fo;have aa:d=.map k e:=by rw[dR]at fk;cases d<;>simp_all[fm]
 subst aa;obtain⟨dc,sP,hK⟩:=(aO _ _ ae).fo;have ab:dc=.string:=by rw[eR]at hK;cases dc<;>simp_all[fm]
 subst ab;have au:w.heap[g]?=some (.map (oR l 0).toArray l.length):=au;obtain⟨r,vR,mv⟩:=KU s l 0 0;have an:(Instr.checkKey (oR l 0).toArray.isEmpty 10000 k (.string s)).run X.P w=.ok () w:=DY (k:=.string s) sP (by simp[MapKept.IsKey]) _ 9999;have u4:(Instr.findKey k (.string s) (oR l 0)).run X.P w=.ok r w:=DZ sP vR;unfold Instr.lookup;simp only[ck,run_underlying fF,bV,DW au,c3,an,u4];cases r with
 |none=>
  cases ay:ez s l with
  |none=>cases ok<;>simp[bb]
  |some v=>rw[ay]at mv;simp at mv
 |some p=>
  cases ay:ez s l with
  |none=>rw[ay]at mv;simp at mv
  |some v=>
   rw[ay]at mv;simp only[k9,jY]at mv;cases ok<;>simp[mv]
def bz.X0(aO:cT X.P X.E){t:Nat}(aH:o.op=.lookup t x y true)(ak:∀ d,o.dst=some d->d<X.n){k:Nat}(av:X.E t=some c7)(dR:c7.bL=.map k e)(ae:X.E k=some tx)(eR:tx.bL=.string)(bb:∀ w,(zeroValue e).run X.P w=.ok (.int .i64 0) w){g:Nat}{l:List (ByteArray×Int)}{s:ByteArray}(ad:bE F x=.val (.map (some g)))(aE:bE F y=.val (.string s))(a':ib I M g (jC l))
  (h:K (put o.dst (.val (.tuple #[.int .i64 ((ez s l).getD 0),.bool (ez s l).isSome])) F) C I M):bz X o F C I M K:=by
 refine⟨λa w Q ⟨β,aV⟩=>?_⟩;have fa:=XZ aO av dR ae eR bb (a'.heap aV.holds) (s:=s) true;have ex:=dd aV.al ad;have oJ:=dd aV.al aE;refine vQ aV ak (by rw[aH];simp) ?_ h;unfold execOp;simp only[aH,ex,oJ,ck,fa,bV,c3,b5]
def bz.ajL(aO:cT X.P X.E){t:Nat}(aH:o.op=.lookup t x y false)(ak:∀ d,o.dst=some d->d<X.n){k:Nat}(av:X.E t=some c7)(dR:c7.bL=.map k e)(ae:X.E k=some tx)(eR:tx.bL=.string)(bb:∀ w,(zeroValue e).run X.P w=.ok (.int .i64 0) w){g:Nat}{l:List (ByteArray×Int)}{s:ByteArray}(ad:bE F x=.val (.map (some g)))(aE:bE F y=.val (.string s))(a':ib I M g (jC l))
  (h:K (put o.dst (.val (.int .i64 ((ez s l).getD 0))) F) C I M):bz X o F C I M K:=by
 refine⟨λa w Q ⟨β,aV⟩=>?_⟩;have fa:=XZ aO av dR ae eR bb (a'.heap aV.holds) (s:=s) false;have ex:=dd aV.al ad;have oJ:=dd aV.al aE;refine vQ aV ak (by rw[aH];simp) ?_ h;unfold execOp;simp only[aH,ex,oJ,ck,fa,bV,c3,b']
end
def n8:List (ByteArray×Int)->Nat->List aP->List (ByteArray×Int)
 |a5,_,[]=>a5| a5,i,d::ds=>n8 (bif (ez d.name a5).isSome then a5 else a5++[(d.name,(i:Int))]) (i+1) ds
def bD(ds:List aP):List (ByteArray×Int):=n8 [] 0 ds
def X1(au:g.ok I):Spec Tryz.prog 197 [g.val] I [] λv I' M'=>(∀ b o,I b=some o->I' b=some o)/\M'=[]/\∃ hQ,v=.map (some hQ)/\I' hQ=some (jC (bD g.ds)):=by
 refine zc [] a6 Tryz.func197 rfl rfl rfl ?_;intro B az;have fT:=au.n;have jx:=au.a0.cap;refine bz.makeMap a6 rfl (by simp) rfl rfl rfl λjN=>?_;refine di.inv (ι:=Nat×List (ByteArray×Int)) (λx=>{ bi:=[(1,.ref 1 0),(3,.val (.map (some jN))),(13,.val (.slice g.a g.n g.c)),(14,.val (.int .i64 g.n)),(15,.val (.int .i64 x.1))],cl:=[(1,[.slice g.a g.n g.c])],cD:=I,c0:=[⟨jN,jC x.2⟩] }) (λx=>x.1<=g.n/\bD g.ds=n8 x.2 x.1 (g.ds.drop x.1)) (λx=>g.n-x.1) ?_ ?_
 ·exact⟨(0,[]),⟨dD _,rfl⟩,.refl,hn,.cons rfl .nil⟩
 rintro⟨i,a5⟩⟨hi,aC⟩;simp only at hi aC;refine a2.mk (λh=>?_) (λh=>?_)
 ·have aX:i<g.n:=by have:(i:Int)<(g.n:Int):=dw h;omega
  have cj:i<g.ds.length:=by omega
  obtain⟨aS,bH,bl⟩:=au.a0.row aP.cP aX cj;rw[eV cj,n8]at aC;refine bd.mk aS i bH rfl aX ?_;refine aM.mk _ (bl _) ?_;refine bz.X0 a6 rfl (by simp) rfl rfl rfl rfl (λw=>Hn w) (l:=a5) (g:=jN) rfl rfl (.inr ⟨_,.head _,rfl,rfl⟩) ?_;refine a2.mk (λaj=>?_) (λaj=>?_)
  ·have aB:(ez g.ds[i].name a5).isSome=false:=by simpa using aj
   have ay:ez g.ds[i].name a5=none:=by simpa using aB
   rw[aB,b']at aC;refine bz.W' a6 rfl rfl rfl rfl rfl rfl rfl rfl rfl ay (Mr:=[]) (.refl _) ?_;refine bg.mk _ (cL (i:=i) (by omega)) ?_;exact⟨(i+1,_),⟨⟨by simp only;omega,aC⟩,by simp only;omega⟩,.refl,hn,.cons rfl .nil⟩
  ·have aB:(ez g.ds[i].name a5).isSome=true:=by simpa using aj
   rw[aB,b5]at aC;refine bg.mk _ (cL (i:=i) (by omega)) ?_;exact⟨(i+1,_),⟨⟨by simp only;omega,aC⟩,by simp only;omega⟩,.refl,hn,.cons rfl .nil⟩
 have cI:g.n<=i:=by have:¬ (i:Int)<(g.n:Int):=ek h;omega
 rw[kr (by omega),n8]at aC;intro fD;have ag:=fD.d ⟨jN,jC a5⟩ (.head _);exact⟨_,_,.kN rfl (by simp) .refl,hL ag,rfl,jN,rfl,by rw[aC];exact mo ..⟩
def ajM:List Nat:=[263,264,265,266,267,268,269,270,271,266]
def Qs:List Value:=[.func (.func 263) #[] #[],.func (.func 264) #[] #[],.func (.func 265) #[] #[],.func (.func 266) #[] #[],.func (.func 267) #[] #[],.func (.func 268) #[] #[],.func (.func 269) #[] #[],.func (.func 270) #[] #[],.func (.func 271) #[] #[],.func (.func 266) #[] #[]]
def ajN:Spec Tryz.prog 237 [] I [] λv I' M'=>v=.agg Qs.toArray/\I'=I/\M'=[]:=by refine cb [] a6 Tryz.func237 rfl rfl rfl ?_;intro B az;exact⟨_,_,.refl,rfl,rfl,rfl⟩
def wv{d:ao}{a:Option Addr}{n:Nat}{ks:List aW}(ae:lV I M a n ks)(aB:n<=140737488355328)(j:Nat)(ai:j<10)(ak:d.k=j)(az:(j=3\/6<=j)->0<n) :
  Spec Tryz.prog (ajM.getD j 0) [d.val,.slice a n c] I M λv I' M'=>v=(gT d ks).val/\I'=I/\M'=M:=by
 match j,ai,ak,az with
 |0,_,ak,_=>rw[show gT d ks=⟨true,false,false⟩ by simp[gT,ak]];exact ajC (I:=I) (M:=M) (d:=d) (a:=a) (n:=n) (c:=c)| 1,_,ak,_=>rw[show gT d ks=⟨false,!d.rC,true⟩ by simp[gT,ak]];exact ajG (I:=I) (M:=M) (d:=d) (a:=a) (n:=n) (c:=c)| 2,_,ak,_=>rw[show gT d ks=⟨false,true,true⟩ by simp[gT,ak]];exact ajD (I:=I) (M:=M) (d:=d) (a:=a) (n:=n) (c:=c)| 3,_,ak,az=>rw[show gT d ks=ks.headD bZ by simp[gT,ak]];exact XX (d:=d) (c:=c) ae (az (by omega))| 4,_,ak,_=>rw[show gT d ks=hF ks by simp[gT,ak]];exact ajK (d:=d) (c:=c) ae aB| 5,_,ak,_=>rw[show gT d ks=qJ ks by simp[gT,ak]];exact ajI (d:=d) (c:=c) ae aB| 6,_,ak,az=>rw[show gT d ks=x8 d (ks.headD bZ) by simp[gT,ak]];exact ajH (d:=d) (c:=c) ae (az (by omega))| 7,_,ak,az=>rw[show gT d ks=⟨(ks.headD bZ).kD,false,(ks.headD bZ).f⟩ by simp[gT,ak]];exact ajE (d:=d) (c:=c) ae (az (by omega))| 8,_,ak,az=>rw[show gT d ks=⟨(ks.headD bZ).f,false,(ks.headD bZ).kD⟩ by simp[gT,ak]];exact ajF (d:=d) (c:=c) ae (az (by omega))| 9,_,ak,az=>rw[show gT d ks=ks.headD bZ by simp[gT,ak]];exact XX (d:=d) (c:=c) ae (az (by omega))
def fM(b:Nat)(l:List aW):aD:=⟨b,.cells (l.flatMap aW.cells).toArray 270 (0,0)⟩
def Cc(l:List aW):(l.flatMap aW.cells).length=l.length*3:=iQ _ 3 aW.cP l
def Er{b:Nat}{l:List aW}(a':fM b l∈M){j:Nat}(ai:j<l.length):cF I M ((⟨b,0,none⟩:Addr).add (j*3)) 3 l[j].cells:=by have h:=c4 (I:=I) (cs:=l.flatMap aW.cells) (k:=j*3) (n:=3) a' (by rw[Cc];omega);rwa [DS aW.cells 3 aW.cP l j ai]at h
def Qt(l:List aW)(j:Nat)(ai:j<l.length)(x:aW):cm (l.flatMap aW.cells) (j*3) x.cells=(l.set j x).flatMap aW.cells:=by
 have e:l.flatMap aW.cells=(l.take j).flatMap aW.cells++(l[j].cells++(l.drop (j+1)).flatMap aW.cells):=by
  have aa:l=l.take j++(l[j]::l.drop (j+1)):=by rw[<-eV ai,rG]
  have ab:=congrArg (λq:List aW=>q.flatMap aW.cells) aa;simp only[hg,j6]at ab;exact ab
 have ay:((l.take j).flatMap aW.cells).length=j*3:=by rw[Cc,hx];congr 1;omega
 unfold cm;rw[DG,bN ai,hg,j6,e,dV];congr 1
 ·rw[<-ay,ze]
 ·congr 1;rw[aW.cP,<-ay,<-dV,BN (by rw[ch,aW.cP])]
def X2(l:List aW)(x:aW):(l++[x]).flatMap aW.cells=l.flatMap aW.cells++x.cells:=by simp
def aY.zero(h:os.ok size xs):aY.ok ⟨os.a,0,os.c,os.aT⟩ size []:=by refine⟨by simp,λa4=>⟨rfl,(h.nil a4).2⟩,λg au=>?_⟩;obtain⟨aa,ab,aj,aI⟩:=h.cap g au;exact⟨aa,dD _,aj,by simp⟩
def aY.X3{l:List aW}(h:os.ok 3 (l.flatMap aW.cells))(a':∀ x∈os.aq e,x∈M):lV I M (os.a.map λg=>⟨g,0,none⟩) os.n l:=by
 have ay:=h.len;rw[Cc]at ay;refine⟨by omega,λj ai=>?_⟩;obtain⟨a,n,c,aT⟩:=os;simp only at ay;cases a with
 |none=>have:=(h.nil rfl).1;simp only at this;omega
 |some g=>
  obtain⟨aa,ab,aj,aI⟩:=h.cap g rfl;simp only at aa ab aI;refine⟨⟨g,0,none⟩,rfl,?_⟩;have hm:(⟨g,.cells aT.toArray e (0,0)⟩:aD)∈M:=a' _ (by simp[aY.aq]);have af:=c4 (I:=I) (cs:=aT) (k:=j*3) (n:=3) hm (by omega);have aG:(aT.drop (j*3)).take 3=((aT.take (n*3)).drop (j*3)).take 3:=by rw[Gx,Bw];congr 1;omega
  rw[aG,aI,DS aW.cells 3 aW.cP l j ai]at af;exact af
def sU(pl:List (ByteArray×Int))(bi a5:List aW)(d:ao):List aW:=
 d.aw.map (λk=>a5.getD k.toNat bZ)++bif decide (d.k=3)then [bi.getD ((ez d.t pl).getD 0).toNat bZ]else []
def en(pl:List (ByteArray×Int))(bi:List aW):List ao->List aW->List aW
 |[],a5=>a5| d::ds,a5=>en pl bi ds (a5++[gT d (sU pl bi a5 d)])
def HL(pl:List (ByteArray×Int))(bi:List aW):∀ (ds:List ao) (a5:List aW),(en pl bi ds a5).length=a5.length+ds.length
 |[],a5=>rfl| d::ds,a5=>by rw[en,HL];simp;omega
def X4(pl:List (ByteArray×Int))(n:Nat)(ns:List ao):Prop:=∀ d∈ns,d.k=3->∃ i:Nat,ez d.t pl=some (i:Int)/\i<n
def Qu{d:ao}{n:Int}(h:fits d n=true):d.k<10:=by apply Int.lt_of_not_ge;intro cI;have:(10:Int)<=d.k:=cI;simp[fits,this]at h
def X5{d:ao}{n:Int}(az:0<=d.k)(h:fits d n=true)(ae:6<=d.k):0<n:=by
 have sD:=Qu h;have Es:d.k=6\/d.k=7\/d.k=8\/d.k=9:=by omega
 rcases Es with e | e | e | e<;>(simp[fits,e,uN,sC,lp]at h;omega)
def ajO(a5:List aW)(n i:Nat)(ay:a5.length=i)(hi:i<n)(x:aW):(a5++List.replicate (n-i) bZ).set i x=(a5++[x])++List.replicate (n-(i+1)) bZ:=by subst ay;rw[Hj _ _ (ca _),pL,show n-a5.length=(n-(a5.length+1))+1 by omega,Hk,Hl];simp
def X6:∀ n:Nat,rowOf bZ.cells (n*3)=(List.replicate n bZ).flatMap aW.cells:=λn=>by
 apply mT
 ·rw[Cc,sE];simp[vP,madeCells]
 intro i aa ab;have aj:∀ x∈(List.replicate n bZ).flatMap aW.cells,x=Value.bool false:=λx ad=>by obtain⟨y,aE,ad⟩:=hb.1 ad;have:=PL aE;subst this;simpa[aW.cells,bZ]using ad
 rw[aj _ (br ab)];have bb:∀ j,j<3->bZ.cells[j]! = Value.bool false:=λj ai=>by
  match j,ai with
  |0,_=>rfl| 1,_=>rfl| 2,_=>rfl
 simp only[rowOf,f',u5];exact bb _ (Nat.mod_lt _ (by decide))
def wx{a5:List aW}{n i:Nat}(ma:a5.length=i)(aX:i<n)(x:aW):Nat.ble (0+i*3+x.cells.length) ((a5++List.replicate (n-i) bZ).flatMap aW.cells).length=true:=by rw[nK,Cc,aW.cP,ch,sE];omega
def X7{M0:List aD}{t:bS}(av:t.ok I)(af:right t=true){hQ:Nat}(hm:I hQ=some (jC pl)){ly:Option Addr}{ln lc:Nat}{bi:List aW}(m8:lV I M0 ly ln bi)(an:X4 pl ln t.ns) :
  Spec Tryz.prog 199 [.map (some hQ),.slice ly ln lc,t.val] I M0 λv I' M'=>I'=I/\∃ b,v=.slice (some ⟨b,0,none⟩) t.n t.n/\M'=fM b (en pl bi t.ns [])::M0:=by
 refine cb [] a6 Tryz.func199 rfl rfl rfl ?_;intro B az;have hD:=av.n;have jx:=av.a0.cap;refine be.mk [] M0 _ (.refl _) ajN ?_;rintro v I1 M1 -⟨rfl,rfl,rfl⟩;refine mO.mk t.n t.n rfl rfl (ca _) (by show 3*t.n<=_;omega) (by omega) ?_;refine bX.mk λfU Eh aiz=>?_;refine di.inv (ι:=Nat×List aW×aY) (λx=>{ bi:=[(0,.val (.map (some hQ))),(1,.val (.slice ly ln lc)),(5,.ref 5 0),(7,.ref 7 0),(8,.val (.slice (some ⟨fU,0,none⟩) t.n t.n)),(9,.val x.2.2.val),(20,.val (.slice t.a t.n t.c)),(21,.val (.int .i64 t.n)),(22,.val (.int .i64 x.1))],cl:=[(5,t.cells),(7,Qs)],cD:=I1,c0:=fM fU (x.2.1++List.replicate (t.n-x.1) bZ)::(x.2.2.aq 270++M0) }) (λx=>x.1<=t.n/\x.2.1.length=x.1/\en pl bi t.ns []=en pl bi (t.ns.drop x.1) x.2.1/\∃ ks,x.2.2.ok 3 ks) (λx=>t.n-x.1) ?_ ?_
 ·refine⟨(0,[],h6),⟨dD _,rfl,rfl,[],lv 3⟩,?_,i',.cons rfl (.cons rfl .nil)⟩;have e:rowOf bZ.cells (t.n*3)=(List.replicate t.n bZ).flatMap aW.cells:=X6 t.n;simp only[fM,iz,KW];rw[<-e];exact .refl
 rintro⟨i,a5,eh⟩⟨hi,ma,Et,au8,kB⟩;simp only at hi ma Et kB;refine a2.mk (λh=>?_) (λh=>?_)
 rotate_left
 ·have cI:i=t.n:=by have:¬ (i:Int)<(t.n:Int):=ek h;omega
  subst cI;rw[kr (by omega),en]at Et;refine⟨I1,fM fU (a5++List.replicate (t.n-t.n) bZ)::M0,.sub (.cons_cons _ (l' _ _)) .refl,rfl,fU,rfl,?_⟩;rw[Et,pL,List.replicate_zero,ee]
 have aX:i<t.n:=by have:(i:Int)<(t.n:Int):=dw h;omega
 have cj:i<t.ns.length:=by omega
 obtain⟨aS,bH,bl⟩:=av.a0.row ao.cP aX cj;have gz:=br cj;have ak:=av.ns _ gz;have e':=ak.aN;have rU:=ak.a0.cap;have jg:=mj af i cj;have tP:=D3 af cj;have X8:=an _ gz;have X9:en pl bi t.ns []=en pl bi (t.ns.drop (i+1)) (a5++[gT t.ns[i] (sU pl bi a5 t.ns[i])]):=by rw[Et,eV cj,en]
 generalize t.ns[i]=d at bl ak e' rU jg tP X8 X9;have kV:=ak.k.1;have au9:=Qu tP;have my:∀ {M:List aD} {q:Int},fM fU (a5++List.replicate (t.n-i) bZ)∈M->q∈d.aw->cF I1 M ((⟨fU,0,none⟩:Addr).add (q.toNat*3)) 3 (a5.getD q.toNat bZ).cells:=fun {M q} a' aR=>by
  have wy:=jg q aR;have fe:q.toNat<a5.length:=by omega
  have:=Er (I:=I1) a' (j:=q.toNat) (by rw[ch];omega);rw[zL fe]at this;simpa[bA,fe]using this
 refine bd.mk aS i bH rfl aX ?_;refine aM.mk _ (bl _) ?_;refine l6.mk 0 0 rfl rfl (ca _) (dD _) ?_;refine di.inv (ι:=Nat×aY×List aW) (λx=>{ bi:=[(0,.val (.map (some hQ))),(1,.val (.slice ly ln lc)),(5,.ref 5 0),(7,.ref 7 0),(8,.val (.slice (some ⟨fU,0,none⟩) t.n t.n)),(9,.val x.2.1.val),(10,.val (.int .i64 i)),(11,.ref 11 0),(20,.val (.slice t.a t.n t.c)),(21,.val (.int .i64 t.n)),(22,.val (.int .i64 i)),(30,.val (.slice d.dB d.aN d.dp)),(31,.val (.int .i64 d.aN)),(32,.val (.int .i64 x.1))],cl:=[(5,t.cells),(7,Qs),(11,d.cells)],cD:=I1,c0:=fM fU (a5++List.replicate (t.n-i) bZ)::(x.2.1.aq 270++M0) }) (λx=>x.1<=d.aN/\x.2.1.ok 3 (x.2.2.flatMap aW.cells)/\x.2.2=(d.aw.take x.1).map λk=>a5.getD k.toNat bZ) (λx=>d.aN-x.1) ?_ ?_
 ·exact⟨(0,⟨eh.a,0,eh.c,eh.aT⟩,[]),⟨dD _,aY.zero kB,rfl⟩,.refl,Gs,.cons rfl (.cons rfl (.cons rfl .nil))⟩
 rintro⟨k,cy,gD⟩⟨ae,eN,cA⟩;simp only at ae eN cA;have ava:cy.n=gD.length:=by have:=eN.len;rw[Cc]at this;omega
 have Ej:gD.length<=k:=by rw[cA,bI];exact BM _ _
 refine a2.mk (λh=>?_) (λh=>?_)
 ·have ff:k<d.aN:=by have:(k:Int)<(d.aN:Int):=dw h;omega
  have kO:k<d.aw.length:=by omega
  obtain⟨gk,fu,fb⟩:=ak.a0.one ff kO;have aR:=jg _ (br kO);refine bd.mk gk k fu rfl ff ?_;refine aM.mk _ (fb _) ?_;refine bd.mk ⟨fU,0,none⟩ d.aw[k].toNat rfl (by omega) (by omega) ?_;refine aM.mk _ (my (.head _) (br kO)) ?_;refine bX.mk λb9 jM u1=>?_;refine bz.append a6 rfl (by simp) (e:=270) rfl rfl rfl cy eN rfl (m:=1) rfl (b8:=(a5.getD d.aw[k].toNat bZ).cells) (by decide) (c4 (b:=b9) (cs:=(a5.getD d.aw[k].toNat bZ).cells) (k:=0) (n:=3) (T:=270) (.head _) (bJ rfl)) rfl (Mr:=⟨b9,.cells (a5.getD d.aw[k].toNat bZ).cells.toArray 270 (0,0)⟩::fM fU (a5++List.replicate (t.n-i) bZ)::M0) (by
   have:=B2 [(⟨b9,.cells (a5.getD d.aw[k].toNat bZ).cells.toArray 270 (0,0)⟩:aD),fM fU (a5++List.replicate (t.n-i) bZ)] (cy.aq 270) M0;exact this) (by simp only[maxLen];omega) (by show(cy.n+1)*3<=_;omega) ?_
  intro ba gE Cd iT n7 qK zT;refine bg.mk _ (cL (i:=k) (by omega)) ?_;refine⟨(k+1,⟨some ba,cy.n+1,gE,Cd⟩,gD++[a5.getD d.aw[k].toNat bZ]),⟨⟨by simp only;omega,?_,?_⟩,by simp only;omega⟩,.sub (M1:=[(⟨ba,.cells Cd.toArray 270 (0,0)⟩:aD),fM fU (a5++List.replicate (t.n-i) bZ)]++M0) (.cons_cons _ (.cons _ (.refl _))) (.perm (List.Perm.swap _ _ _) .refl),Gs,.cons rfl (.cons rfl (.cons rfl .nil))⟩;·simp only;rw[X2];exact XM eN (aW.cP _) iT n7 qK zT
  ·simp only;rw[gg kO,cM,<-cA];rfl
 have cI:d.aN<=k:=by have:¬ (k:Int)<(d.aN:Int):=ek h;omega
 rw[fA (by omega)]at cA;have avb:gD.length=d.aw.length:=by rw[cA,bI]
 have gY:cy.n+1<=140737488355328:=by omega
 clear h ae Ej;have g0:∀ x:aW,cm ((a5++List.replicate (t.n-i) bZ).flatMap aW.cells) (0+i*3) x.cells=((a5++[x])++List.replicate (t.n-(i+1)) bZ).flatMap aW.cells:=λx=>by rw[c8,Qt _ _ (by simp;omega),ajO a5 t.n i ma aX]
 have hinv:∀ (qL:aY) (wz:List Value),qL.ok 3 wz->((i+1<=t.n/\(a5++[gT d (sU pl bi a5 d)]).length=i+1/\en pl bi t.ns []=en pl bi (t.ns.drop (i+1)) (a5++[gT d (sU pl bi a5 d)])/\∃ ks,qL.ok 3 ks)/\t.n-(i+1)<t.n-i):=λqL wz ab=>
  ⟨⟨aX,by simp[ma],X9,wz,ab⟩,by omega⟩
 by_cases aj:d.k=3
 ·refine a2.mk (λ_=>?_) (λh=>absurd h (by simp[aj]));obtain⟨q,Ce,u'⟩:=X8 aj;have HM:sU pl bi a5 d=gD++[bi.getD q bZ]:=by rw[sU,<-cA,Ce,aj];rfl
  have fe:q<bi.length:=by rw[m8.n];exact u'
  obtain⟨hc,Ec,fv⟩:=m8.rd q fe;have rV:bi.getD q bZ=bi[q]:=by simp[bA,fe]
  refine bz.ajL a6 rfl (by simp) rfl rfl rfl rfl (λw=>Hn w) (l:=pl) (g:=hQ) rfl rfl (.inl hm) ?_;rw[Ce];refine bd.mk hc q Ec rfl u' ?_;refine aM.mk _ (fv.sub λx ad=>by simp[ad]) ?_;refine bX.mk λb9 jM u1=>?_;refine bz.append a6 rfl (by simp) (e:=270) rfl rfl rfl cy eN rfl (m:=1) rfl (b8:=bi[q].cells) (by decide) (c4 (b:=b9) (cs:=bi[q].cells) (k:=0) (n:=3) (T:=270) (.head _) (bJ rfl)) rfl (Mr:=⟨b9,.cells bi[q].cells.toArray 270 (0,0)⟩::fM fU (a5++List.replicate (t.n-i) bZ)::M0) (by
   have:=B2 [(⟨b9,.cells bi[q].cells.toArray 270 (0,0)⟩:aD),fM fU (a5++List.replicate (t.n-i) bZ)] (cy.aq 270) M0;exact this) (by simp only[maxLen];omega) (by show(cy.n+1)*3<=_;omega) ?_
  intro ba gE Cd iT n7 qK zT;have mc:=XM (g:=ba) eN (aW.cP bi[q]) iT n7 qK zT;rw[<-X2,<-rV,<-HM]at mc;have eR:=aY.X3 (I:=I1) (M:=⟨ba,.cells Cd.toArray 270 (0,0)⟩::⟨b9,.cells bi[q].cells.toArray 270 (0,0)⟩::fM fU (a5++List.replicate (t.n-i) bZ)::M0) (e:=270) mc (λx ad=>by
   simp only[aY.aq,ed]at ad;subst ad;exact .head _)
  refine cV.draw a6 rfl rfl rfl ?_;obtain⟨dc,cx,s1,s2,c1,fL,lo,cZ,tQ,tR,tS,tT⟩:=d;simp only at aj;subst aj;refine eG.mk 3 rfl (by decide) ?_;refine d'.oE _ [] _ perm_nil (wv (d:=⟨3,cx,s1,s2,c1,fL,lo,cZ,tQ,tR,tS,tT⟩) eR gY 3 (by decide) rfl (λ_=>Nat.succ_pos _)) (λv I' M' h x ad=>by rw[h.2.2];exact ad) ?_;rintro v dI dq -⟨rfl,rfl,rfl⟩;rw[ee];refine bd.mk ⟨fU,0,none⟩ i rfl rfl aX ?_;refine b2.iC [(⟨ba,.cells Cd.toArray 270 (0,0)⟩:aD),⟨b9,.cells bi[q].cells.toArray 270 (0,0)⟩] M0 ((a5++List.replicate (t.n-i) bZ).flatMap aW.cells) _ rfl (wx ma aX _) rfl _ (g0 _) ?_;refine bg.mk _ (cL (i:=i) (by omega)) ?_;exact⟨(i+1,_,⟨some ba,cy.n+1,gE,Cd⟩),hinv _ _ mc,.sub (M1:=[(⟨ba,.cells Cd.toArray 270 (0,0)⟩:aD),fM fU _]++M0) (.cons_cons _ (.cons _ (.refl _))) (.perm (List.Perm.swap _ _ _) .refl),i',.cons rfl (.cons rfl .nil)⟩
 refine a2.mk (λh=>absurd (dw h) aj) (λ_=>?_);have HM:sU pl bi a5 d=gD:=by rw[sU,<-cA,et aj];simp
 rw[HM]at hinv;have eR:=aY.X3 (I:=I1) (M:=fM fU (a5++List.replicate (t.n-i) bZ)::(cy.aq 270++M0)) (e:=270) eN (λx ad=>by simp[ad]);have oA:6<=d.k->0<cy.n:=λb4=>by have:=X5 kV tP b4;omega
 have Es:d.k=0\/d.k=1\/d.k=2\/d.k=4\/d.k=5\/d.k=6\/d.k=7\/d.k=8\/d.k=9:=by omega
 obtain⟨dc,cx,s1,s2,c1,fL,lo,cZ,tQ,tR,tS,tT⟩:=d;simp only at Es oA aj;refine cV.draw a6 rfl rfl rfl ?_;rcases Es with rfl | rfl | rfl | rfl | rfl | rfl | rfl | rfl | rfl
 ·refine eG.mk 0 rfl (by decide) ?_;refine d'.oE _ [] _ perm_nil (wv (d:=⟨0,cx,s1,s2,c1,fL,lo,cZ,tQ,tR,tS,tT⟩) eR (x3 gY) 0 (by decide) rfl (λh=>by omega)) (λv I' M' h x ad=>by rw[h.2.2];exact ad) ?_;rintro v dI dq -⟨rfl,rfl,rfl⟩;rw[ee];refine bd.mk ⟨fU,0,none⟩ i rfl rfl aX ?_;refine b2.iC [] (cy.aq 270++M0) ((a5++List.replicate (t.n-i) bZ).flatMap aW.cells) _ rfl (wx ma aX _) rfl _ (g0 _) ?_;refine bg.mk _ (cL (i:=i) (by omega)) ?_;exact⟨(i+1,_,cy),hinv _ _ eN,.refl,i',.cons rfl (.cons rfl .nil)⟩
 ·refine eG.mk 1 rfl (by decide) ?_;refine d'.oE _ [] _ perm_nil (wv (d:=⟨1,cx,s1,s2,c1,fL,lo,cZ,tQ,tR,tS,tT⟩) eR (x3 gY) 1 (by decide) rfl (λh=>by omega)) (λv I' M' h x ad=>by rw[h.2.2];exact ad) ?_;rintro v dI dq -⟨rfl,rfl,rfl⟩;rw[ee];refine bd.mk ⟨fU,0,none⟩ i rfl rfl aX ?_;refine b2.iC [] (cy.aq 270++M0) ((a5++List.replicate (t.n-i) bZ).flatMap aW.cells) _ rfl (wx ma aX _) rfl _ (g0 _) ?_;refine bg.mk _ (cL (i:=i) (by omega)) ?_;exact⟨(i+1,_,cy),hinv _ _ eN,.refl,i',.cons rfl (.cons rfl .nil)⟩
 ·refine eG.mk 2 rfl (by decide) ?_;refine d'.oE _ [] _ perm_nil (wv (d:=⟨2,cx,s1,s2,c1,fL,lo,cZ,tQ,tR,tS,tT⟩) eR (x3 gY) 2 (by decide) rfl (λh=>by omega)) (λv I' M' h x ad=>by rw[h.2.2];exact ad) ?_;rintro v dI dq -⟨rfl,rfl,rfl⟩;rw[ee];refine bd.mk ⟨fU,0,none⟩ i rfl rfl aX ?_;refine b2.iC [] (cy.aq 270++M0) ((a5++List.replicate (t.n-i) bZ).flatMap aW.cells) _ rfl (wx ma aX _) rfl _ (g0 _) ?_;refine bg.mk _ (cL (i:=i) (by omega)) ?_;exact⟨(i+1,_,cy),hinv _ _ eN,.refl,i',.cons rfl (.cons rfl .nil)⟩
 ·refine eG.mk 4 rfl (by decide) ?_;refine d'.oE _ [] _ perm_nil (wv (d:=⟨4,cx,s1,s2,c1,fL,lo,cZ,tQ,tR,tS,tT⟩) eR (x3 gY) 4 (by decide) rfl (λh=>by omega)) (λv I' M' h x ad=>by rw[h.2.2];exact ad) ?_;rintro v dI dq -⟨rfl,rfl,rfl⟩;rw[ee];refine bd.mk ⟨fU,0,none⟩ i rfl rfl aX ?_;refine b2.iC [] (cy.aq 270++M0) ((a5++List.replicate (t.n-i) bZ).flatMap aW.cells) _ rfl (wx ma aX _) rfl _ (g0 _) ?_;refine bg.mk _ (cL (i:=i) (by omega)) ?_;exact⟨(i+1,_,cy),hinv _ _ eN,.refl,i',.cons rfl (.cons rfl .nil)⟩
 ·refine eG.mk 5 rfl (by decide) ?_;refine d'.oE _ [] _ perm_nil (wv (d:=⟨5,cx,s1,s2,c1,fL,lo,cZ,tQ,tR,tS,tT⟩) eR (x3 gY) 5 (by decide) rfl (λh=>by omega)) (λv I' M' h x ad=>by rw[h.2.2];exact ad) ?_;rintro v dI dq -⟨rfl,rfl,rfl⟩;rw[ee];refine bd.mk ⟨fU,0,none⟩ i rfl rfl aX ?_;refine b2.iC [] (cy.aq 270++M0) ((a5++List.replicate (t.n-i) bZ).flatMap aW.cells) _ rfl (wx ma aX _) rfl _ (g0 _) ?_;refine bg.mk _ (cL (i:=i) (by omega)) ?_;exact⟨(i+1,_,cy),hinv _ _ eN,.refl,i',.cons rfl (.cons rfl .nil)⟩
 ·refine eG.mk 6 rfl (by decide) ?_;refine d'.oE _ [] _ perm_nil (wv (d:=⟨6,cx,s1,s2,c1,fL,lo,cZ,tQ,tR,tS,tT⟩) eR (x3 gY) 6 (by decide) rfl (λ_=>oA (by decide))) (λv I' M' h x ad=>by rw[h.2.2];exact ad) ?_;rintro v dI dq -⟨rfl,rfl,rfl⟩;rw[ee];refine bd.mk ⟨fU,0,none⟩ i rfl rfl aX ?_;refine b2.iC [] (cy.aq 270++M0) ((a5++List.replicate (t.n-i) bZ).flatMap aW.cells) _ rfl (wx ma aX _) rfl _ (g0 _) ?_;refine bg.mk _ (cL (i:=i) (by omega)) ?_;exact⟨(i+1,_,cy),hinv _ _ eN,.refl,i',.cons rfl (.cons rfl .nil)⟩
 ·refine eG.mk 7 rfl (by decide) ?_;refine d'.oE _ [] _ perm_nil (wv (d:=⟨7,cx,s1,s2,c1,fL,lo,cZ,tQ,tR,tS,tT⟩) eR (x3 gY) 7 (by decide) rfl (λ_=>oA (by decide))) (λv I' M' h x ad=>by rw[h.2.2];exact ad) ?_;rintro v dI dq -⟨rfl,rfl,rfl⟩;rw[ee];refine bd.mk ⟨fU,0,none⟩ i rfl rfl aX ?_;refine b2.iC [] (cy.aq 270++M0) ((a5++List.replicate (t.n-i) bZ).flatMap aW.cells) _ rfl (wx ma aX _) rfl _ (g0 _) ?_;refine bg.mk _ (cL (i:=i) (by omega)) ?_;exact⟨(i+1,_,cy),hinv _ _ eN,.refl,i',.cons rfl (.cons rfl .nil)⟩
 ·refine eG.mk 8 rfl (by decide) ?_;refine d'.oE _ [] _ perm_nil (wv (d:=⟨8,cx,s1,s2,c1,fL,lo,cZ,tQ,tR,tS,tT⟩) eR (x3 gY) 8 (by decide) rfl (λ_=>oA (by decide))) (λv I' M' h x ad=>by rw[h.2.2];exact ad) ?_;rintro v dI dq -⟨rfl,rfl,rfl⟩;rw[ee];refine bd.mk ⟨fU,0,none⟩ i rfl rfl aX ?_;refine b2.iC [] (cy.aq 270++M0) ((a5++List.replicate (t.n-i) bZ).flatMap aW.cells) _ rfl (wx ma aX _) rfl _ (g0 _) ?_;refine bg.mk _ (cL (i:=i) (by omega)) ?_;exact⟨(i+1,_,cy),hinv _ _ eN,.refl,i',.cons rfl (.cons rfl .nil)⟩
 ·refine eG.mk 9 rfl (by decide) ?_;refine d'.oE _ [] _ perm_nil (wv (d:=⟨9,cx,s1,s2,c1,fL,lo,cZ,tQ,tR,tS,tT⟩) eR (x3 gY) 9 (by decide) rfl (λ_=>oA (by decide))) (λv I' M' h x ad=>by rw[h.2.2];exact ad) ?_;rintro v dI dq -⟨rfl,rfl,rfl⟩;rw[ee];refine bd.mk ⟨fU,0,none⟩ i rfl rfl aX ?_;refine b2.iC [] (cy.aq 270++M0) ((a5++List.replicate (t.n-i) bZ).flatMap aW.cells) _ rfl (wx ma aX _) rfl _ (g0 _) ?_;refine bg.mk _ (cL (i:=i) (by omega)) ?_;exact⟨(i+1,_,cy),hinv _ _ eN,.refl,i',.cons rfl (.cons rfl .nil)⟩
structure aW.le(a b:aW):Prop where
 z:a.z=true->b.z=true
 s:a.s=true->b.s=true
 f:a.f=true->b.f=true
def aW.le_refl(a:aW):a.le a:=⟨id,id,id⟩
def aW.le.trans{a b c:aW}(h:a.le b)(bc:b.le c):a.le c:=⟨λx=>bc.z (h.z x),λx=>bc.s (h.s x),λx=>bc.f (h.f x)⟩
def aW.le.antisymm{a b:aW}(h:a.le b)(bc:b.le a):a=b:=by
 obtain⟨cC,dQ,dT⟩:=a;obtain⟨b1,bW,cY⟩:=b;have e:∀ {x y:Bool},(x=true->y=true)->(y=true->x=true)->x=y:=fun {x y} h bc=>by cases x<;>cases y<;>simp_all
 have aG:cC=b1:=e h.z bc.z;have a7:dQ=bW:=e h.s bc.s;have cn:dT=cY:=e h.f bc.f;subst aG a7 cn;rfl
def aW.qM(a:aW):bZ.le a:=⟨(λh=>by cases h),(λh=>by cases h),(λh=>by cases h)⟩
def aW.Qv{a b:aW}(h:a.le b):a.kD=true->b.kD=true:=by intro ar;simp only[aW.kD,kQ]at ar |-;exact ar.imp h.z h.s
inductive eC:List aW->List aW->Prop
 |nil:eC [] []| cons {a b l m} (h:aW.le a b) (t:eC l m):eC (a::l) (b::m)
def eC.refl:∀ l,eC l l
 |[]=>.nil| a::l=>.cons a.le_refl (eC.refl l)
def eC.trans:∀ {a b c},eC a b->eC b c->eC a c
 |_,_,_,.nil,.nil=>.nil| _,_,_,.cons h t,.cons bc bq=>.cons (h.trans bc) (t.trans bq)
def eC.antisymm:∀ {a b},eC a b->eC b a->a=b
 |_,_,.nil,_=>rfl| _,_,.cons h t,.cons bc bq=>by rw[h.antisymm bc,t.antisymm bq]
def eC.len:∀ {a b},eC a b->a.length=b.length
 |_,_,.nil=>rfl| _,_,.cons h t=>by simp[t.len]
def eC.append:∀ {a b c d},eC a b->eC c d->eC (a++c) (b++d)
 |_,_,_,_,.nil,h=>h| _,_,_,_,.cons h t,bc=>.cons h (t.append bc)
def eC.getD:∀ {a b},eC a b->∀ i,(a.getD i bZ).le (b.getD i bZ)
 |_,_,.nil,i=>by simp;exact aW.le_refl _
 |_,_,.cons h t,0=>h| _,_,.cons h t,i+1=>by simpa using t.getD i
def eC.of:∀ {a b:List aW},a.length=b.length->(∀ i,i<a.length->(a.getD i bZ).le (b.getD i bZ))->eC a b
 |[],[],_,_=>.nil| x::a,y::b,ay,h=>.cons (by simpa using h 0 (by simp)) (eC.of (by simpa using ay) λi hi=>by simpa using h (i+1) (by simpa using hi))
def eC.map{α:Type}{f g:α->aW}:∀ {l:List α},(∀ x∈l,(f x).le (g x))->eC (l.map f) (l.map g)
 |[],_=>.nil| x::l,h=>.cons (h x (.head _)) (eC.map λy aE=>h y (.tail _ aE))
def eC.head{a b:List aW}(h:eC a b):(a.headD bZ).le (b.headD bZ):=by
 cases h with
 |nil=>exact aW.le_refl _| cons h _=>exact h
def eC.qM:∀ l:List aW,eC (List.replicate l.length bZ) l
 |[]=>.nil| a::l=>.cons a.qM (eC.qM l)
def X':∀ {a b:List aW},eC a b->∀ {x y:aW×Bool},x.1.le y.1->(x.2=true->y.2=true)->(a.foldl k1 x).1.le (b.foldl k1 y).1/\((a.foldl k1 x).2=true->(b.foldl k1 y).2=true)
 |_,_,.nil,_,_,aa,ab=>⟨aa,ab⟩
 |_,_,.cons h t,x,y,aa,ab=>by
  refine X' t ⟨?_,?_,?_⟩ ?_;·simp only[k1,cz];exact λg=>⟨aa.z g.1,h.z g.2⟩
  ·simp only[k1,kQ];exact λg=>g.imp aa.s h.s
  ·simp only[k1,kQ,cz];exact λg=>g.imp aa.f λg=>⟨ab g.1,h.f g.2⟩
  ·simp only[k1,cz];exact λg=>⟨ab g.1,aW.Qv h g.2⟩
def Ya:∀ {a b:List aW},eC a b->∀ {x y:aW},x.le y->(a.foldl oX x).le (b.foldl oX y)
 |_,_,.nil,_,_,aa=>aa
 |_,_,.cons h t,x,y,aa=>by
  refine Ya t ⟨?_,?_,?_⟩;·simp only[oX,kQ,cz];exact λg=>g.imp aa.z λg=>⟨aa.f g.1,h.z g.2⟩
  ·simp only[oX,kQ,cz];exact λg=>g.imp aa.s λg=>⟨aa.f g.1,h.s g.2⟩
  ·simp only[oX,cz];exact λg=>⟨aa.f g.1,h.f g.2⟩
def ajP(d:ao){a b:aW}(h:a.le b):(x8 d a).le (x8 d b):=by
 unfold x8;cases decide (d.hi=0)with
 |true=>exact aW.le_refl _
 |false=>
  refine⟨?_,h.s,?_⟩;·simp only[b',kQ,cz];exact λg=>g.imp h.z λg=>⟨g.1,h.f g.2⟩
  ·simp only[b',cz];exact λg=>⟨g.1,h.f g.2⟩
def ajQ(d:ao){a b:List aW}(h:eC a b):(gT d a).le (gT d b):=by
 have cS:=h.head;unfold gT;cases decide (d.k=0)with
 |true=>exact aW.le_refl _| false=>
 cases decide (d.k=1)with
 |true=>exact aW.le_refl _| false=>
 cases decide (d.k=2)with
 |true=>exact aW.le_refl _| false=>
 cases decide (d.k=3)with
 |true=>exact cS| false=>
 cases decide (d.k=4)with
 |true=>have ar:=X' h (x:=(⟨true,false,false⟩,true)) (y:=(⟨true,false,false⟩,true)) (aW.le_refl _) id;refine⟨ar.1.z,?_,ar.1.f⟩;simp only[b5,b',hF,hE,cz];exact λg=>⟨ar.1.s g.1,ar.2 g.2⟩
 |false=>
 cases decide (d.k=5)with
 |true=>exact Ya h (aW.le_refl _)| false=>
 cases decide (d.k=6)with
 |true=>exact ajP d cS| false=>
 cases decide (d.k=7)with
 |true=>exact⟨aW.Qv cS,id,cS.f⟩| false=>
 cases decide (d.k=8)with
 |true=>exact⟨cS.f,id,aW.Qv cS⟩| false=>exact cS
def ajR{bi zX a5 HN:List aW}(h:eC bi zX)(a4:eC a5 HN)(d:ao):eC (sU pl bi a5 d) (sU pl zX HN d):=by
 unfold sU;refine(eC.map λk _=>a4.getD _).append ?_;cases decide (d.k=3)with
 |true=>exact .cons (h.getD _) .nil| false=>exact .nil
def Yb{pl:List (ByteArray×Int)}{bi zX:List aW}(h:eC bi zX):∀ (ds:List ao) {a5 HN:List aW},eC a5 HN->eC (en pl bi ds a5) (en pl zX ds HN)
 |[],_,_,a4=>a4| d::ds,_,_,a4=>Yb h ds (a4.append (.cons (ajQ d (ajR h a4 d)) .nil))
def iq(pl:List (ByteArray×Int))(bi:List aW)(d:aP):aW:=(en pl bi d.t.ns []).getD d.t.bn.toNat bZ
def HO{bi zX:List aW}(h:eC bi zX)(d:aP):(iq pl bi d).le (iq pl zX d):=(Yb h d.t.ns .nil).getD _
def nN(pl:List (ByteArray×Int)):Nat->List aP->List aW->List aW
 |_,[],l=>l| i,d::ds,l=>nN pl (i+1) ds (l.set i (iq pl l d))
structure oY(ds:List aP)(l:List aW):Prop where
 len:l.length=ds.length
 up:∀ i (h:i<ds.length),(l.getD i bZ).le (iq (bD ds) l ds[i])
 least:∀ m:List aW,m.length=ds.length->(∀ i (h:i<ds.length),(iq (bD ds) m ds[i]).le (m.getD i bZ))->eC l m
def HP(l:List aW)(i j:Nat)(x:aW)(hi:i<l.length):(l.set i x).getD j bZ=if i=j then x else l.getD j bZ:=by
 simp only[bA,ih];by_cases e:i=j
 ·subst e;simp[hi]
 ·rw[bR e,bR e]
def oY.start(ds:List aP):oY ds (List.replicate ds.length bZ):=by
 refine⟨by simp,λi h=>?_,λm hm _=>by rw[<-hm];exact eC.qM m⟩;have:(List.replicate ds.length bZ).getD i bZ=bZ:=by simp[bA,h]
 rw[this];exact aW.qM _
def oY.step{ds:List aP}{l:List aW}(h:oY ds l){i:Nat}(hi:i<ds.length):oY ds (l.set i (iq (bD ds) l ds[i]))/\eC l (l.set i (iq (bD ds) l ds[i])):=by
 have dM:i<l.length:=by rw[h.len];exact hi
 have bm:eC l (l.set i (iq (bD ds) l ds[i])):=eC.of (by simp) λj ai=>by
  rw[HP _ _ _ _ dM];by_cases e:i=j;·subst e;rw[bN rfl];exact h.up i hi
  ·rw[bR e];exact aW.le_refl _
 refine⟨⟨by simpa using h.len,λj ai=>?_,λm hm an=>?_⟩,bm⟩
 ·rw[HP _ _ _ _ dM];by_cases e:i=j
  ·subst e;rw[bN rfl];exact HO bm _
  ·rw[bR e];exact(h.up j ai).trans (HO bm _)
 ·have Yc:=h.least m hm an;refine eC.of (by simp[h.len,hm]) λj ai=>?_;rw[HP _ _ _ _ dM];by_cases e:i=j
  ·subst e;rw[bN rfl];exact(HO Yc _).trans (an i hi)
  ·rw[bR e];exact Yc.getD j
def Qw{ds:List aP}:∀ (bj a9:List aP) {l:List aW},ds=a9++bj->oY ds l->oY ds (nN (bD ds) a9.length bj l)/\eC l (nN (bD ds) a9.length bj l) /\ (nN (bD ds) a9.length bj l=l->∀ i (h:i<ds.length),a9.length<=i->l.getD i bZ=iq (bD ds) l ds[i])
 |[],a9,l,gn,h=>⟨h,eC.refl l,λ_ i hi cI=>by rw[gn,ee]at hi;omega⟩
 |d::bj,a9,l,gn,h=>by
  have hi:a9.length<ds.length:=by rw[gn];simp
  have ak:ds[a9.length]=d:=by simp[gn]
  have dM:a9.length<l.length:=by rw[h.len];exact hi
  obtain⟨s1,s2⟩:=h.step hi;rw[ak]at s1 s2;obtain⟨iT,n7,qK⟩:=Qw bj (a9++[d]) (by rw[gn];simp) s1;rw[ch,dx,fS,c8]at iT n7 qK;refine⟨iT,s2.trans n7,λe i iN cI=>?_⟩;have aG:l.set a9.length (iq (bD ds) l d)=l:=by refine eC.antisymm ?_ s2;have:nN (bD ds) a9.length (d::bj) l=nN (bD ds) (a9.length+1) bj (l.set a9.length (iq (bD ds) l d)):=rfl;rw[this]at e;rw[e]at n7;exact n7
  have a7:nN (bD ds) (a9.length+1) bj l=l:=by have:nN (bD ds) a9.length (d::bj) l=nN (bD ds) (a9.length+1) bj (l.set a9.length (iq (bD ds) l d)):=rfl;rw[this,aG]at e;exact e
  rw[aG]at qK;by_cases aC:i=a9.length;·subst aC;have aI:=HP l a9.length a9.length (iq (bD ds) l d) dM;rw[aG,bN rfl]at aI;rw[aI,ak]
  ·exact qK a7 i iN (by omega)
structure jO(ds:List aP)(l:List aW):Prop where
 len:l.length=ds.length
 fix:∀ i (h:i<ds.length),l.getD i bZ=iq (bD ds) l ds[i]
 least:∀ m:List aW,m.length=ds.length->(∀ i (h:i<ds.length),(iq (bD ds) m ds[i]).le (m.getD i bZ))->eC l m
def oY.done{ds:List aP}{l:List aW}(h:oY ds l)(aA:nN (bD ds) 0 ds l=l):jO ds l:=
 ⟨h.len,λi hi=>(Qw ds [] rfl h).2.2 aA i hi (dD _),h.least⟩
def jO.unique{ds:List aP}{l ev:List aW}(h:jO ds l)(bc:jO ds ev):l=ev:=
 eC.antisymm (h.least ev bc.len λi hi=>by rw[<-bc.fix i hi];exact aW.le_refl _) (bc.least l h.len λi hi=>by rw[<-h.fix i hi];exact aW.le_refl _)
def Eu(x:aW):Nat:=(bif x.z then 0 else 1)+((bif x.s then 0 else 1)+(bif x.f then 0 else 1))
def zY(l:List aW):Nat:=(l.map Eu).sum
def ajS{a b:aW}(h:a.le b):Eu b<=Eu a/\(Eu a<=Eu b->a=b):=by
 obtain⟨cC,dQ,dT⟩:=a;obtain⟨b1,bW,cY⟩:=b;obtain⟨aa,ab,aj⟩:=h;cases cC<;>cases b1<;>cases dQ<;>cases bW<;>cases dT<;>cases cY<;>simp_all[Eu]
def Yd:∀ {l m:List aW},eC l m->zY m<=zY l/\(zY l<=zY m->l=m)
 |_,_,.nil=>⟨ca _,λ_=>rfl⟩| _,_,.cons h t=>by obtain⟨aa,ab⟩:=ajS h;obtain⟨t1,t2⟩:=Yd t;simp only[zY,b0,h4]at t1 t2 |-;refine⟨by omega,λh=>?_⟩;rw[ab (by omega),t2 (by omega)]
def ajT{l m:List aW}(h:eC l m)(bt:m≠l):zY m<zY l:=by obtain⟨aa,ab⟩:=Yd h;apply Nat.lt_of_le_of_ne aa;intro e;exact bt (ab (by omega)).symm
def x9(nm:ByteArray):List aP->Nat->Option Int
 |[],_=>none| d::ds,i=>bif decide (nm=d.name)then some (i:Int)else x9 nm ds (i+1)
def Ye(s n:ByteArray)(v:Int):∀ l:List (ByteArray×Int),ez s (l++[(n,v)])=match ez s l with
  |some x=>some x| none=>bif decide (s=n)then some v else none
 |[]=>rfl
 |p::l=>by
  have aL:=Ye s n v l;simp only[m4,ez];cases decide (s=p.1)with
  |true=>rfl| false=>simpa using aL
def Yf:∀ (ds:List aP) (a5:List (ByteArray×Int)) (i:Nat) (nm:ByteArray),ez nm (n8 a5 i ds)=match ez nm a5 with
  |some x=>some x| none=>x9 nm ds i
 |[],a5,i,nm=>by rw[n8,x9];cases ez nm a5<;>rfl
 |d::ds,a5,i,nm=>by
  rw[n8,Yf ds,x9];cases ak:(ez d.name a5).isSome with
  |true=>
   simp only[b5];cases ay:ez nm a5 with
   |some x=>rfl
   |none=>
    have:decide (nm=d.name)=false:=by rw[ss];intro e;rw[<-e,ay]at ak;cases ak
    rw[this];rfl
  |false=>
   simp only[b',Ye];cases ay:ez nm a5 with
   |some x=>rfl| none=>cases decide (nm=d.name)<;>rfl
def Qx(ds:List aP)(nm:ByteArray):ez nm (bD ds)=x9 nm ds 0:=Yf ds [] 0 nm
def Qy:∀ {ds:List aP} {i:Nat} {nm:ByteArray} {v:Int},x9 nm ds i=some v->∃ j:Nat,v=((i+j:Nat):Int)/\j<ds.length
 |d::ds,i,nm,v,h=>by
  unfold x9 at h;cases ak:decide (nm=d.name)with
  |true=>rw[ak]at h;simp only[b5,jY]at h;exact⟨0,by rw[<-h];rfl,by simp⟩| false=>rw[ak]at h;obtain⟨j,aa,ab⟩:=Qy h;exact⟨j+1,by rw[aa];congr 1;omega,by simpa using ab⟩
def wA(pl:List (ByteArray×Int))(ns:List ao):Bool:=ns.all λd=>!decide (d.k=3)||(ez d.t pl).isSome
def Yg{ds:List aP}{ns:List ao}(h:wA (bD ds) ns=true):X4 (bD ds) ds.length ns:=by intro d ak ae;have:=fy.1 h d ak;simp only[ae,KX,uG,uF]at this;obtain⟨v,ah⟩:=Option.isSome_iff_exists.1 this;have j2:=ah;rw[Qx]at j2;obtain⟨j,aa,ab⟩:=Qy j2;rw[c8]at aa;exact⟨j,by rw[ah,aa],ab⟩
def Yh:∀ (ds:List aP) {a5 r:List (ByteArray×Int)} {i:Nat},lS a5 i ds=some r->n8 a5 i ds=r
 |[],a5,r,i,h=>by simp only[lS,jY]at h;exact h
 |d::ds,a5,r,i,h=>by
  unfold lS at h;cases ak:(ez d.name a5).isSome with
  |true=>rw[ak]at h;cases h| false=>rw[ak]at h;rw[n8,ak];exact Yh ds h
def ajU{d:aP}{cd:ao}(aB:cd∈d.t.ns):∀ (ds:List aP) (i:Nat),d∈ds->∃ j,(j,cd)∈qE i ds:=by
 intro ds
 induction ds with
 |nil=>intro i ak;cases ak
 |cons x ds aL=>
  intro i ak;rcases ec.1 ak with e | ak;·subst e;exact⟨i,cB.2 (.inl (cN.2 ⟨cd,aB,rfl⟩))⟩
  ·obtain⟨j,ai⟩:=aL (i+1) ak;exact⟨j,cB.2 (.inr ai)⟩
def ajV(h:dz ax g=0):∀ d∈g.ds,wA (bD g.ds) d.t.ns=true:=by
 unfold dz at h;cases aa:decide ((g.n:Int)=0)with
 |true=>rw[aa]at h;cases h| false=>
 cases ab:nL g.ds with
 |false=>rw[aa,ab]at h;cases h| true=>
 cases aj:oQ ax g with
 |true=>rw[aa,ab,aj]at h;cases h| false=>
 rw[aa,ab,aj]at h;simp only[b',uG]at h;split at h
 ·cases h
 ·rename_i a5 ma;have aC:bD g.ds=a5:=Yh g.ds ma;cases aI:rP a5 g.ds with
  |false=>rw[aI]at h;cases h| true=>intro d ak;rw[aC,wA,fy];intro cd bF;obtain⟨j,ai⟩:=ajU bF g.ds 0 ak;exact fy.1 aI _ ai
def ajW(h:dz ax g=0):nL g.ds=true:=by
 unfold dz at h;cases aa:decide ((g.n:Int)=0)with
 |true=>rw[aa]at h;cases h| false=>
 cases ab:nL g.ds with
 |false=>rw[aa,ab]at h;cases h| true=>rfl
end Go.V
