/- Part 4 of what the proofs of this seat share: the executor, data in memory, walks.
-/
import Derived.Test.YthnoknnlcnikbaaGreatDoorK3
import Derived.ChangeSame
import Derived.ChangeArms
import Derived.OpenShut
import Derived.Deep.DeepHandedRow
import Derived.Lib.LaidTab
import Derived.Test.YthnoknnlcnikbaaGreatDoorRows
import Derived.Test.YthnoknnlcnikbaaGreatDoorCards
import Derived.Test.YthnoknnlcnikbaaGreatDoorTie
import Derived.WalkKit
import Derived.ProofKit
import Derived.WideKeyArgs
import Derived.Below
import Derived.JoinedOf
import Derived.Test.YthnoknnlcnikbaaGreatDoorK2
set_option linter.all false
set_option maxHeartbeats 16000000
set_option maxRecDepth 100000
namespace Go.V
open Go Go.Proofs
def dP:=@of_decide_eq_false
def e2:=@Option.some.inj
def hM:=@List.getElem_of_mem
def hc:=@List.mem_flatMap
def gh:=@List.map_map
def o0:=@List.flatMap_singleton
def qO:=@List.singleton_append
def na:=@List.perm_middle
def rV:=@List.pairwise_append
def yn:=@List.perm_append_comm_assoc
def yo:=@List.getElem_append_left
def mD:=@Nat.sub_self
def tT:=@List.foldl_append
def rW:=@List.length_set
def Cg:=@List.getElem_append_right
def wO:=@List.getElem_range
def yp:=@List.length_flatMap
def yq:=@List.reverse_append
def nO:=@Nat.ble_eq
def Ch:=@List.set_append_right
def yr:=@Nat.le_of_succ_le
def yt:=@List.flatMap_map
def Em:=@List.pairwise_flatMap
def Ci:=@List.set_cons_zero
def Cj:=@List.pairwise_map
def Ck:=@BitVec.getLsbD_or
def Lr:=@List.idxOf_lt_length_of_mem
def En:=@BitVec.toNat_ofNat
def Eo:=@Nat.mod_eq_of_lt
def Qa:=@List.pairwise_iff_getElem
def HH:=@List.take_append
def Qb:=@List.eq_of_mem_replicate
def Ls:=@List.getElem_idxOf
def Qc:=@BitVec.eq_of_getLsbD_eq
def HI:=@List.foldl_nil
def Ep:=@Nat.sub_zero
def Qd:=@List.replicate_succ
def Qe:=@BitVec.getLsbD_and
def X5:=@List.getLast?_eq_getElem?
def Qf:=@DataW.trod_string
def Qg:=@List.flatten_cons
def Qh:=@List.getElem_take
def Qi:=@DataW.trod_array
def Lt:=@List.all_map
def Lu:=@decide_true
variable{I I':aJ}{M M0:List aF}{e size sz eg h2 ln lc:Nat}{ay:List Int}{g:cg}{os:aQ}{xs vs cs:List Value}{L:List (List Int)}{P:Program}{f z:Bool}{W kZ:World}{v:Value}{cO:Array Field}{rows:List (List Value)}{α:Type}{t bf:bn}{y:Operand}{other:Prop}{c6 tJ:dR}{pl:List (ByteArray×Int)}{la:Option Addr}{ns:List al}
def qP:Nat->List a0->List (Nat×al)
 |_,[]=>[]| i,d::ds=>d.t.ns.map (λn=>(i,n))++qP (i+1) ds
def HJ:∀ (ds:List a0) (i:Nat),tS i ds=(qP i ds).map λp=>[.int .i64 p.1,p.2.val]
 |[],i=>rfl| d::ds,i=>by simp only[tS,qP,cS,gh,HJ ds (i+1)];rfl
def n'(ds:List a0):Bool:=ds.all λd=>nE d.name&&normal d.t
def l1:List (ByteArray×Int)->Nat->List a0->Option (List (ByteArray×Int))
 |aZ,_,[]=>some aZ| aZ,i,d::ds=>bif (eQ d.name aZ).isSome then none else l1 (aZ++[(d.name,(i:Int))]) (i+1) ds
def Aa(aZ:List (ByteArray×Int))(n:al):Bool:=!decide (n.k=3)||(eQ n.t aZ).isSome
def rX(aZ:List (ByteArray×Int))(ds:List a0):Bool:=(qP 0 ds).all λp=>Aa aZ p.2
def du(ay:List Int)(g:cg):Int:=
 bif decide ((g.n:Int)=0)then 4 else bif !n' g.ds then 4 else bif pX ay g then 40 else
 match l1 [] 0 g.ds with
 |none=>6| some aZ=>bif rX aZ g.ds then 0 else 41
def vm(b:Nat)(e:Int):aF:=⟨b,.cells #[.int .i64 e] 32 (0,0)⟩
def Cl{b:Nat}{e:Int}(h:vm b e∈M):cY I M ⟨b,0,none⟩ 1 [.int .i64 e]:=
 ⟨rfl,_,_,_,.inr ⟨_,h,rfl,rfl⟩,rfl,rfl⟩
def HK(w:World):(zeroValue 3).run Tryz.prog w=.ok (.int .i64 0) w:=by
 have h:(Tryz.prog.info? 3).map (λi=>i.zero)=some (some (.int .i64 0)):=by kernel_rfl
 obtain⟨i,aa,ab⟩:=ti.1 h;simp[zeroValue,typeInfo,aa,ab]
def X6(bl:ff I ay)(ax:g.ok I):Spec Tryz.prog 60 [g.val] I [] (λv I' M'=>v=.int .i64 (du ay g)/\(∀ b o,I b=some o->I' b=some o)/\M'=[]):=by
 refine b0 [2,5] a3 Tryz.func60 rfl rfl rfl ?_;intro B aw;have hL:=ax.n;have hy:=ax.ba.cap;refine bZ.mk λbW iC Qj=>?_;refine a5.mk (λaa=>?_) (λaa=>?_)
 ·refine cd.mk [] [] _ _ rfl rfl (bK rfl) rfl ?_;refine aV.mk _ (Cl (b:=bW) (e:=4) (.head _)) ?_;refine⟨_,_,.sub (fC _) .refl,?_,λ_ _ h=>h,rfl⟩;rw[du,aa];rfl
 ·have mo:g.n≠0:=by simp at aa;omega
  refine dx.inv (ι:=Nat) (λi=>{ bp:=[(1,.ref 1 0),(2,.val (ptr bW)),(19,.val (.slice g.a g.n g.c)),(20,.val (.int .i64 g.n)),(21,.val (.int .i64 i))],cl:=[(1,[.slice g.a g.n g.c])],cP:=I,da:=[vm bW 0] }) (λi=>i<=g.n/\n' (g.ds.take i)=true) (λi=>g.n-i) ?_ ?_;·exact⟨0,⟨by simp,rfl⟩,.refl,il,.cons rfl .nil⟩
  ·rintro i⟨hi,eI⟩;refine a5.mk (λh=>?_) (λh=>?_)
   ·have a4:i<g.n:=by simpa using h
    have cJ:i<g.ds.length:=by omega
    obtain⟨aP,bI,bt⟩:=ax.ba.row a0.cH a4 cJ;have hb:g.ds[i]∈g.ds:=bJ cJ;have bad:(nE g.ds[i].name&&normal g.ds[i].t)=false->du ay g=4:=λag=>by
     have:n' g.ds=false:=by unfold n';rw[K9];exact⟨_,hb,by simp[ag]⟩
     rw[du,aa,this];rfl
    refine bA.mk aP i bI rfl a4 ?_;refine aV.mk _ (bt _) ?_;refine bc.mk [] [vm bW 0] _ (.refl _) (Pz _ g.ds[i].name) ?_;rintro v I' M' -⟨rfl,rfl,rfl⟩;refine cT.mk (λab=>?_) (λab=>?_)
    ·have hm:nE g.ds[i].name=true:=by simpa using ab
     refine bc.mk [] [vm bW 0] _ (.refl _) (ajJ bl.c (ax.ds _ hb).t) ?_;rintro v I' M' -⟨rfl,rfl,rfl⟩;refine a5.mk (λai=>?_) (λai=>?_)
     ·have eD:normal g.ds[i].t=false:=by simpa using ai
      refine cd.mk [] [] _ _ rfl rfl (bK rfl) rfl ?_;refine aV.mk _ (Cl (b:=bW) (e:=4) (.head _)) ?_;refine⟨_,_,.sub (fC _) .refl,?_,λ_ _ h=>h,rfl⟩;rw[bad (by rw[hm,eD];rfl)];rfl
     ·have eD:normal g.ds[i].t=true:=by simpa using ai
      refine be.mk _ (dc (i:=i) (by omega)) ?_;refine⟨i+1,⟨⟨by omega,?_⟩,by omega⟩,.refl,il,.cons rfl .nil⟩;unfold n' at eI |-;rw[gH cJ,Hi,eI];simp[hm,eD]
    ·have hm:nE g.ds[i].name=false:=by simpa using ab
     refine cd.mk [] [] _ _ rfl rfl (bK rfl) rfl ?_;refine aV.mk _ (Cl (b:=bW) (e:=4) (.head _)) ?_;refine⟨_,_,.sub (fC _) .refl,?_,λ_ _ h=>h,rfl⟩;rw[bad (by rw[hm];rfl)];rfl
   ·have c8:g.n<=i:=by simpa using h
    rw[fS (by omega)]at eI;refine bc.mk [] [vm bW 0] _ (.refl _) (ajL bl ax) ?_;rintro v I1 M' -⟨rfl,db,rfl⟩;refine a5.mk (λab=>?_) (λab=>?_);·refine cd.mk [] [] _ _ rfl rfl (bK rfl) rfl ?_;refine aV.mk _ (Cl (b:=bW) (e:=40) (.head _)) ?_;refine⟨_,_,.sub (fC _) .refl,?_,db,rfl⟩;rw[du,aa,eI,ab];rfl
    ·have Er:du ay g=match l1 [] 0 g.ds with
       |none=>6| some aZ=>bif rX aZ g.ds then 0 else 41:=by
      rw[du,aa,eI,ab];rfl
     rw[Er];have rP:=ax.mono db;refine bF.makeMap a3 rfl (by simp) rfl rfl rfl λjC=>?_;refine bZ.mk λea Cm Lv=>?_;refine cd.mk [] [⟨jC,jB []⟩,vm bW 0] _ _ rfl rfl (bK rfl) rfl ?_;refine dx.inv (ι:=Nat×List (ByteArray×Int)) (λx=>{ bp:=[(1,.ref 1 0),(2,.val (ptr bW)),(5,.val (ptr ea)),(43,.val (.slice g.a g.n g.c)),(44,.val (.int .i64 g.n)),(45,.val (.int .i64 x.1))],cl:=[(1,[.slice g.a g.n g.c])],cP:=I1,da:=[⟨ea,.cells #[.map (some jC)] 155 (0,0)⟩,⟨jC,jB x.2⟩,vm bW 0] }) (λx=>x.1<=g.n/\l1 [] 0 g.ds=l1 x.2 x.1 (g.ds.drop x.1)) (λx=>g.n-x.1) ?_ ?_;·exact⟨(0,[]),⟨by simp,rfl⟩,.refl,zz,.cons rfl .nil⟩
     ·rintro⟨i,aZ⟩⟨hi,n5⟩;simp only at hi n5;refine a5.mk (λh=>?_) (λh=>?_)
      ·have a4:i<g.n:=by simpa using h
       have cJ:i<g.ds.length:=by omega
       obtain⟨aP,bI,bt⟩:=rP.ba.row a0.cH a4 cJ;have lY:g.ds.drop i=g.ds[i]::g.ds.drop (i+1):=fi cJ;refine bA.mk aP i bI rfl a4 ?_;refine aV.mk _ (bt _) ?_;refine aV.mk [.map (some jC)] ⟨rfl,_,_,_,.inr ⟨_,.head _,rfl,rfl⟩,rfl,rfl⟩ ?_;refine bF.lookup a3 rfl (by simp) rfl rfl rfl rfl (λw=>HK w) (l:=aZ) (g:=jC) rfl rfl (by simp) ?_;refine a5.mk (λai=>?_) (λai=>?_);·refine cd.mk [⟨ea,.cells #[.map (some jC)] 155 (0,0)⟩,⟨jC,jB aZ⟩] [] _ _ rfl rfl (bK rfl) rfl ?_;refine aV.mk _ (Cl (b:=bW) (e:=6) (.tail _ (.tail _ (.head _)))) ?_;refine⟨_,_,.sub (fC _) .refl,?_,db,rfl⟩;rw[n5,lY,l1,ai];rfl
       ·have aA:eQ g.ds[i].name aZ=none:=by simpa using ai
        refine aV.mk [.map (some jC)] ⟨rfl,_,_,_,.inr ⟨_,.head _,rfl,rfl⟩,rfl,rfl⟩ ?_;refine bF.X4 a3 rfl rfl rfl rfl rfl rfl rfl rfl rfl aA (Mr:=[⟨ea,.cells #[.map (some jC)] 155 (0,0)⟩,vm bW 0]) (List.Perm.swap _ _ _) ?_;refine be.mk _ (dc (i:=i) (by omega)) ?_;refine⟨(i+1,aZ++[(g.ds[i].name,(i:Int))]),⟨⟨by simp only;omega,?_⟩,by simp only;omega⟩,.perm (List.Perm.swap _ _ _) .refl,zz,.cons rfl .nil⟩;simp only;rw[n5,lY,l1,ai];rfl
      ·have aw3:g.n<=i:=by simpa using h
       have fk:l1 [] 0 g.ds=some aZ:=by rw[n5,mr (by omega),l1]
       rw[fk];refine bc.mk [] [⟨ea,.cells #[.map (some jC)] 155 (0,0)⟩,⟨jC,jB aZ⟩,vm bW 0] _ (.refl _) (ajN g) ?_;rintro v eE dy -⟨c3,rfl,yu,gx,rfl⟩;have m6:=rP.mono gx;have X7:∀ b o,I b=some o->eE b=some o:=λb o h=>gx _ _ (db _ _ h);refine c2.range a3 rfl rfl rfl .refl (ajO m6 yu) (λvs h=>?_) (λk I' M'=>(∀ b o,eE b=some o->I' b=some o)/\((qP 0 g.ds).take k).all (λp=>Aa aZ p.2)=true/\M'=[⟨ea,.cells #[.map (some jC)] 155 (0,0)⟩,⟨jC,jB aZ⟩,vm bW 0]) (λex I' M'=>ex=.ret/\(∀ b o,eE b=some o->I' b=some o)/\rX aZ g.ds=false/\M'=[⟨ea,.cells #[.map (some jC)] 155 (0,0)⟩,⟨jC,jB aZ⟩,vm bW 41]) ⟨λ_ _ h=>h,rfl,rfl⟩ ?_ ?_ ?_;·rw[HJ]at h;obtain⟨p,_,rfl⟩:=c0.1 h;rfl
       ·rintro k ae I' M' -⟨kV,bi,rfl⟩l B aw hx;have yv:k<(qP 0 g.ds).length:=by simpa[HJ]using ae
        generalize aH:(qP 0 g.ds)[k]=p;have aj:(tS 0 g.ds)[k]=[.int .i64 p.1,p.2.val]:=by simp only[HJ,gg,aH]
        rw[aj];have next:Aa aZ p.2=true->((qP 0 g.ds).take (k+1)).all (λp=>Aa aZ p.2)=true:=λh=>by rw[gH yv,Hi,bi,aH];simp[h]
        refine a5.mk (λai=>?_) (λai=>?_)
        ·refine⟨_,_,.refl,kV,next ?_,rfl⟩;have sV:decide (p.2.k=3)=false:=by simpa using ai
         simp[Aa,sV]
        ·have sV:decide (p.2.k=3)=true:=by simpa using ai
         refine aV.mk [.map (some jC)] ⟨rfl,_,_,_,.inr ⟨_,.head _,rfl,rfl⟩,rfl,rfl⟩ ?_;refine bF.lookup a3 rfl (by simp) rfl rfl rfl rfl (λw=>HK w) (l:=aZ) (g:=jC) rfl rfl (by simp) ?_;refine a5.mk (λaL=>?_) (λaL=>?_)
         ·refine cd.mk [⟨ea,.cells #[.map (some jC)] 155 (0,0)⟩,⟨jC,jB aZ⟩] [] _ _ rfl rfl (bK rfl) rfl ?_;refine⟨_,_,.refl,rfl,kV,?_,rfl⟩;unfold rX;rw[K9];have Cn:(eQ p.2.t aZ).isSome=false:=by simpa using aL
          exact⟨p,by rw[<-aH];exact bJ yv,by simp[Aa,sV,Cn]⟩
         ·have Cn:(eQ p.2.t aZ).isSome=true:=by simpa using aL
          exact⟨_,_,.refl,kV,next (by simp[Aa,Cn]),rfl⟩
       ·rintro I' M' -⟨kV,bi,rfl⟩;have Qk:rX aZ g.ds=true:=by unfold rX;rw[fS (by simp[HJ])]at bi;exact bi
        refine cd.mk [⟨ea,.cells #[.map (some jC)] 155 (0,0)⟩,⟨jC,jB aZ⟩] [] _ _ rfl rfl (bK rfl) rfl ?_;refine aV.mk _ (Cl (b:=bW) (e:=0) (.tail _ (.tail _ (.head _)))) ?_;refine⟨_,_,.sub (fC _) .refl,?_,λb o h=>kV _ _ (X7 _ _ h),rfl⟩;simp only[Qk];rfl
       ·rintro ex I' M' -⟨rfl,kV,Qk,rfl⟩;refine⟨by simp,?_⟩;refine aV.mk _ (Cl (b:=bW) (e:=41) (.tail _ (.tail _ (.head _)))) ?_;refine⟨_,_,.sub (fC _) .refl,?_,λb o h=>kV _ _ (X7 _ _ h),rfl⟩;simp only[Qk];rfl
structure wP where
 a:Option Addr
 n:Nat
 c:Nat
 l:List Int
def wP.val(r:wP):Value:=.slice r.a r.n r.c
structure wP.ok(I:aJ)(r:wP):Prop where
 ba:cD I r.a r.n r.c 1 8 (r.l.map (.int .i64 ·))
def wP.ok.n{r:wP}(h:r.ok I):r.l.length=r.n:=by have:=h.ba.len;simpa using this
def wP.ok.mono{r:wP}(h:r.ok I)(bB:∀ b o,I b=some o->I' b=some o):r.ok I':=⟨h.ba.mono bB⟩
structure tU where
 rows:List wP
 a:Option Addr
 n:Nat
 c:Nat
def tU.val(x:tU):Value:=.slice x.a x.n x.c
structure tU.ok(I:aJ)(x:tU):Prop where
 ba:cD I x.a x.n x.c 1 24 (x.rows.map wP.val)
 rows:∀ r∈x.rows,r.ok I
def tU.ok.n{x:tU}(h:x.ok I):x.rows.length=x.n:=by have:=h.ba.len;simpa using this
def tU.ok.mono{x:tU}(h:x.ok I)(bB:∀ b o,I b=some o->I' b=some o):x.ok I':=⟨h.ba.mono bB,λr af=>(h.rows r af).mono bB⟩
def aQ.Lw{b:Nat}(h:os.ok size xs)(ag:os.n*b<=140737488355328)(bB:∀ g,os.a=some g->I g=none)(Mr:List aF) :
  ∃ I',h6 [] I (os.ar e++Mr) I' Mr/\(∀ b o,I b=some o->I' b=some o)/\cD I' (os.a.map λg=>⟨g,0,none⟩) os.n os.c size b xs:=by
 obtain⟨a,n,c,aU⟩:=os;cases a with
 |none=>obtain⟨aa,ab⟩:=h.nil rfl;simp only at aa ab;subst aa;subst ab;exact⟨I,.refl,λ_ _ h=>h,h.len,⟨b2 _,by simp⟩,.inl rfl⟩
 |some g=>obtain⟨aa,ab,ai,aL⟩:=h.cap g rfl;have ax:=bB g rfl;exact⟨ins I g (.cells aU.toArray e (0,0)),.n1 rfl (by simp) .refl,mz ax,h.len,⟨ab,ag⟩,.inr ⟨⟨g,0,none⟩,rfl,rfl,_,_,_,pS ..,by simpa using aL⟩⟩
def h3:aQ:=⟨none,0,0,[]⟩
def k0(size:Nat):h3.ok size []:=⟨by simp[h3],λ_=>⟨rfl,rfl⟩,λg h=>by cases h⟩
def aQ.ok.pY{l:List Int}(h:os.ok 1 (l.map (Value.int .i64))):os.n=l.length:=by have:=h.len;simp at this;omega
structure wQ where
 a:Option Addr
 n:Nat
 c:Nat
 l:List Bool
def wQ.val(r:wQ):Value:=.slice r.a r.n r.c
structure wQ.ok(I:aJ)(r:wQ):Prop where
 ba:cD I r.a r.n r.c 1 1 (r.l.map Value.bool)
def wQ.ok.n{r:wQ}(h:r.ok I):r.l.length=r.n:=by have:=h.ba.len;simpa using this
def wQ.ok.mono{r:wQ}(h:r.ok I)(bB:∀ b o,I b=some o->I' b=some o):r.ok I':=⟨h.ba.mono bB⟩
def qQ(m:List Bool)(k:Nat):Prop:=m.getD k false=true
def wR(m:List Bool)(o:List Int):List Int->List Bool×List Int
 |[]=>(m,o)| k::ks=>bif m.getD k.toNat false then wR m o ks else wR (m.set k.toNat true) (o++[k]) ks
def yw:List Bool->Nat
 |[]=>0| b::s=>(bif b then 0 else 1)+yw s
def X8:∀ (m:List Bool) (k:Nat),k<m.length->m.getD k false=false->yw (m.set k true)+1=yw m
 |b::m,0,_,h=>by
  have:b=false:=by simpa using h
  subst this;simp[yw];omega
 |b::m,k+1,ae,h=>by have:=X8 m k (by simpa using ae) (by simpa using h);simp only[List.set_cons_succ,yw];omega
def Ql{m:List Bool}{k a:Nat}(ae:k<m.length):qQ (m.set k true) a ↔ a=k\/qQ m a:=by
 unfold qQ;simp only[bM,iv];by_cases e:k=a
 ·subst e;simp[ae]
 ·rw[bP e];constructor
  ·exact .inr
  ·rintro(h | h)
   ·exact(e h.symm).elim
   ·exact h
def valid(n:Nat)(l:List Int):Prop:=∀ k∈l,0<=k/\k<n
structure ajR(m:List Bool)(o ks:List Int)(r:List Bool×List Int):Prop where
 len:r.1.length=m.length
 mono:∀ a,qQ m a->qQ r.1 a
 all:∀ k∈ks,qQ r.1 k.toNat
 only:∀ a,qQ r.1 a->qQ m a\/((a:Int)∈ks/\(a:Int)∈r.2)
 nB:∀ k∈o,k∈r.2
 b3:∀ k∈r.2,k∈o\/(k∈ks/\qQ r.1 k.toNat)
 Ln:2*yw r.1+r.2.length<=2*yw m+o.length
def Qm{n:Nat}:∀ (ks:List Int) (m:List Bool) (o:List Int),m.length=n->valid n ks->ajR m o ks (wR m o ks)
 |[],m,o,_,_=>⟨rfl,λ_ h=>h,λk ae=>by simp at ae,λa h=>.inl h,λk h=>h,λk h=>.inl h,b2 _⟩
 |k::ks,m,o,hm,aj=>by
  have ae:=aj k (by simp);have j3:valid n ks:=λx ad=>aj x (by simp[ad]);have cW:k.toNat<m.length:=by omega
  unfold wR;cases ag:m.getD k.toNat false with
  |true=>
   have h:=Qm ks m o hm j3;simp only[cp];refine⟨h.len,h.mono,λx ad=>?_,λa a6=>?_,h.nB,λx ad=>?_,h.Ln⟩
   ·rcases eA.1 ad with rfl | ad
    ·exact h.mono _ ag
    ·exact h.all x ad
   ·rcases h.only a a6 with aa | aa
    ·exact .inl aa
    ·exact .inr ⟨by simp[aa.1],aa.2⟩
   ·rcases h.b3 x ad with aa | aa
    ·exact .inl aa
    ·exact .inr ⟨by simp[aa.1],aa.2⟩
  |false=>
   have h:=Qm ks (m.set k.toNat true) (o++[k]) (by simpa using hm) j3;have av:=X8 m k.toNat cW ag;have HL:qQ (wR (m.set k.toNat true) (o++[k]) ks).1 k.toNat:=h.mono _ ((Ql cW).2 (.inl rfl));have iF:k∈(wR (m.set k.toNat true) (o++[k]) ks).2:=h.nB k (by simp);simp only[cb];refine⟨by rw[h.len];simp,λa a6=>h.mono a ((Ql cW).2 (.inr a6)),λx ad=>?_,λa a6=>?_,λx ad=>h.nB x (by simp[ad]),λx ad=>?_,?_⟩
   ·rcases eA.1 ad with rfl | ad
    ·exact HL
    ·exact h.all x ad
   ·rcases h.only a a6 with aa | aa
    ·rcases(Ql cW).1 aa with rfl | aa
     ·have e:((k.toNat:Nat):Int)=k:=by omega
      rw[e];exact .inr ⟨by simp,iF⟩
     ·exact .inl aa
    ·exact .inr ⟨by simp[aa.1],aa.2⟩
   ·rcases h.b3 x ad with aa | aa
    ·simp only[cC,eC]at aa;rcases aa with aa | rfl
     ·exact .inl aa
     ·exact .inr ⟨by simp,HL⟩
    ·exact .inr ⟨by simp[aa.1],aa.2⟩
   ·have:=h.Ln;simp only[cm,eo,g3]at this;omega
inductive Comes(L:List (List Int))(i:Nat):Nat->Prop
 |self:Comes L i i| next {a k:Nat} (h:Comes L i a) (ae:(k:Int)∈L.getD a []):Comes L i k
structure Qn(L:List (List Int))(i:Nat)(m:List Bool)(o:List Int):Prop where
 len:m.length=L.length
 val:valid L.length o
 X9:∀ k∈o,qQ m k.toNat
 cl:∀ a,qQ m a->(a:Int)∈o\/∀ k∈L.getD a [],qQ m k.toNat
 X':∀ a,qQ m a->Comes L i a
 self:qQ m i
def Qn.step(b8:∀ l∈L,valid L.length l){i:Nat}{m:List Bool}{o:List Int}{w:Int}(h:Qn L i m (o++[w])) :
  Qn L i (wR m o (L.getD w.toNat [])).1 (wR m o (L.getD w.toNat [])).2/\2*yw (wR m o (L.getD w.toNat [])).1+(wR m o (L.getD w.toNat [])).2.length<2*yw m+(o++[w]).length:=by
 have hw:=h.val w (by simp);have Co:w.toNat<L.length:=by omega
 have ajS:L.getD w.toNat []=L[w.toNat]:=by simp[bM,Co]
 have aj:valid L.length (L.getD w.toNat []):=by rw[ajS];exact b8 _ (bJ Co)
 have v:=Qm (L.getD w.toNat []) m o h.len aj;have PI:=h.X9 w (by simp);have ajT:=h.X' _ PI;refine⟨⟨v.len.trans h.len,λk ae=>?_,λk ae=>?_,λa a6=>?_,λa a6=>?_,v.mono _ h.self⟩,?_⟩
 ·rcases v.b3 k ae with aa | aa
  ·exact h.val k (by simp[aa])
  ·exact aj k aa.1
 ·rcases v.b3 k ae with aa | aa
  ·exact v.mono _ (h.X9 k (by simp[aa]))
  ·exact aa.2
 ·rcases v.only a a6 with aa | aa
  ·rcases h.cl a aa with ab | ab
   ·simp only[cC,eC]at ab;rcases ab with ab | ab
    ·exact .inl (v.nB _ ab)
    ·have e:a=w.toNat:=by omega
     subst e;exact .inr v.all
   ·exact .inr λk ae=>v.mono _ (ab k ae)
  ·exact .inl aa.2
 ·rcases v.only a a6 with aa | aa
  ·exact h.X' a aa
  ·exact .next ajT aa.1
 ·have:=v.Ln;simp only[cm,eo,g3];omega
def Ya(R:List (List Bool))(i k:Nat):Bool:=(R.getD i []).getD k false
def Qo(R:List (List Bool))(i k:Nat):Prop:=Ya R i k=true/\Ya R k i=true
def Qo.symm{R:List (List Bool)}{i j:Nat}(h:Qo R i j):Qo R j i:=⟨h.2,h.1⟩
def Comes.trans{i j k:Nat}(aa:Comes L i j)(ab:Comes L j k):Comes L i k:=by
 induction ab with
 |self=>exact aa| next _ ae aN=>exact .next aN ae
structure Lx where
 rows:List wQ
 a:Option Addr
 n:Nat
 c:Nat
def Lx.val(x:Lx):Value:=.slice x.a x.n x.c
structure Lx.ok(I:aJ)(x:Lx):Prop where
 ba:cD I x.a x.n x.c 1 24 (x.rows.map wQ.val)
 rows:∀ r∈x.rows,r.ok I
def rY(W:World):aJ:=λb=>W.heap[b]?
def ajU(W:World):eN (rY W) [] W:=⟨λb o h=>h,(λx ad=>by cases ad),(λx ad=>by cases ad),DF⟩
structure Cp(W kZ:World):Prop where
 dK:∀ b,b<W.heap.size->kZ.heap[b]?=W.heap[b]?
 sz:W.heap.size<=kZ.heap.size
 out:oB W kZ
def ajV{f:Nat}{args:List Value}{post:Value->aJ->List aF->Prop}(h:wh P f args (rY W) [] post) :
  Calls P f args.toArray W λe kZ=>∃ v,e=.returned v/\(∃ I' M',post v I' M')/\Cp W kZ:=by
 refine(h.2 W (ajU W)).mono ?_;rintro e kZ⟨v,I',M',rfl,aH,_,eG⟩;exact⟨v,rfl,⟨I',M',aH⟩,λb ag=>eG.dK b ag (λy aE=>by cases aE),eG.sz,eG.out⟩
def Cp.kept(h:Cp W kZ)(may:MemPlace->Prop):W.keptBut kZ may:=by
 refine⟨h.out.1,h.out.2,λi hi=>?_⟩;rw[h.dK i hi];cases W.heap[i]? with
 |none=>rfl| some o=>cases o<;>simp
def Cp.frozen(h:Cp W kZ){a:Addr}(a6:a.block<W.heap.size):kZ.frozen? a=W.frozen? a:=by unfold World.frozen?;rw[h.dK _ a6]
variable{H:Type}{enc:TypeId×Value->H}{P:Program}
def ajW{f:Func}{s:ChangeSpec}{apart fresh handsOn again:Bool}{args:Array Value}{ds gs:List (DataW H)}{before pa pv:List MemPlace}(iB:DataW.Whole enc P f.params.toList s.vars apart W args.toList ds gs before)(HM:∀ (b:Nat) (fL:Nat->Bool) (ah:Bool),DataW.TrodAll enc P kZ b fL ah f.resultTypes.toList (v.resultList f.resultTypes.size) (s.fn H (ds++gs)).results [])(nb:∀ fL:Nat->Bool,(∀ p∈before,fL p.block=true)->DataW.TrodAll enc P kZ 0 fL true f.params.toList args.toList (s.fn H (ds++gs)).args pa)(Yb:∀ fL:Nat->Bool,(∀ p∈before,fL p.block=true)->DataW.TrodVars enc P kZ fL s.vars (s.fn H (ds++gs)).vars pv)(Ab:before=pa++pv)(ae:Cp W kZ)(bi:∀ (j:Nat) (t:TypeId) (r:Value),f.resultTypes[j]?=some t->(v.resultList f.resultTypes.size)[j]?=some r->Value.okWide P kZ .any 0 t r) :
  s.post enc P f apart fresh handsOn again W args v kZ:=by
 have hold:∀ p∈before,(λb=>decide (b<W.heap.size)) p.block=true:=λp aH=>by simpa using iB.lt p aH
 have a4:∀ p∈before,p.block<W.heap.size:=λp aH=>iB.lt p aH;refine⟨ds,gs,before,[],pa,pv,iB,HM _ _ _,nb _ hold,Yb _ hold,World.keptBut_mono (λp aH=>⟨aH,?_⟩) (ae.kept (·∈before)),λ_=>?_⟩
 ·rw[Ab,cC]at aH;exact Or.inr aH
 ·obtain⟨_,_,_,_,_,bd,aD⟩:=iB;refine⟨bi,_,_,([]++pa)++pv,⟨[]++pa,pv,ChangeShapes.trodAll_append (nb _ (λ_ _=>rfl)) (HM _ _ _),Yb _ (λ_ _=>rfl),rfl,?_,?_⟩,?_⟩
  ·intro b off aH;have vn:MemPlace.cell b off∈before:=by rw[Ab];simpa using aH
   rw[ae.frozen (a:=⟨b,off,none⟩) (a4 _ vn)];exact bd b off vn
  ·intro a6;have:=aD a6;rw[Ab]at this;simpa using this
  ·intro p aH _;rw[Ab];simpa using aH
def yx:DataW H->Option Value
 | .lit (.int k z)=>some (.int k z)| .lit (.string l)=>some (.string ⟨l.toArray⟩)| .lit (.bool b)=>some (.bool b)| _=>none
def HN(P:Program)(e:TypeId):Bool:=match P.underlying e with
 |some .bool | some (.int _) | some .string=>true| _=>false
section
variable{w:World}{bC:Nat}{fL:Nat->Bool}{held:Bool}{eg:Nat}{t e:TypeId}{cs:List Value}{d:DataW H}{p:List MemPlace}
def Yc(he:HN P e=true)(h:DataW.trod enc P w bC fL held eg e cs=some (d,p))(aj:yx d=some v):cs=[v]:=by
 unfold HN at he;split at he
 ·rename_i hu;obtain⟨b,rfl,ad⟩:=DataW.trod_bool hu h;cases ad;simpa[yx]using aj
 ·rename_i k hu;obtain⟨n,rfl,ad,_⟩:=DataW.trod_int hu h;cases ad;simpa[yx]using aj
 ·rename_i hu;obtain⟨s,rfl,ad,_⟩:=Qf hu h;cases ad;simpa[yx]using aj
 ·cases he
def Ly{α β:Type}{f:α->Option β}:∀ {l:List α} {r:List β},l.mapM f=some r->r.length=l.length/\∀ i (h:i<l.length) (bj:i<r.length),f l[i]=some r[i]
 |[],r,h=>by simp at h;subst h;exact⟨rfl,λi h=>by simp at h⟩
 |x::l,r,h=>by
  simp only[Gu,Option.bind_eq_bind,KO,Option.pure_def,kJ]at h;obtain⟨b,ag,mR,fA,rfl⟩:=h;obtain⟨aa,ab⟩:=Ly fA;refine⟨by simp[aa],λi hi cG=>?_⟩;cases i with
  |zero=>simpa using ag| succ i=>simpa using ab i (by simpa using hi) (by simpa using cG)
def Yd{cs vs:List Value}(aA:cs.length=vs.length)(h:∀ i (hi:i<vs.length),(cs.drop i).take 1=[vs[i]]):cs=vs:=by apply oH aA;intro i aa ab;have:=h i ab;rw[fi aa,ry,qx]at this;simpa using this
def Ye{n:Nat}(au:P.underlying t=some (.array n e))(he:HN P e=true)(HO:P.cellsOf e=1)(ey:P.cellsOf t=n){ds:List (DataW H)}(h:DataW.trod enc P w bC fL held eg t cs=some (.agg ds,p))(aj:ds.mapM yx=some vs):cs=vs:=by
 obtain⟨xs,m,rfl,ad,aA,kb,hi⟩:=Qi au h;have fD:ds=xs.map (·.1):=by have:=congrArg Prod.fst ad;simpa using this
 obtain⟨a',bg⟩:=Ly aj;have sW:vs.length=n:=by rw[a',fD];simpa using kb
 refine Yd (by rw[aA,ey,sW]) λi cG=>?_;have aa:=hi i (by omega);rw[HO,gP]at aa;have vo:i<xs.length:=by omega
 rw[dt vo]at aa;have ab:=bg i (by rw[fD];simpa using vo) cG;have ai:ds[i]'(by rw[fD];simpa using vo)=xs[i].1:=by simp[fD]
 rw[ai]at ab;exact Yc he (d:=xs[i].1) (p:=xs[i].2) aa ab
def ajX(au:P.underlying t=some (.struct cO))(aB:∀ (i:Nat) (f:Field),cO[i]?=some f->HN P f.type=true/\f.offset=i/\P.cellsOf f.type=1)(ey:P.cellsOf t=cO.size){ds:List (DataW H)}(h:DataW.trod enc P w bC fL held eg t cs=some (.agg ds,p))(aj:ds.mapM yx=some vs):cs=vs:=by
 obtain⟨xs,m,rfl,ad,aA,kb,hi⟩:=DataW.trod_struct au h;have fD:ds=xs.map (·.1):=by have:=congrArg Prod.fst ad;simpa using this
 obtain⟨a',bg⟩:=Ly aj;have sW:vs.length=cO.size:=by rw[a',fD];simpa using kb
 refine Yd (by rw[aA,ey,sW]) λi cG=>?_;have Yf:i<cO.size:=by omega
 obtain⟨eK,cR,g'⟩:=aB i cO[i] (OD Yf);have aa:=hi i cO[i] (OD Yf);rw[cR,g']at aa;have vo:i<xs.length:=by omega
 rw[dt vo]at aa;have ab:=bg i (by rw[fD];simpa using vo) cG;have ai:ds[i]'(by rw[fD];simpa using vo)=xs[i].1:=by simp[fD]
 rw[ai]at ab;exact Yc eK (d:=xs[i].1) (p:=xs[i].2) aa ab
def Yg{sz:Nat}:∀ (rows:List (List Value)) (cs:List Value),cs.length=rows.length*sz->(∀ i (hi:i<rows.length),(cs.drop (i*sz)).take sz=rows[i])->cs=rows.flatten
 |[],cs,aA,_=>iD (by simpa using aA)
 |r::rows,cs,aA,h=>by
  have aw:=h 0 (by simp);simp only[zB,tA,tw]at aw;rw[eo,lT,oI]at aA;have aN:=Yg (sz:=sz) rows (cs.drop sz) (by rw[qw];omega) λi hi=>by have:=h (i+1) (by simpa using hi);rw[DU,show sz+i*sz=(i+1)*sz from by rw[lT];omega];simpa using this
  rw[Qg,<-aN,<-aw,pM]
def ajY{n:Nat}(au:P.underlying t=some (.array n e))(HO:P.cellsOf e=sz)(ey:P.cellsOf t=n*sz){ds:List (DataW H)}(h:DataW.trod enc P w bC fL held eg t cs=some (.agg ds,p))(af:rows.length=ds.length)
  (fq:∀ i (hi:i<ds.length) (cG:i<rows.length) eg cs p,DataW.trod enc P w bC fL held eg e cs=some (ds[i],p)->cs=rows[i]):cs=rows.flatten:=by
 obtain⟨xs,m,rfl,ad,aA,kb,hi⟩:=Qi au h;have fD:ds=xs.map (·.1):=by have:=congrArg Prod.fst ad;simpa using this
 have eJ:rows.length=n:=by rw[af,fD];simpa using kb
 refine Yg (sz:=sz) rows cs (by rw[aA,ey,eJ]) λi cG=>?_;have aa:=hi i (by omega);rw[HO]at aa;have vo:i<xs.length:=by omega
 rw[dt vo]at aa;have ai:ds[i]'(by rw[fD];simpa using vo)=xs[i].1:=by simp[fD]
 exact fq i (by rw[fD];simpa using vo) cG m _ xs[i].2 (by rw[ai];exact aa)
def Yh(d:DataW H):Option (List Value):=match d with
 | .agg l=>l.mapM yx| _=>none
def Qp{n:Nat}(au:P.underlying t=some (.array n e))(HO:P.cellsOf e=sz)(ey:P.cellsOf t=n*sz){ds:List (DataW H)}(h:DataW.trod enc P w bC fL held eg t cs=some (.agg ds,p))(af:ds.mapM Yh=some rows)
  (fq:∀ eg cs p l row,DataW.trod enc P w bC fL held eg e cs=some (.agg l,p)->l.mapM yx=some row->cs=row):cs=rows.flatten:=by
 obtain⟨a',bg⟩:=Ly af;refine ajY au HO ey h a' λi hi cG eg cs p bj=>?_;have ab:=bg i hi cG;unfold Yh at ab;split at ab
 ·rename_i l aA;rw[aA]at bj;exact fq _ _ _ _ _ bj ab
 ·cases ab
end
end Go.V
namespace Go.V
open Go Go.Proofs
variable{I I':aJ}{M M0:List aF}{e size sz eg h2 ln lc:Nat}{ay:List Int}{g:cg}{os:aQ}{xs vs cs:List Value}{L:List (List Int)}{P:Program}{f z:Bool}{W kZ:World}{v:Value}{cO:Array Field}{rows:List (List Value)}{α:Type}{t bf:bn}{y:Operand}{other:Prop}{c6 tJ:dR}{pl:List (ByteArray×Int)}{la:Option Addr}{ns:List al}
def Lz{n:String}{g:Nat}{cs:Array Value}(ax:P.globalNamed n=some g)(h:W.var? P n=some cs):∃ T an,W.heap[g]?=some (.cells cs T an):=by
 simp only[World.var?,ax,Option.bind_some]at h;split at h
 ·rename_i c T an c4;cases h;exact⟨T,an,c4⟩
 ·cases h
def hN:List Int:=[0,1,56,2,57,49,28,3,61,58,42,50,38,29,17,4,62,47,59,36,45,43,51,22,53,39,33,30,24,18,12,5,63,55,48,27,60,41,37,16,46,35,44,21,52,32,23,11,54,26,40,15,34,20,31,10,25,14,19,9,13,8,7,6]
def ajZ{bo:List (String×DataW Unit)}(h:laidMet Tryz.prog ([("math/bits.deBruijn32tab",YthnoknnlcnikbaaGreatDoor.Rows.laid_math_bits_deBruijn32tab),("math/bits.deBruijn64tab",YthnoknnlcnikbaaGreatDoor.Rows.laid_math_bits_deBruijn64tab),("internal/strconv.uint64pow10",YthnoknnlcnikbaaGreatDoor.Rows.laid_internal_strconv_uint64pow10),("bonsai/tree.counts",YthnoknnlcnikbaaGreatDoor.Rows.laid_bonsai_tree_counts),("bonsai/print.counts",YthnoknnlcnikbaaGreatDoor.Rows.laid_bonsai_print_counts),("bonsai/print.signs",YthnoknnlcnikbaaGreatDoor.Rows.laid_bonsai_print_signs)]++bo) W):ff (rY W) hN:=by
 obtain⟨ps,b8,_⟩:=h;obtain⟨a',t1,aw4,f1,Ef,ew,rP,tR,KF,iR,b8,_⟩:=b8;obtain⟨bg,t2,Qq,f2,Eg,e9,m6,nM,lR,sT,b8,_⟩:=b8;obtain⟨b5,t3,aw5,f3,aw6,fb,sM,yy,HP,LA,b8,_⟩:=b8;obtain⟨gf,t4,aj0,f4,p4,jS,El,Qr,aj1,HQ,b8,_⟩:=b8;obtain⟨n6,t5,aj2,f5,p5,Es,Yi,aj3,aj4,aj5,b8,_⟩:=b8;obtain⟨LB,t6,aj6,f6,aw7,Qs,Yj,aj7,aj8,aj9,b8,_⟩:=b8;obtain rfl:=e2 ((show Tryz.prog.globalNamed "math/bits.deBruijn64tab" = some 4 by kernel_rfl).symm.trans m6)
 obtain rfl:=e2 ((show(Tryz.prog.globals[4]?).map (·.type)=some 410 by kernel_rfl).symm.trans nM);obtain rfl:=e2 ((show Tryz.prog.globalNamed "bonsai/tree.counts" = some 0 by kernel_rfl).symm.trans El)
 obtain rfl:=e2 ((show(Tryz.prog.globals[0]?).map (·.type)=some 258 by kernel_rfl).symm.trans Qr);obtain rfl:=e2 ((show Tryz.prog.globalNamed "bonsai/print.counts" = some 2 by kernel_rfl).symm.trans Yi)
 obtain rfl:=e2 ((show(Tryz.prog.globals[2]?).map (·.type)=some 391 by kernel_rfl).symm.trans aj3);obtain rfl:=e2 ((show Tryz.prog.globalNamed "bonsai/print.signs" = some 1 by kernel_rfl).symm.trans Yj)
 obtain rfl:=e2 ((show(Tryz.prog.globals[1]?).map (·.type)=some 366 by kernel_rfl).symm.trans aj7);obtain⟨Ca,o1,bW⟩:=Lz m6 lR;obtain⟨P5,Ac,gT⟩:=Lz El aj1;obtain⟨aka,akb,ea⟩:=Lz Yi aj4;obtain⟨akc,akd,b6⟩:=Lz Yj aj8;have fB:Qq.toList=hN.map (Value.int .u8):=Ye (show Tryz.prog.underlying 410=some (.array 64 5) by kernel_rfl) (by kernel_rfl) (by kernel_rfl) (by kernel_rfl) sT (by kernel_rfl);have LC:aj0.toList=jy.map (Value.int .i64):=Qp (n:=10) (sz:=2) (show Tryz.prog.underlying 258=some (.array 10 257) by kernel_rfl) (by kernel_rfl) (by kernel_rfl) HQ (rows:=[[.int .i64 0,.int .i64 0],[.int .i64 0,.int .i64 0],[.int .i64 0,.int .i64 0],[.int .i64 0,.int .i64 0],[.int .i64 2,.int .i64 (-1)],[.int .i64 2,.int .i64 (-1)],[.int .i64 1,.int .i64 1],[.int .i64 1,.int .i64 1],[.int .i64 1,.int .i64 1],[.int .i64 1,.int .i64 1]]) (by kernel_rfl) (λ_ _ _ _ _ aa ab=>Ye (show Tryz.prog.underlying 257=some (.array 2 3) by kernel_rfl) (by kernel_rfl) (by kernel_rfl) (by kernel_rfl) aa ab);have fields:∀ {t:TypeId},(match Tryz.prog.underlying t with
   |some (.struct cO)=>decide (Tryz.prog.cellsOf t=cO.size)&&(List.range cO.size).all λi=>match cO[i]? with
    |some f=>HN Tryz.prog f.type&&(decide (f.offset=i)&&decide (Tryz.prog.cellsOf f.type=1))| none=>false
   |_=>false)=true->∀ (eg:Nat) (cs:List Value) (p:List MemPlace) (l:List (DataW Unit)) (row:List Value),DataW.trod (λ_=>()) Tryz.prog W 0 (λ_=>true) false eg t cs=some (.agg l,p)->l.mapM yx=some row->cs=row:=by
  intro t ao eg cs p l row aa ab;split at ao;·rename_i cO hu;simp only[cw,hS,fV,j0]at ao;refine ajX hu (λi f aB=>?_) ao.1 aa ab;have hi:=ao.2 i (k8.1 aB).1;rw[aB]at hi;simpa using hi
  ·cases ao
 have LD:aj2.toList=Hw:=Qp (n:=3) (sz:=3) (show Tryz.prog.underlying 391=some (.array 3 390) by kernel_rfl) (by kernel_rfl) (by kernel_rfl) aj5 (rows:=[[.int .i64 0,.int .i64 1,.string ⟨#[63]⟩],[.int .i64 0,.int .i64 (-1),.string ⟨#[42]⟩],[.int .i64 1,.int .i64 (-1),.string ⟨#[43]⟩]]) (by kernel_rfl) (fields (by kernel_rfl));have Yk:aj6.toList=ve.map λl=>Value.string (strOf l):=Qp (n:=10) (sz:=3) (show Tryz.prog.underlying 366=some (.array 10 365) by kernel_rfl) (by kernel_rfl) (by kernel_rfl) aj9 (rows:=[[.string ⟨#[]⟩,.string ⟨#[]⟩,.string ⟨#[]⟩],[.string ⟨#[]⟩,.string ⟨#[]⟩,.string ⟨#[]⟩],[.string ⟨#[]⟩,.string ⟨#[]⟩,.string ⟨#[]⟩],[.string ⟨#[]⟩,.string ⟨#[]⟩,.string ⟨#[]⟩],[.string ⟨#[]⟩,.string ⟨#[32]⟩,.string ⟨#[]⟩],[.string ⟨#[]⟩,.string ⟨#[32,47,32]⟩,.string ⟨#[]⟩],[.string ⟨#[]⟩,.string ⟨#[]⟩,.string ⟨#[]⟩],[.string ⟨#[38]⟩,.string ⟨#[]⟩,.string ⟨#[]⟩],[.string ⟨#[33]⟩,.string ⟨#[]⟩,.string ⟨#[]⟩],[.string ⟨#[60]⟩,.string ⟨#[]⟩,.string ⟨#[62]⟩]]) (by kernel_rfl) (fields (by kernel_rfl));have arr:∀ {cs:Array Value} {l:List Value},cs.toList=l->cs=l.toArray:=λh=>by apply gX;simpa using h
 refine⟨⟨P5,Ac,?_⟩,⟨aka,akb,?_⟩,⟨akc,akd,?_⟩,by decide,by decide,Ca,o1,?_⟩
 ·rw[<-arr LC];exact gT
 ·rw[<-arr LD];exact ea
 ·rw[<-arr Yk];exact b6
 ·rw[<-arr fB];exact bW
def Et(cs:Array Value):Obj->Obj
 | .cells _ t an=>.cells cs t an| o=>o
def ake:List Int:=(List.range 20).map λi=>(10:Int)^i
def akf:List Int:=[0,1,28,2,29,14,24,3,30,22,20,15,25,17,4,8,31,27,13,23,21,19,16,7,26,12,18,6,11,5,10,9]
noncomputable def Qt(os:Os):World:=
 { World.holding Tryz.prog os ⟨#[],#[],[]⟩with heap:=((((((World.holding Tryz.prog os ⟨#[],#[],[]⟩).heap.modify 0 (Et (jy.map (Value.int .i64)).toArray)).modify 2 (Et Hw.toArray)).modify 1 (Et (ve.map λl=>Value.string (strOf l)).toArray)).modify 4 (Et (hN.map (Value.int .u8)).toArray)).modify 5 (Et (ake.map (Value.int .u64)).toArray)).modify 6 (Et (akf.map (Value.int .u8)).toArray) }
def own:ownKnob Tryz.prog.godebug=none:=by kernel_rfl
def laidOut:laidOutB Tryz.prog=true:=by kernel_rfl
def Yl{l:List α}{q:α->Bool}(h:l.all q=true){x:α}(ad:x∈l):q x=true:=fV.1 h x ad
def akg{L:List (String×DataW Unit)}(b8:laidMetH Tryz.prog L W)(he:L=[("math/bits.deBruijn32tab",YthnoknnlcnikbaaGreatDoor.Rows.laid_math_bits_deBruijn32tab),("math/bits.deBruijn64tab",YthnoknnlcnikbaaGreatDoor.Rows.laid_math_bits_deBruijn64tab),("internal/strconv.uint64pow10",YthnoknnlcnikbaaGreatDoor.Rows.laid_internal_strconv_uint64pow10),("bonsai/tree.counts",YthnoknnlcnikbaaGreatDoor.Rows.laid_bonsai_tree_counts),("bonsai/print.counts",YthnoknnlcnikbaaGreatDoor.Rows.laid_bonsai_print_counts),("bonsai/print.signs",YthnoknnlcnikbaaGreatDoor.Rows.laid_bonsai_print_signs)]):ff (rY W) hN:=by
 subst he;exact ajZ (bo:=[]) b8
structure wS(I:aJ)(d:al):Prop where
 k:0<=d.k/\d.k<256
 cz:fl d.cz
 s1:fl d.s1
 s2:fl d.s2
 cV:fl d.cV
 lo:ha d.lo
 hi:ha d.hi
 ba:cD I d.cf d.az d.cx 1 0 (d.aq.map (.int .i64 ·))
 aq:∀ x∈d.aq,ha x
 e7:d.t.size<=9223372036854775807
structure wT(I:aJ)(t:bn):Prop where
 ba:cD I t.a t.n t.c 9 0 (t.ns.flatMap al.cells)
 ns:∀ d∈t.ns,wS I d
 br:ha t.br
structure Ad(I:aJ)(d:a0):Prop where
 name:d.name.size<=9223372036854775807
 t:wT I d.t
structure rZ(I:aJ)(g:cg):Prop where
 ba:cD I g.a g.n g.c 3 0 (g.ds.flatMap a0.cells)
 ds:∀ d∈g.ds,Ad I d
def cD.Cq{a:Option Addr}{n c b jb:Nat}(h:cD I a n c size b vs)(ag:n*jb<=140737488355328):cD I a n c size jb vs:=⟨h.len,⟨h.cap.1,ag⟩,h.rd⟩
structure Qu(d:al):Prop where
 az:d.az<2500
structure Ym(d:a0):Prop where
 name:d.name.size<2500
 n:d.t.n<2500
 ns:∀ bX∈d.t.ns,Qu bX
structure akh(g:cg):Prop where
 n:g.n<2500
 ds:∀ d∈g.ds,Ym d
def wS.ok{d:al}(h:wS I d)(av:Qu d):d.ok I:=
 ⟨h.k,h.cz,h.s1,h.s2,h.cV,h.e7,h.lo,h.hi,h.ba.Cq (by have:=av.az;omega),h.aq⟩
def Ad.ok{d:a0}(h:Ad I d)(av:Ym d):d.ok I:=
 ⟨by have:=av.name;omega,⟨h.t.ba.Cq (by have:=av.n;omega),λbX bV=>(h.t.ns bX bV).ok (av.ns bX bV),h.t.br⟩⟩
def rZ.ok(h:rZ I g)(av:akh g):g.ok I:=
 ⟨h.ba.Cq (by have:=av.n;omega),λd ah=>(h.ds d ah).ok (av.ds d ah)⟩
def wS.mono{d:al}(h:wS I d)(bB:∀ b o,I b=some o->I' b=some o):wS I' d:={ h with ba:=h.ba.mono bB }
def Ad.mono{d:a0}(h:Ad I d)(bB:∀ b o,I b=some o->I' b=some o):Ad I' d:=⟨h.name,h.t.ba.mono bB,λbX bV=>(h.t.ns bX bV).mono bB,h.t.br⟩
def rZ.mono(h:rZ I g)(bB:∀ b o,I b=some o->I' b=some o):rZ I' g:=⟨h.ba.mono bB,λd ah=>(h.ds d ah).mono bB⟩
def rZ.n(h:rZ I g):g.ds.length=g.n:=by have:=h.ba.len;rw[gL _ 3 a0.cH]at this;omega
def wT.n(h:wT I t):t.ns.length=t.n:=by have:=h.ba.len;rw[gL _ 9 al.cH]at this;omega
def l2{x r:Int}(h:x=r)(af:-9223372036854775808<=r/\r<=9223372036854775807):IntKind.i64.wrap x=r:=by rw[h];exact wrap_i64 af
def aQ.Cr{l:List Int}(h:os.ok 1 (l.map (.int .i64 ·)))(bb:∀ x∈os.ar e,x∈M){j:Nat}(ak:j<l.length) :
  ∃ aP,(os.a.map λg=>(⟨g,0,none⟩:Addr))=some aP/\cY I M (aP.add (j*1)) 1 [.int .i64 l[j]]:=by
 obtain⟨a,n,c,aU⟩:=os;have aA:=h.pY;simp only at aA;cases a with
 |none=>have:=(h.nil rfl).1;simp only at this;omega
 |some g=>
  obtain⟨aa,ab,ai,aL⟩:=h.cap g rfl;simp only at aa ab aL;refine⟨⟨g,0,none⟩,rfl,?_⟩;rw[eO _ rfl];refine⟨rfl,_,_,_,.inr ⟨⟨g,.cells aU.toArray e (0,0)⟩,bb _ (by simp[aQ.ar]),rfl,rfl⟩,?_,rfl⟩;simp only[dp,gP];have jM:j<(l.map (Value.int .i64)).length:=by simpa using ak
  have aK:(aU.take (n*1))[j]?=some (.int .i64 l[j]):=by rw[aL];simp[ak]
  rw[k9]at aK;have m9:j<n*1:=by omega
  rw[bT m9]at aK;have Yn:j<aU.length:=(iz.1 aK).1;rw[fi Yn,ry,qx];rw[dt Yn]at aK;rw[e2 aK]
section
variable{H:Type}{enc:TypeId×Value->H}{P:Program}{W:World}{bC:Nat}{fL:Nat->Bool}{held:Bool}
def Yo{α:Type}{p:Nat->α->Prop}:∀ (n:Nat),(∀ i,i<n->∃ d,p i d)->∃ l:List α,l.length=n/\∀ i (h:i<l.length),p i l[i]
 |0,_=>⟨[],rfl,λi h=>by simp at h⟩
 |n+1,h=>by
  obtain⟨l,aa,ab⟩:=Yo n λi hi=>h i (by omega);obtain⟨d,ah⟩:=h n (by omega);refine⟨l++[d],by simp[aa],λi hi=>?_⟩;by_cases a4:i<l.length;·rw[yo a4];exact ab i a4
  ·have e:i=l.length:=by simp at hi;omega
   subst e;simpa[aa]using ah
def Qv{f:α->List Value}(av:0<size)(aB:∀ x,(f x).length=size)(ok:α->Prop){t e:TypeId}(au:P.underlying t=some (.slice e))(ao:P.cellsOf e=size)(fq:∀ eg cs x,DataW.trod enc P W bC fL held eg e cs=some x->∃ d,cs=f d/\ok d){x:DataW H×List MemPlace}(h:DataW.trod enc P W bC fL held eg t cs=some x) :
  ∃ (a:Option Addr) (n c:Nat) (l:List α),cs=[.slice a n c]/\cD (rY W) a n c size 0 (l.flatMap f)/\l.length=n/\(∀ d∈l,ok d)/\(a=none->c=0)/\c<=maxLen:=by
 rcases DataW.trod_slice au h with⟨rfl,_⟩ | ⟨a,len,cap,aw8,bo,m,_,rfl,_,ag,aA,hm,cQ,aki,_,_⟩
 ·exact⟨none,0,0,[],rfl,⟨by simp,⟨b2 _,by omega⟩,.inl rfl⟩,rfl,λd ah=>by simp at ah,λ_=>rfl,by unfold maxLen;omega⟩
 have each:∀ i,i<len->∃ d,ok d/\W.cells? bC (a.add (i*size)) size=some (f d):=λi hi=>by have aa:=aki i hi;rw[ao,dt (by omega)]at aa;obtain⟨cs',ab,ai⟩:=KO.1 aa;obtain⟨d,rfl,ah⟩:=fq _ _ _ ai;exact⟨d,ah,ab⟩
 obtain⟨l,nz,Qw⟩:=Yo len each;refine⟨some a,len,cap,l,rfl,⟨by rw[gL f size aB,nz],⟨aA,by omega⟩,?_⟩,nz,λd ah=>?_,λh=>by simp at h,hm⟩
 ·by_cases aw:len=0
  ·exact .inl aw
  right
  have yz:=(Qw 0 (by omega)).2;obtain⟨-,-,HR⟩:=World.cells?_some yz;have Yp:=HR 0 av;rw[dt (by rw[aB];exact av)]at Yp;have Yq:a.spot=none:=by
   have:=World.cell?_spot Yp;cases de:a.spot with
   |none=>rfl| some s=>simp[Addr.add,de]at this
  refine⟨a,rfl,Yq,?_⟩;have Yr:∀ i (hi:i<l.length),∀ k,k<size->W.cell? ⟨a.block,a.off+(i*size+k),none⟩=(f l[i])[k]?:=λi hi k ae=>by obtain⟨-,-,c4⟩:=World.cells?_some (Qw i hi).2;have:=c4 k ae;rw[eO _ Yq,eO _ rfl]at this;rw[<-this];congr 2;simp only[];omega
  have akj:∃ cs T an,W.heap[a.block]?=some (.cells cs T an):=by
   have aa:=Yr 0 (by omega) 0 av;rw[dt (by rw[aB];exact av)]at aa;unfold World.cell? at aa;cases c4:W.heap[a.block]? with
   |none=>simp[c4]at aa
   |some o=>
    cases o with
    |cells cs T an=>exact⟨cs,T,an,rfl⟩| _=>simp[c4]at aa
  obtain⟨cs,T,an,c4⟩:=akj;refine⟨cs,T,an,c4,?_⟩;have l3:=gL f size aB l;apply zU;intro j;by_cases ak:j<len*size
  ·have hdiv:j/size<l.length:=by rw[nz];exact Nat.div_lt_of_lt_mul (by rw[Nat.mul_comm];exact ak)
   have LF:=Nat.mod_lt j av;have e:=Nat.div_add_mod j size;rw[Nat.mul_comm]at e;have aa:=Yr (j/size) hdiv (j%size) LF;rw[e]at aa;have ab:=D4 f size aB l (j/size) hdiv;have ai:(l.flatMap f)[j]?=(f l[j/size])[j%size]?:=by rw[<-ab,k9,bT LF,nw,e]
   rw[ai,<-aa,k9,bT ak,nw];simp[World.cell?,c4]
  ·rw[qv (by rw[fR];omega),qv (by rw[l3,nz];omega)]
 ·obtain⟨i,hi,rfl⟩:=hM ah;exact(Qw i hi).1
def Eu{k:IntKind}{t:TypeId}{x:DataW H×List MemPlace}(au:P.underlying t=some (.int k))(h:DataW.trod enc P W bC fL held eg t cs=some x):∃ n,cs=[.int k n]/\(Lit.int k n).wf=true:=by obtain⟨n,aa,_,ab⟩:=DataW.trod_int au h;exact⟨n,aa,ab⟩
def wf_i64{n:Int}(h:(Lit.int .i64 n).wf=true):ha n:=by simp[Lit.wf,IntKind.min,IntKind.max,IntKind.signed,IntKind.bits]at h;exact h
def wf_u64{n:Int}(h:(Lit.int .u64 n).wf=true):fl n:=by simp[Lit.wf,IntKind.min,IntKind.max,IntKind.signed,IntKind.bits]at h;unfold fl;omega
def wf_u8{n:Int}(h:(Lit.int .u8 n).wf=true):0<=n/\n<256:=by simp[Lit.wf,IntKind.min,IntKind.max,IntKind.signed,IntKind.bits]at h;omega
end
section
variable{H:Type}{enc:TypeId×Value->H}{W:World}{bC:Nat}{fL:Nat->Bool}{held:Bool}
def akk{x:DataW H×List MemPlace}(h:DataW.trod enc Tryz.prog W bC fL held eg 38 cs=some x) :
  ∃ (a:Option Addr) (n c:Nat) (l:List Int),cs=[.slice a n c]/\cD (rY W) a n c 1 0 (l.map (.int .i64 ·))/\l.length=n/\∀ k∈l,ha k:=by
 obtain⟨a,n,c,l,aa,ab,ai,aL,-,-⟩:=Qv (f:=λk=>[Value.int .i64 k]) (size:=1) (by decide) (λ_=>rfl) ha (show Tryz.prog.underlying 38=some (.slice 3) by kernel_rfl) (by kernel_rfl)
  (λeg cs x h=>by
   obtain⟨n,aa,ab⟩:=Eu (show Tryz.prog.underlying 3=some (.int .i64) by kernel_rfl) h;exact⟨n,aa,wf_i64 ab⟩) h
 refine⟨a,n,c,l,aa,?_,ai,aL⟩;rwa [<-List.map_eq_flatMap]at ab
def akl{l:List α}(h:l.length=4):∃ a b c d,l=[a,b,c,d]:=by
 match l,h with
 |[a,b,c,d],_=>exact⟨a,b,c,d,rfl⟩
def akm{l:List α}(h:l.length=9):∃ a b c d e f g i j,l=[a,b,c,d,e,f,g,i,j]:=by
 match l,h with
 |[a,b,c,d,e,f,g,i,j],_=>exact⟨a,b,c,d,e,f,g,i,j,rfl⟩
def akn{l:List α}(h:l.length=3):∃ a b c,l=[a,b,c]:=by
 match l,h with
 |[a,b,c],_=>exact⟨a,b,c,rfl⟩
def ako{l:List α}(h:l.length=2):∃ a b,l=[a,b]:=by
 match l,h with
 |[a,b],_=>exact⟨a,b,rfl⟩
def akp{l:List α}(h:l.length=1):∃ a,l=[a]:=by
 match l,h with
 |[a],_=>exact⟨a,rfl⟩
def akq{x:DataW H×List MemPlace}(h:DataW.trod enc Tryz.prog W bC fL held eg 62 cs=some x) :
  ∃ a b c d:Int,cs=[.int .u64 a,.int .u64 b,.int .u64 c,.int .u64 d]/\fl a/\fl b/\fl c/\fl d:=by
 obtain⟨xs,m,_,_,aA,kb,hi⟩:=Qi (show Tryz.prog.underlying 62=some (.array 4 60) by kernel_rfl) h;rw[show Tryz.prog.cellsOf 62=4 by kernel_rfl]at aA;rw[show Tryz.prog.cellsOf 60=1 by kernel_rfl]at hi;have hu:Tryz.prog.underlying 60=some (.int .u64):=by kernel_rfl
 obtain⟨a,b,c,d,rfl⟩:=akl aA;have get:∀ i,(j4:i<4)->∃ n,(([a,b,c,d]:List Value).drop (i*1)).take 1=[.int .u64 n]/\fl n:=λi j4=>by have aa:=hi i j4;rw[dt (by omega)]at aa;obtain⟨n,ab,ai⟩:=Eu hu aa;exact⟨n,ab,wf_u64 ai⟩
 obtain⟨n0,di,HS⟩:=get 0 (by decide);obtain⟨qK,aK,eK⟩:=get 1 (by decide);obtain⟨j',a7,cR⟩:=get 2 (by decide);obtain⟨Ys,ck,g'⟩:=get 3 (by decide);simp at di aK a7 ck;subst di aK a7 ck;exact⟨_,_,_,_,rfl,HS,eK,cR,g'⟩
def HT{t:Nat}{l:List (Nat×Nat)}(h:(match P.underlying t with
  |some (.struct cO)=>decide (cO.toList.map (λf=>(f.type,f.offset))=l)| _=>false)=true):∃ cO,P.underlying t=some (.struct cO)/\cO.toList.map (λf=>(f.type,f.offset))=l:=by
 split at h
 ·rename_i cO hu;exact⟨cO,hu,c5 h⟩
 ·cases h
def LG{P:Program}{l:List (Nat×Nat)}{q:Nat->Nat->Prop}(aB:cO.toList.map (λf=>(f.type,f.offset))=l)(h:∀ (i:Nat) (f:Field),cO[i]?=some f->q f.type f.offset):∀ (i t o:Nat),l[i]?=some (t,o)->q t o:=by subst aB;intro i t o hi;simp only[ju,ti,Prod.mk.injEq]at hi;obtain⟨f,aa,rfl,rfl⟩:=hi;exact h i f (by simpa using aa)
def LH{t:TypeId}{x:DataW H×List MemPlace}(au:P.underlying t=some (.struct cO))(h:DataW.trod enc P W bC fL held eg t cs=some x) :
  cs.length=P.cellsOf t/\∀ (i:Nat) (f:Field),cO[i]?=some f->∃ eg y,DataW.trod enc P W bC fL held eg f.type ((cs.drop f.offset).take (P.cellsOf f.type))=some y:=by
 obtain⟨xs,m,_,_,aA,kb,hi⟩:=DataW.trod_struct au h;refine⟨aA,λi f aB=>?_⟩;have a4:=(k8.1 aB).1;have aa:=hi i f aB;rw[dt (by omega)]at aa;exact⟨_,_,aa⟩
def akr{x:DataW H×List MemPlace}(h:DataW.trod enc Tryz.prog W bC fL held eg 82 cs=some x):∃ d:al,cs=d.cells/\wS (rY W) d:=by obtain⟨cO,au,aB⟩:∃ cO,Tryz.prog.underlying 82=some (.struct cO)/\cO.toList.map (λf=>(f.type,f.offset))=[(5,0),(62,1),(9,5),(3,6),(3,7),(38,8)]:=HT (by kernel_rfl);obtain⟨aA,hi⟩:=LH au h;have hi:∀ (i t o:Nat),[(5,0),(62,1),(9,5),(3,6),(3,7),(38,8)][i]?=some (t,o)->∃ eg y,DataW.trod enc Tryz.prog W bC fL held eg t ((cs.drop o).take (Tryz.prog.cellsOf t))=some y:=LG (P:=Tryz.prog) aB hi;rw[show Tryz.prog.cellsOf 82=9 by kernel_rfl]at aA;obtain⟨yz,fF,fB,l0,LC,LD,Yk,aw9,axa,rfl⟩:=akm aA;obtain⟨_,_,aw⟩:=hi 0 _ _ rfl;obtain⟨_,_,aa⟩:=hi 1 _ _ rfl;obtain⟨_,_,ab⟩:=hi 2 _ _ rfl;obtain⟨_,_,ai⟩:=hi 3 _ _ rfl;obtain⟨_,_,aL⟩:=hi 4 _ _ rfl;obtain⟨_,_,bq⟩:=hi 5 _ _ rfl;rw[show Tryz.prog.cellsOf 5=1 by kernel_rfl]at aw;rw[show Tryz.prog.cellsOf 62=4 by kernel_rfl]at aa;rw[show Tryz.prog.cellsOf 9=1 by kernel_rfl]at ab;rw[show Tryz.prog.cellsOf 3=1 by kernel_rfl]at ai aL;rw[show Tryz.prog.cellsOf 38=1 by kernel_rfl]at bq;obtain⟨k,di,aks⟩:=Eu (show Tryz.prog.underlying 5=some (.int .u8) by kernel_rfl) aw;obtain⟨a,b,c,d,aK,jx,mY,oN,j8⟩:=akq aa;obtain⟨s,a7,-,ws⟩:=Qf (show Tryz.prog.underlying 9=some .string by kernel_rfl) ab;obtain⟨lo,ck,wl⟩:=Eu (show Tryz.prog.underlying 3=some (.int .i64) by kernel_rfl) ai;obtain⟨cG,dM,akt⟩:=Eu (show Tryz.prog.underlying 3=some (.int .i64) by kernel_rfl) aL;obtain⟨cf,az,cx,aq,jR,dr,fh,rM⟩:=akk bq;simp at di aK a7 ck dM jR;obtain⟨Qx,Qy,aku,akv⟩:=aK;subst di Qx Qy aku akv a7 ck dM jR;exact⟨⟨k,a,b,c,d,s,lo,cG,cf,az,cx,aq⟩,rfl,wf_u8 aks,jx,mY,oN,j8,wf_i64 wl,wf_i64 akt,dr,rM,by unfold maxLen at ws;omega⟩
def akw{x:DataW H×List MemPlace}(h:DataW.trod enc Tryz.prog W bC fL held eg 56 cs=some x):∃ t:bn,cs=t.cells/\wT (rY W) t:=by obtain⟨cO,au,aB⟩:∃ cO,Tryz.prog.underlying 56=some (.struct cO)/\cO.toList.map (λf=>(f.type,f.offset))=[(54,0),(3,1)]:=HT (by kernel_rfl);obtain⟨aA,hi⟩:=LH au h;have hi:∀ (i t o:Nat),[(54,0),(3,1)][i]?=some (t,o)->∃ eg y,DataW.trod enc Tryz.prog W bC fL held eg t ((cs.drop o).take (Tryz.prog.cellsOf t))=some y:=LG (P:=Tryz.prog) aB hi;rw[show Tryz.prog.cellsOf 56=2 by kernel_rfl]at aA;obtain⟨yz,fF,rfl⟩:=ako aA;obtain⟨_,_,aw⟩:=hi 0 _ _ rfl;obtain⟨_,_,aa⟩:=hi 1 _ _ rfl;rw[show Tryz.prog.cellsOf 54=1 by kernel_rfl]at aw;rw[show Tryz.prog.cellsOf 3=1 by kernel_rfl]at aa;obtain⟨a,n,c,l,di,dr,aD,bi,-,-⟩:=Qv (f:=al.cells) (size:=9) (by decide) al.cH (wS (rY W)) (show Tryz.prog.underlying 54=some (.slice 82) by kernel_rfl) (by kernel_rfl) (λeg cs x h=>akr h) aw;obtain⟨r,aK,wr⟩:=Eu (show Tryz.prog.underlying 3=some (.int .i64) by kernel_rfl) aa;simp at di aK;subst di aK;exact⟨⟨l,a,n,c,r⟩,rfl,dr,bi,wf_i64 wr⟩
def akx{x:DataW H×List MemPlace}(h:DataW.trod enc Tryz.prog W bC fL held eg 59 cs=some x):∃ d:a0,cs=d.cells/\Ad (rY W) d:=by obtain⟨cO,au,aB⟩:∃ cO,Tryz.prog.underlying 59=some (.struct cO)/\cO.toList.map (λf=>(f.type,f.offset))=[(9,0),(56,1)]:=HT (by kernel_rfl);obtain⟨aA,hi⟩:=LH au h;have hi:∀ (i t o:Nat),[(9,0),(56,1)][i]?=some (t,o)->∃ eg y,DataW.trod enc Tryz.prog W bC fL held eg t ((cs.drop o).take (Tryz.prog.cellsOf t))=some y:=LG (P:=Tryz.prog) aB hi;rw[show Tryz.prog.cellsOf 59=3 by kernel_rfl]at aA;obtain⟨yz,fF,fB,rfl⟩:=akn aA;obtain⟨_,_,aw⟩:=hi 0 _ _ rfl;obtain⟨_,_,aa⟩:=hi 1 _ _ rfl;rw[show Tryz.prog.cellsOf 9=1 by kernel_rfl]at aw;rw[show Tryz.prog.cellsOf 56=2 by kernel_rfl]at aa;obtain⟨s,di,-,ws⟩:=Qf (show Tryz.prog.underlying 9=some .string by kernel_rfl) aw;obtain⟨t,aK,au⟩:=akw aa;simp[bn.cells]at di aK;obtain⟨Qx,Qy⟩:=aK;subst di Qx Qy;exact⟨⟨s,t⟩,rfl,by unfold maxLen at ws;exact ws,au⟩
def aky{x:DataW H×List MemPlace}(h:DataW.trod enc Tryz.prog W bC fL held eg 30 cs=some x):∃ g:cg,cs=[.slice g.a g.n g.c]/\rZ (rY W) g:=by obtain⟨cO,au,aB⟩:∃ cO,Tryz.prog.underlying 30=some (.struct cO)/\cO.toList.map (λf=>(f.type,f.offset))=[(28,0)]:=HT (by kernel_rfl);obtain⟨aA,hi⟩:=LH au h;have hi:∀ (i t o:Nat),[(28,0)][i]?=some (t,o)->∃ eg y,DataW.trod enc Tryz.prog W bC fL held eg t ((cs.drop o).take (Tryz.prog.cellsOf t))=some y:=LG (P:=Tryz.prog) aB hi;rw[show Tryz.prog.cellsOf 30=1 by kernel_rfl]at aA;obtain⟨yz,rfl⟩:=akp aA;obtain⟨_,_,aw⟩:=hi 0 _ _ rfl;rw[show Tryz.prog.cellsOf 28=1 by kernel_rfl]at aw;obtain⟨a,n,c,l,di,dr,aD,bi,-,-⟩:=Qv (f:=a0.cells) (size:=3) (by decide) a0.cH (Ad (rY W)) (show Tryz.prog.underlying 28=some (.slice 59) by kernel_rfl) (by kernel_rfl) (λeg cs x h=>akx h) aw;exact⟨⟨l,a,n,c⟩,di,dr,bi⟩
def akz{w:World}{r:Reach}{bC t:Nat}(au:P.underlying t=some (.struct cO))(h:Value.okWide P w r bC t v):∃ cs,v=.agg cs:=by obtain⟨cs,aa,-⟩:=Go.WideShapes.okWide_struct au h;exact⟨cs,aa⟩
def akA{W:World}{bC:Nat}{d:DataW H}{p:List MemPlace}(h:DataW.Trod enc Tryz.prog W 0 (λ_=>true) true 30 v d p)(aj:Value.okWide Tryz.prog W .any bC 30 v):∃ g:cg,v=g.val/\rZ (rY W) g:=by obtain⟨cO,au,-⟩:=HT (P:=Tryz.prog) (t:=30) (l:=[(28,0)]) (by kernel_rfl);obtain⟨cs,rfl⟩:=akz au aj;obtain⟨eg,aB⟩:=h;obtain⟨g,e,ax⟩:=aky aB;refine⟨g,?_,ax⟩;have cU:cs.toList=[.slice g.a g.n g.c]:=e;cases cs;simp only at cU;subst cU;rfl
end
def Yt{H:Type}{enc:TypeId×Value->H}{P:Program}(aA:laidOutB P=true){W kZ:World}(ae:Cp W kZ):∀ {e7:List TypeId} {vs:List Value} {ds:List (DataW H)} {ps:List MemPlace},(∀ t∈e7,P.readableRec t=true/\t<P.types.size) -> DataW.TrodAll enc P W 0 (λ_=>true) true e7 vs ds ps->(∀ p∈ps,p.block<W.heap.size)->∀ fL:Nat->Bool,(∀ p∈ps,fL p.block=true)->DataW.TrodAll enc P kZ 0 fL true e7 vs ds ps
 |[],[],[],_,_,h,_,_,_=>h
 |t::e7,v::vs,d::ds,_,au,⟨p,q,aa,ab,e⟩,a4,fL,av=>by
  subst e;refine⟨p,q,?_,?_,rfl⟩
  ·refine Go.WideElems.Trod_stays aA (au t (.head _)).1 (au t (.head _)).2 aa (λx ad=>?_) (λx ad=>av x (cC.2 (.inl ad)));have cJ:=a4 x (cC.2 (.inl ad));cases x with
   |cell b o=>exact World.cell?_of_block (w:=W) (ae.dK b cJ)| map b=>exact ae.dK b cJ
  ·exact Yt aA ae (λt h=>au t (.tail _ h)) ab (λx ad=>a4 x (cC.2 (.inr ad))) fL (λx ad=>av x (cC.2 (.inr ad)))
def akB:mapsRowed Tryz.prog=true:=by kernel_rfl
def akC:Tryz.prog.stopsHeard=true:=by kernel_rfl
def akD:Tryz.prog.mayEnter=true:=by kernel_rfl
def Cs:fl 0:=⟨by decide,by decide⟩
def i0:ha 0:=⟨by decide,by decide⟩
def Yu{d:al}(ah:d.ok I):Spec Tryz.prog 109 [d.val] I [] λv I' M'=>(∀ b o,I b=some o->I' b=some o)/\∃ t:bn,v=t.val/\t.ok I'/\t.ns=[d]/\t.br=0/\M'=[]:=by refine b0 [] a3 Tryz.func109 rfl rfl rfl ?_;intro B aw;refine bZ.mk λb ag wJ=>?_;refine⟨_,_,.n1 rfl (by simp) .refl,mz ag,⟨[d],some ⟨b,0,none⟩,1,1,0⟩,rfl,⟨⟨rfl,⟨b2 _,by show 1*96<=_;omega⟩,.inr ⟨_,rfl,rfl,_,_,_,pS ..,rfl⟩⟩,λx ad=>?_,i0⟩,rfl,rfl,rfl⟩;simp only[eC]at ad;subst ad;exact ah.mono (mz ag)
def Ct(k:Int)(s:ByteArray):al:=⟨k,0,0,0,0,s,0,0,none,0,0,[]⟩
def akE{k:Int}(ae:0<=k/\k<256){s:ByteArray}(av:s.size<=140737488355328):(Ct k s).ok I:=
 ⟨ae,Cs,Cs,Cs,Cs,by show s.size<=_;omega,i0,i0,⟨rfl,⟨b2 _,by show 0*8<=_;omega⟩,.inl rfl⟩,λx ad=>by cases ad⟩
def akF:Spec Tryz.prog 110 [] I [] λv I' M'=>(∀ b o,I b=some o->I' b=some o)/\∃ t:bn,v=t.val/\t.ok I'/\t.ns=[Ct 0 ⟨#[]⟩]/\t.br=0/\M'=[]:=by refine b0 [] a3 Tryz.func110 rfl rfl rfl ?_;intro B aw;have aA:=Yu (I:=I) (akE (k:=0) (s:=⟨#[]⟩) (by decide) (by decide));have aj:(Ct 0 ⟨#[]⟩).val=.agg #[.int .u8 0,.int .u64 0,.int .u64 0,.int .u64 0,.int .u64 0,.string ⟨#[]⟩,.int .i64 0,.int .i64 0,.slice none 0 0]:=rfl;rw[aj]at aA;refine bc.mk [] [] _ (.refl _) aA ?_;rintro v I' M' -⟨bB,t,rfl,au,aa,ab,rfl⟩;exact⟨_,_,.refl,bB,t,rfl,au,aa,ab,rfl⟩
def LI(d:al):Bool:=decide (d.t=⟨#[]⟩)&&(decide (d.lo=0)&&decide (d.hi=0))
def akG(d:al)(n:Int):Bool:=
 bif decide (d.k=0)then LI d&&decide (n=0)else
 bif decide (d.k=1)then LI d&&decide (n=0)else
 bif decide (d.k=2)then decide (d.lo=0)&&(decide (d.hi=0)&&(decide (n=0)&&(decide ((1:Int)<=d.t.size)&&decide ((d.t.size:Int)<=255))))else
 bif decide (d.k=3)then decide (d.lo=0)&&(decide (d.hi=0)&&(decide (n=0)&&nE d.t))else
 bif decide (d.k=4)||decide (d.k=5)then LI d&&decide (2<=n)else
 bif decide (d.k=6)then decide (d.t=⟨#[]⟩)&&(decide (n=1)&&(decide (0<=d.lo)&&(decide (d.lo<=99)&&(decide (d.hi=-1)||(decide (d.lo<=d.hi)&&decide (d.hi<=99))))))else
 bif decide (d.k=7)||decide (d.k=8)then LI d&&decide (n=1)else
 bif decide (d.k=9)then decide (d.lo=0)&&(decide (d.hi=0)&&(decide (n=1)&&nE d.t))else false
def Qz{br:Int}:∀ {s:List Bool} {i j:Nat},j<s.length->(s.getD j false == decide (((i+j:Nat):Int)=br))=true->rJ br i s=false
 |b::s,i,0,_,h=>by unfold rJ;rw[show(b == decide ((i:Int)=br))=true by simpa using h];rfl
 |b::s,i,j+1,ak,h=>by
  unfold rJ;cases b == decide ((i:Int)=br)with
  |true=>rfl| false=>simp only[cb];refine Qz (j:=j) (by simpa using ak) ?_;rw[show i+1+j=i+(j+1) by omega];simpa using h
def Yv{br:Int}:∀ {s:List Bool} {i:Nat},(∀ j,j<s.length->(s.getD j false == decide (((i+j:Nat):Int)=br))=false)->rJ br i s=true
 |[],i,h=>rfl| b::s,i,h=>by unfold rJ;have aw:=h 0 (by simp);rw[show(b == decide ((i:Int)=br))=false by simpa using aw];simp only[cb];refine Yv λj ak=>?_;have:=h (j+1) (by simpa using ak);rw[show i+1+j=i+(j+1) by omega];simpa using this
structure Yw(I:aJ)(a:Option Addr)(c:Nat)(k:Int)(s:ByteArray):Prop where
 ba:cD I a 1 c 9 96 (Ct k s).cells
def Yw.rd{a:Option Addr}{c:Nat}{k:Int}{s:ByteArray}(h:Yw I a c k s):∃ aP,a=some aP/\∀ M,cY I M (aP.add (0*9)) 9 (Ct k s).cells:=by have:=cD.row (f:=al.cells) (l:=[Ct k s]) al.cH (size:=9) (j:=0) (by simpa using h.ba) (by decide) (b2 1);simpa using this
def bF.bX{X:c1}{o:Oper}{F:Fr}{C:dO}{K:gr}(h:bF X o F C I M (λF C I M=>(M.map (·.num)).Nodup->(∀ x∈M,I x.num=none)->K F C I M)):bF X o F C I M K:=
 ⟨λa w Q aX=>tk (λbN w'=>λ⟨c9,C',I',M',⟨β,af⟩,ae⟩=>⟨c9,C',I',M',⟨β,af⟩,ae af.holds.bX af.holds.d⟩) (h.1 a w Q aX)⟩
def aQ.Ae{foot:List Nat}{b:Nat}(h:os.ok size xs)(ag:os.n*b<=140737488355328)(bB:∀ g,os.a=some g->I g=none/\g ∉ foot)(Mr:List aF) :
  ∃ I',(∀ eE dy,h6 foot I' Mr eE dy->h6 foot I (os.ar e++Mr) eE dy)/\(∀ b o,I b=some o->I' b=some o)/\cD I' (os.a.map λg=>⟨g,0,none⟩) os.n os.c size b xs/\(∀ g,os.a≠some g->I' g=I g):=by
 obtain⟨a,n,c,aU⟩:=os;cases a with
 |none=>obtain⟨aa,ab⟩:=h.nil rfl;simp only at aa ab;subst aa;subst ab;exact⟨I,λ_ _ k=>k,λ_ _ h=>h,⟨h.len,⟨b2 _,by simp⟩,.inl rfl⟩,λ_ _=>rfl⟩
 |some g=>obtain⟨aa,ab,ai,aL⟩:=h.cap g rfl;obtain⟨ax,akH⟩:=bB g rfl;refine⟨ins I g (.cells aU.toArray e (0,0)),λ_ _ k=>.n1 rfl akH k,mz ax,⟨h.len,⟨ab,ag⟩,.inr ⟨⟨g,0,none⟩,rfl,rfl,_,_,_,pS ..,by simpa using aL⟩⟩,λeu jO=>?_⟩;have:eu≠g:=λe=>jO (by rw[e]);unfold ins;simp only[hF this,cb]
def Yx{ys:List Value}(cc:os.ok size xs){g c:Nat}{aU:List Value}(aE:ys.length=size)(aa:aU.length=c*size)(ab:os.n+1<=c)(ai:c<=maxLen)(aL:aU.take ((os.n+1)*size)=xs++ys) :
  aQ.ok ⟨some g,os.n+1,c,aU⟩ size (xs++ys):=by
 have aA:=cc.len;refine⟨?_,(λh=>by cases h),λb5 sM=>⟨aa,ab,ai,aL⟩⟩;rw[cm,aA,aE];simp only;rw[lT,oI]
abbrev LJ:=bn×Int×ByteArray
def LJ.bX(x:LJ):al:=Ct x.2.1 x.2.2
structure LJ.ok(I:aJ)(x:LJ):Prop where
 t:x.1.ok I
 ns:x.1.ns=[x.bX]
 br:x.1.br=0
 fits:akG x.bX 0=true
def l4(ns:List al):Int->Nat:=mv 0 (λd g=>1+gS g d.aq) ns
def Ev(af:right t=true){j:Nat}(ak:j<t.ns.length):l4 t.ns j=1+gS (l4 t.ns) t.ns[j].aq:=
 Ea (λd g eu h=>by rw[XL h]) af ak
def akI(af:right t=true):l4 t.ns t.br<=t.ns.length:=by
 have:=PM af (g:=l4 t.ns) (c:=λ_=>1) λj ak=>by rw[Ev af ak];exact b2 _
 rwa [Lk,oI]at this
def Yy{i:Nat}:∀ {ks:List Int} {s cn:List Bool},kU i ks s=some cn->∀ j,cn.getD j false=true->s.getD j false=true\/((j:Int)∈ks/\j<i)
 |[],s,cn,h,j,ak=>by simp only[kU,kJ]at h;subst h;exact .inl ak
 |k::ks,s,cn,h,j,ak=>by
  unfold kU at h;cases ag:decide (k<0)||(decide ((i:Int)<=k)||s.getD k.toNat false)with
  |true=>rw[ag]at h;cases h
  |false=>
   rw[ag]at h;simp only[cb]at h;simp only[tI,sE]at ag;rcases Yy h j ak with aa | aa
   ·by_cases e:k.toNat=j
    ·right
     refine⟨?_,by omega⟩;have:(j:Int)=k:=by omega
     rw[this];exact .head _
    ·left
     simp only[bM,iv]at aa |-;rwa [bP e]at aa
   ·exact .inr ⟨.tail _ aa.1,aa.2⟩
def Yz:∀ {ds:List al} {i:Nat} {s cn:List Bool},jz i ds s=some cn->∀ j,cn.getD j false=true->s.getD j false=true\/∃ q,∃ h:q<ds.length,(j:Int)∈ds[q].aq/\j<i+q
 |[],i,s,cn,h,j,ak=>by simp only[jz,kJ]at h;subst h;exact .inl ak
 |d::ds,i,s,cn,h,j,ak=>by
  unfold jz at h;cases aB:fits d d.aq.length with
  |false=>rw[aB]at h;cases h
  |true=>
   rw[aB]at h;simp only[cp]at h;split at h
   ·rename_i s1 gj;rcases Yz h j ak with aa | ⟨q,aM,aa,ab⟩
    ·rcases Yy gj j aa with ai | ⟨ai,aL⟩
     ·exact .inl ai
     ·exact .inr ⟨0,by simp,ai,by omega⟩
    ·exact .inr ⟨q+1,by simpa using aM,by simpa using aa,by omega⟩
   ·cases h
def YA(af:right t=true){j:Nat}(ak:j<t.ns.length)(bD:(j:Int)≠t.br):∃ p,∃ h:p<t.ns.length,(j:Int)∈t.ns[p].aq/\j<p:=by
 unfold right at af;simp only[cw]at af;obtain⟨_,_,af⟩:=af;split at af
 ·rename_i s av;have g6:=(PL (g:=λ_=>0) (c:=λ_=>0) av (by simp) (λj ak=>by simp)).1;have hm:s.getD j false=true:=by
   cases ag:s.getD j false with
   |true=>rfl| false=>have:=Qz (br:=t.br) (s:=s) (i:=0) (j:=j) (by rw[g6];simpa using ak) (by rw[ag,dp];simp[bD]);rw[this]at af;cases af
  rcases Yz av j hm with aa | ⟨q,aM,aa,ab⟩;·simp[bM,ak]at aa
  ·exact⟨q,aM,aa,by omega⟩
 ·cases af
def YB{g:Int->Nat}:∀ {ks:List Int} {k:Int},k∈ks->g k<=gS g ks
 |a::ks,k,h=>by
  simp only[gS,ca,hz];rcases eA.1 h with rfl | h;·omega
  ·have:=YB (g:=g) h;simp only[gS]at this;omega
def HU{t:bn}(af:right t=true):∀ (m j:Nat),j<t.ns.length->t.ns.length-j<=m->l4 t.ns j<=t.ns.length
 |0,j,ak,hm=>by omega
 |m+1,j,ak,hm=>by
  by_cases e:(j:Int)=t.br;·rw[e];exact akI af
  ·obtain⟨p,aH,ae,a4⟩:=YA af ak e;have aa:=HU af m p aH (by omega);rw[Ev af aH]at aa;have:=YB (g:=l4 t.ns) ae;omega
def HV(g:Int->Nat)(a b:List Int):gS g (a++b)=gS g a+gS g b:=by simp[gS]
def LK{t:bn}(af:right t=true):∀ {l:List Int},valid t.ns.length l->l.length<=gS (l4 t.ns) l
 |[],_=>by simp
 |a::l,aj=>by have aa:=LK af (l:=l) λk ae=>aj k (.tail _ ae);have ab:=aj a (.head _);obtain⟨a,rfl⟩:=eF ab.1;have ai:=Ev af (j:=a) (by omega);simp only[gS,ca,hz,eo]at aa |-;have aL:l4 t.ns (Int.ofNat a)=l4 t.ns a:=rfl;omega
def yA(ns:List al):Nat->List Int->List Int->List Int
 |0,_,b=>b
 |f+1,todo,b=>match todo.getLast? with
  |none=>b| some n=>yA ns f (todo.dropLast++(nodeAt ns n.toNat).aq) (b++[n])
def Cu(ns:List al)(node:Int):List Int:=yA ns (ns.length+1) [node] []
def YC(ns:List al)(f:Nat)(b:List Int):yA ns f [] b=b:=by cases f<;>rfl
def YD(ns:List al)(f:Nat)(todo:List Int)(n:Int)(b:List Int):yA ns (f+1) (todo++[n]) b=yA ns f (todo++(nodeAt ns n.toNat).aq) (b++[n]):=by rw[yA];simp only[List.getLast?_concat,List.dropLast_concat]
def al.a1(d:al):al:=⟨d.k,d.cz,d.s1,d.s2,d.cV,d.t,d.lo,d.hi,none,0,0,d.aq⟩
def al.ep(d:al)(l:List Int):al:=⟨d.k,d.cz,d.s1,d.s2,d.cV,d.t,d.lo,d.hi,none,0,0,l⟩
def LL(ns:List al)(aI:List Int×List al)(b:Int):List Int×List al:=
 (aI.1.set b.toNat aI.2.length,aI.2++[(nodeAt ns b.toNat).ep ((nodeAt ns b.toNat).aq.map λk=>(aI.1.set b.toNat aI.2.length).getD k.toNat 0)])
def wU(ns:List al)(node:Int):List al:=((Cu ns node).reverse.foldl (LL ns) (List.replicate ns.length 0,[])).2
def aQ.pop{x:Value}(h:os.ok 1 (xs++[x])):aQ.ok ⟨os.a,os.n-1,os.c,os.aU⟩ 1 xs:=by
 have aA:=h.len;simp only[cm,eo,g3,gP]at aA;refine⟨by simp only;omega,λa6=>?_,λg ax=>?_⟩
 ·have:=h.nil a6;simp only;omega
 ·obtain⟨aa,ab,ai,aL⟩:=h.cap g ax;refine⟨aa,by simp only;omega,ai,?_⟩;simp only;have e:os.n*1=xs.length+1:=by omega
  rw[e]at aL;have:os.aU.take xs.length=(os.aU.take (xs.length+1)).take xs.length:=by rw[zA];congr 1;omega
  rw[show(os.n-1)*1=xs.length by omega,this,aL,wv]
structure akJ(t:bn)(node:Int)(x:aQ×List Int×aQ×List Int×Nat):Prop where
 todo:x.1.ok 1 (x.2.1.map (.int .i64 ·))
 back:x.2.2.1.ok 1 (x.2.2.2.1.map (.int .i64 ·))
 axb:valid t.ns.length x.2.1
 axc:valid t.ns.length x.2.2.2.1
 sum:gS (l4 t.ns) x.2.1+x.2.2.2.1.length=l4 t.ns node
 eg:gS (l4 t.ns) x.2.1+1<=x.2.2.2.2
 eq:Cu t.ns node=yA t.ns x.2.2.2.2 x.2.1 x.2.2.2.1
structure YE(I:aJ)(t:bn)(rb:List Int)(x:Nat×List Int×aQ×List al×aJ):Prop where
 j:x.1<=rb.length
 len:x.2.1.length=t.ns.length
 out:x.2.2.1.ok 9 (x.2.2.2.1.flatMap al.cells)
 on:x.2.2.2.1.length=x.1
 eq:(rb.take x.1).foldl (LL t.ns) (List.replicate t.ns.length 0,[])=(x.2.1,x.2.2.2.1.map al.a1)
 ok:∀ d∈x.2.2.2.1,d.ok x.2.2.2.2
 le:∀ b o,I b=some o->x.2.2.2.2 b=some o
 HW:∀ c∈x.2.1,0<=c/\c<=rb.length
 tV:∀ d∈x.2.2.2.1,∀ k∈d.aq,0<=k/\k<=rb.length
structure aR where
 z:Bool
 s:Bool
 f:Bool
 deriving DecidableEq
def aR.cells(x:aR):List Value:=[.bool x.z,.bool x.s,.bool x.f]
def aR.val(x:aR):Value:=.agg #[.bool x.z,.bool x.s,.bool x.f]
def aR.cH(x:aR):x.cells.length=3:=rfl
def aR.hO(x:aR):Bool:=x.z||x.s
def akK(x y:aR)(p q:Operand)(w:World):(do eqGuard .neq 311 p q x.val y.val;binOp .neq 311 x.val y.val:Sem Value).run Tryz.prog w=.ok (.bool (!decide (x=y))) w:=by
 obtain⟨a,b,c⟩:=x;obtain⟨d,e,f⟩:=y;cases a<;>cases b<;>cases c<;>cases d<;>cases e<;>cases f<;>kernel_rfl
def fW.YF{x:Operand}{p q:aR}{V:Value->Prop}(h:V (.bool (!decide (p=q)))):fW Tryz.prog .neq 311 x y (.val (.agg #[.bool p.z,.bool p.s,.bool p.f])) (.val (.agg #[.bool q.z,.bool q.s,.bool q.f])) V other:=
 .mk _ _ _ rfl rfl (λw=>akK p q x y w) h
def QA{s:Bool}{x:aR}(aa:z=x.z)(ab:s=x.s)(ai:f=x.f):Value.agg #[.bool z,.bool s,.bool f]=x.val:=by subst aa ab ai;rfl
def YG{s:Bool}{x:aR}(aa:z=x.z)(ab:s=x.s)(ai:f=x.f):[Value.bool z,Value.bool s,Value.bool f]=x.cells:=by subst aa ab ai;rfl
def akL{a b:Bool}(h:a=b):zu (.val (.bool a)) (.val (.bool b)):=by subst h;exact .refl
def LM{a b:Bool}(h:a=b):zu (.lit a) (.val (.bool b)):=by subst h;exact .lit
def perm_nil:M.Perm (M++[]):=by simp
def fW.akM{E:Env}(aO:cX P E){t:Nat}{aG:dR}{x:Operand}(au:E t=some c6)(dz:c6.bQ=.array 4 e)(he:E e=some aG){k:IntKind}(kr:aG.bQ=.int k)(ax:P.eqGuardType P.depth t=false){gd cN ej ek qH b1 bW dA:Int}{V:Value->Prop}
  (h:V (.bool (!(gd == qH&&(cN == b1&&(ej == bW&&ek == dA)))))):fW P .neq t x y (.val (.agg #[.int k gd,.int k cN,.int k ej,.int k ek])) (.val (.agg #[.int k qH,.int k b1,.int k bW,.int k dA])) V other:=by
 obtain⟨d,fM,fk⟩:=(aO _ _ au).ft;obtain⟨qI,Pp,Pq⟩:=(aO _ _ he).ft;obtain⟨inf,z,hi,fv,_⟩:=(aO _ _ he).inf;have aa:d=.array 4 e:=by rw[dz]at fk;cases d<;>simp_all[fs]
 have ab:qI=.int k:=by rw[kr]at Pq;cases qI<;>simp_all[fs]
 subst aa;subst ab;have gj:inf.size=1:=by rw[fv];exact(aO _ _ he).Kw (by rw[kr];rfl)
 refine .mk _ _ _ rfl rfl (λw=>?_) h;simp only[cu,run_eqGuard_agg (hm:=ax),bY,binOp,WO fM Pp hi gj,c7]
def QB(x:aR):Spec Tryz.prog 336 [x.val] I M λv I' M'=>v=.bool x.hO/\I'=I/\M'=M:=by
 obtain⟨a,b,c⟩:=x;refine b0 [] a3 Tryz.func336 rfl rfl rfl ?_;intro B aw;refine cT.mk (λh=>?_) (λh=>?_)
 ·exact⟨_,_,.refl,by rw[show a=false from h];rfl,rfl,rfl⟩
 ·exact⟨_,_,.refl,by rw[show a=true from h];rfl,rfl,rfl⟩
structure l5(I:aJ)(M:List aF)(a:Option Addr)(n:Nat)(ks:List aR):Prop where
 n:ks.length=n
 rd:∀ j (h:j<ks.length),∃ aP,a=some aP/\cY I M (aP.add (j*3)) 3 ks[j].cells
def kd(aI:aR×Bool)(k:aR):aR×Bool:=(⟨aI.1.z&&k.z,aI.1.s||k.s,aI.1.f||(aI.2&&k.f)⟩,aI.2&&k.hO)
def hP(ks:List aR):aR×Bool:=ks.foldl kd (⟨true,false,false⟩,true)
def hB(ks:List aR):aR:=⟨(hP ks).1.z,(hP ks).1.s&&(hP ks).2,(hP ks).1.f⟩
def o2(f k:aR):aR:=⟨f.z||(f.f&&k.z),f.s||(f.f&&k.s),f.f&&k.f⟩
def pZ(ks:List aR):aR:=ks.foldl o2 ⟨false,false,true⟩
def ch:aR:=⟨false,false,false⟩
def yB(d:al)(k:aR):aR:=bif decide (d.hi=0)then⟨true,false,false⟩else⟨k.z||(decide (d.lo=0)&&k.f),k.s,decide (0<d.lo)&&k.f⟩
def gD(d:al)(ks:List aR):aR:=
 bif decide (d.k=0)then⟨true,false,false⟩else
 bif decide (d.k=1)then⟨false,!d.kT,true⟩else
 bif decide (d.k=2)then⟨false,true,true⟩else
 bif decide (d.k=3)then ks.headD ch else
 bif decide (d.k=4)then hB ks else
 bif decide (d.k=5)then pZ ks else
 bif decide (d.k=6)then yB d (ks.headD ch)else
 bif decide (d.k=7)then⟨(ks.headD ch).hO,false,(ks.headD ch).f⟩else
 bif decide (d.k=8)then⟨(ks.headD ch).f,false,(ks.headD ch).hO⟩else ks.headD ch
section
variable{I:aJ}{M:List aF}{d:al}{a:Option Addr}{n c:Nat}{ks:List aR}
def l5.head(ae:l5 I M a n ks)(aw:0<n):∃ aP,a=some aP/\cY I M (aP.add (0*3)) 3 (ks.headD ch).cells:=by
 have aa:0<ks.length:=by rw[ae.n];exact aw
 obtain⟨aP,ab,ai⟩:=ae.rd 0 aa;refine⟨aP,ab,?_⟩;cases ks with
 |nil=>simp at aa| cons k ks=>exact ai
def akN:Spec Tryz.prog 309 [d.val,.slice a n c] I M λv I' M'=>v=aR.val ⟨true,false,false⟩/\I'=I/\M'=M:=by refine b0 [] a3 Tryz.func309 rfl rfl rfl ?_;intro B aw;exact⟨_,_,.refl,rfl,rfl,rfl⟩
def akO:Spec Tryz.prog 311 [d.val,.slice a n c] I M λv I' M'=>v=aR.val ⟨false,true,true⟩/\I'=I/\M'=M:=by refine b0 [] a3 Tryz.func311 rfl rfl rfl ?_;intro B aw;exact⟨_,_,.refl,rfl,rfl,rfl⟩
def YH(ae:l5 I M a n ks)(aw:0<n):Spec Tryz.prog 312 [d.val,.slice a n c] I M λv I' M'=>v=(ks.headD ch).val/\I'=I/\M'=M:=by refine b0 [] a3 Tryz.func312 rfl rfl rfl ?_;intro B hx;obtain⟨aP,bI,bt⟩:=ae.head aw;refine bA.mk aP 0 bI rfl aw ?_;refine aV.mk _ bt ?_;exact⟨_,_,.refl,rfl,rfl,rfl⟩
def akP(ae:l5 I M a n ks)(aw:0<n):Spec Tryz.prog 316 [d.val,.slice a n c] I M λv I' M'=>v=aR.val ⟨(ks.headD ch).hO,false,(ks.headD ch).f⟩/\I'=I/\M'=M:=by refine b0 [] a3 Tryz.func316 rfl rfl rfl ?_;intro B hx;obtain⟨aP,bI,bt⟩:=ae.head aw;refine c2.draw a3 rfl rfl rfl ?_;refine bA.mk aP 0 bI rfl aw ?_;refine aV.mk _ bt ?_;refine bA.mk aP 0 bI rfl aw ?_;refine aV.mk _ (bt.part (k:=2) (m:=1) (by decide)) ?_;refine eH.oJ M [] _ perm_nil (QB (ks.headD ch)) (λv I' M' h x ad=>by rw[h.2.2];exact ad) ?_;rintro v I' M' -⟨rfl,rfl,rfl⟩;rw[dD];exact⟨_,_,.refl,rfl,rfl,rfl⟩
def akQ(ae:l5 I M a n ks)(aw:0<n):Spec Tryz.prog 317 [d.val,.slice a n c] I M λv I' M'=>v=aR.val ⟨(ks.headD ch).f,false,(ks.headD ch).hO⟩/\I'=I/\M'=M:=by refine b0 [] a3 Tryz.func317 rfl rfl rfl ?_;intro B hx;obtain⟨aP,bI,bt⟩:=ae.head aw;refine c2.draw a3 rfl rfl rfl ?_;refine bA.mk aP 0 bI rfl aw ?_;refine aV.mk _ (bt.part (k:=2) (m:=1) (by decide)) ?_;refine bA.mk aP 0 bI rfl aw ?_;refine aV.mk _ bt ?_;refine eH.oJ M [] _ perm_nil (QB (ks.headD ch)) (λv I' M' h x ad=>by rw[h.2.2];exact ad) ?_;rintro v I' M' -⟨rfl,rfl,rfl⟩;rw[dD];exact⟨_,_,.refl,rfl,rfl,rfl⟩
def akR:Spec Tryz.prog 310 [d.val,.slice a n c] I M λv I' M'=>v=aR.val ⟨false,!d.kT,true⟩/\I'=I/\M'=M:=by refine b0 [] a3 Tryz.func310 rfl rfl rfl ?_;intro B aw;refine fW.akM a3 (e:=60) rfl rfl rfl rfl (by kernel_rfl) ?_;exact⟨_,_,.refl,rfl,rfl,rfl⟩
def akS(ae:l5 I M a n ks)(aw:0<n):Spec Tryz.prog 315 [d.val,.slice a n c] I M λv I' M'=>v=(yB d (ks.headD ch)).val/\I'=I/\M'=M:=by
 refine b0 [] a3 Tryz.func315 rfl rfl rfl ?_;intro B hx;obtain⟨aP,bI,bt⟩:=ae.head aw;generalize ks.headD ch=k at bt;obtain⟨QC,QD,HX⟩:=k;refine a5.mk (λh=>?_) (λh=>?_)
 ·refine⟨_,_,.refl,QA ?_ ?_ ?_,rfl,rfl⟩<;>simp[yB,h]
 refine bA.mk aP 0 bI rfl aw ?_;refine aV.mk _ bt ?_
 repeat' refine cT.mk (λh=>?_) (λh=>?_)
 all_goals refine⟨_,_,.refl,QA ?_ ?_ ?_,rfl,rfl⟩
 all_goals first | (simp_all[yB];done) | (simp_all[yB];intros;omega)
def akT(ae:l5 I M a n ks)(aD:n<=140737488355328):Spec Tryz.prog 314 [d.val,.slice a n c] I M λv I' M'=>v=(pZ ks).val/\I'=I/\M'=M:=by
 refine b0 [] a3 Tryz.func314 rfl rfl rfl ?_;intro B hx;have fh:=ae.n;refine dx.inv (ι:=Nat×aR) (λx=>{ bp:=[(4,.ref 4 0),(5,.ref 5 0),(9,.val (.slice a n c)),(10,.val (.int .i64 n)),(11,.val (.int .i64 x.1))],cl:=[(4,ch.cells),(5,x.2.cells)],cP:=I,da:=M }) (λx=>x.1<=n/\x.2=(ks.take x.1).foldl o2 ⟨false,false,true⟩) (λx=>n-x.1) ?_ ?_
 ·exact⟨(0,⟨false,false,true⟩),⟨dj _,rfl⟩,.refl,il,.cons rfl (.cons rfl .nil)⟩
 rintro⟨i,f⟩⟨hi,aB⟩;simp only at hi aB;refine a5.mk (λh=>?_) (λh=>?_)
 rotate_left
 ·have c8:n<=i:=by have:=dP h;omega
  refine⟨_,_,.refl,?_,rfl,rfl⟩;rw[fS (by omega)]at aB;rw[pZ,<-aB];rfl
 have a4:i<n:=by have:=c5 h;omega
 obtain⟨aP,bI,bt⟩:=ae.rd i (by omega);have fa:∀ g:aR,g=o2 f (ks[i]'(by omega))->g=(ks.take (i+1)).foldl o2 ⟨false,false,true⟩:=λg ax=>by rw[gH (by omega),tT,<-aB,ax];rfl
 generalize ks[i]'(by omega)=k at bt fa;obtain⟨QC,QD,HX⟩:=k;obtain⟨z,s,QE⟩:=f;refine bA.mk aP i bI rfl a4 ?_;refine aV.mk _ bt ?_
 repeat' refine cT.mk (λh=>?_) (λh=>?_)
 all_goals refine be.mk _ (dc (i:=i) (by omega)) ?_
 all_goals refine⟨(i+1,_),⟨⟨by simp only;omega,fa _ rfl⟩,by simp only;omega⟩,.refl,il,.cons rfl (.cons ?_ .nil)⟩
 all_goals clear fa aB bt
 all_goals (refine congrArg some (YG ?_ ?_ ?_)<;>simp_all[o2])
def akU(l:List aR)(k:aR):hP (l++[k])=kd (hP l) k:=by simp[hP]
def akV(ae:l5 I M a n ks)(aD:n<=140737488355328):Spec Tryz.prog 313 [d.val,.slice a n c] I M λv I' M'=>v=(hB ks).val/\I'=I/\M'=M:=by
 refine b0 [] a3 Tryz.func313 rfl rfl rfl ?_;intro B hx;have fh:=ae.n;refine dx.inv (ι:=Nat×aR×Bool) (λx=>{ bp:=[(4,.ref 4 0),(5,.ref 5 0),(6,.val (.bool x.2.2)),(10,.val (.slice a n c)),(11,.val (.int .i64 n)),(12,.val (.int .i64 x.1))],cl:=[(4,ch.cells),(5,x.2.1.cells)],cP:=I,da:=M }) (λx=>x.1<=n/\x.2=hP (ks.take x.1)) (λx=>n-x.1) ?_ ?_
 ·exact⟨(0,⟨true,false,false⟩,true),⟨dj _,rfl⟩,.refl,.cons .refl (.cons .refl (.cons .lit (fw))),.cons rfl (.cons rfl .nil)⟩
 rintro⟨i,f,HY⟩⟨hi,aB⟩;simp only at hi aB;refine a5.mk (λh=>?_) (λh=>?_)
 rotate_left
 ·have c8:n<=i:=by have:=dP h;omega
  rw[fS (by omega)]at aB;obtain⟨z,s,QE⟩:=f;have aK:(hP ks).1=⟨z,s,QE⟩:=by rw[<-aB]
  have a7:(hP ks).2=HY:=by rw[<-aB]
  refine cT.mk (λab=>?_) (λab=>?_)
  all_goals refine⟨_,_,.refl,QA ?_ ?_ ?_,rfl,rfl⟩
  all_goals simp_all[hB]
 have a4:i<n:=by have:=c5 h;omega
 obtain⟨aP,bI,bt⟩:=ae.rd i (by omega);have fa:∀ g:aR×Bool,g=kd (f,HY) (ks[i]'(by omega))->g=hP (ks.take (i+1)):=λg ax=>by rw[gH (by omega),akU,<-aB,ax]
 generalize ks[i]'(by omega)=k at bt fa;obtain⟨QC,QD,HX⟩:=k;obtain⟨z,s,QE⟩:=f;refine bA.mk aP i bI rfl a4 ?_;refine aV.mk _ bt ?_
 repeat' first
  |refine cT.mk (λh=>?_) (λh=>?_)|(refine bc.mk M [] _ perm_nil (QB ⟨QC,QD,HX⟩) ?_;rintro v I' M' -⟨rfl,rfl,rfl⟩;rw[dD])
 all_goals refine be.mk _ (dc (i:=i) (by omega)) ?_
 all_goals refine⟨(i+1,_),⟨⟨by simp only;omega,fa _ rfl⟩,by simp only;omega⟩,.refl,.cons .refl (.cons .refl (.cons ?_ (fw))),.cons rfl (.cons ?_ .nil)⟩
 all_goals clear fa aB bt
 all_goals first
  |(refine congrArg some (YG ?_ ?_ ?_)<;>simp_all[kd])|(refine akL ?_;simp_all[kd])|(refine LM ?_;simp_all[kd])
end
def tW(t:bn):List al:=wU t.ns t.br
def cY.mono{a:Addr}{n:Nat}(h:cY I M a n vs)(bB:∀ b o,I b=some o->I' b=some o):cY I' M a n vs:=by obtain⟨aa,cs,T,an,ab,ai⟩:=h;exact⟨aa,cs,T,an,ab.imp (bB _ _) id,ai⟩
def cY.sub{I:aJ}{M M':List aF}{a:Addr}{n:Nat}{vs:List Value}(h:cY I M a n vs)(bb:∀ x∈M,x∈M'):cY I M' a n vs:=by obtain⟨aa,cs,T,an,ab,ai⟩:=h;refine⟨aa,cs,T,an,ab.imp id ?_,ai⟩;rintro⟨x,ad,aK,a7⟩;exact⟨x,bb x ad,aK,a7⟩
def jl(aI:List al×List Int)(l:List al):List al×List Int:=
 (aI.1++l.map (λx=>x.ep (x.aq.map λk=>(aI.1.length:Int)+k)),aI.2++[((aI.1.length+l.length:Nat):Int)-1])
def sX(d:al)(fY:List (List al)):List al:=(fY.foldl jl ([],[])).1++[d.ep (fY.foldl jl ([],[])).2]
structure akW(I:aJ)(L:List bn)(x:Nat×aQ×List al×aQ×List Int×aJ):Prop where
 i:x.1<=L.length
 out:x.2.1.ok 9 (x.2.2.1.flatMap al.cells)
 cj:x.2.2.2.1.ok 1 (x.2.2.2.2.1.map (.int .i64 ·))
 fz:x.2.2.2.2.1.length=x.1
 eq:((L.take x.1).map tW).foldl jl ([],[])=(x.2.2.1.map al.a1,x.2.2.2.2.1)
 ok:∀ d∈x.2.2.1,d.ok x.2.2.2.2.2
 le:∀ b o,I b=some o->x.2.2.2.2.2 b=some o
 n:x.2.2.1.length<=((L.take x.1).map (·.n)).sum
 tV:∀ k∈x.2.2.2.2.1,-1<=k/\k<=((L.take x.1).map (·.n)).sum
def YI(L:List bn)(i:Nat):((L.take i).map (·.n)).sum<=(L.map (·.n)).sum:=by have h:=congrArg (λl:List bn=>(l.map (·.n)).sum) (pM i L);simp only[cS,pO]at h;omega
def YJ(L:List bn)(i:Nat)(hi:i<L.length):((L.take (i+1)).map (·.n)).sum=((L.take i).map (·.n)).sum+L[i].n:=by rw[gH hi,cS,pO];simp
section
variable{X:c1}{β:Nat->Nat}{a:Act}{w:World}{F:Fr}{C:dO}{I:aJ}{M:List aF}{o:Oper}{Q:Exit->Act->World->Prop}{K:gr}
def YK(aO:cX X.P X.E){t:Nat}{k:Nat}(au:X.E t=some c6)(dz:c6.bQ=.map k e)(ae:X.E k=some tJ)(eL:tJ.bQ=.string)(bd:∀ w,(zeroValue e).run X.P w=.ok (.int .i64 0) w){g:Nat}{l:List (ByteArray×Int)}{s:ByteArray}(ax:w.heap[g]?=some (jB l))(ok:Bool) :
  (Instr.lookup t (.map (some g)) (.string s) ok).run X.P w=.ok (bif ok then .tuple #[.int .i64 ((eQ s l).getD 0),.bool (eQ s l).isSome]else .int .i64 ((eQ s l).getD 0)) w:=by
 obtain⟨d,fM,fk⟩:=(aO _ _ au).ft;have aa:d=.map k e:=by rw[dz]at fk;cases d<;>simp_all[fs]
 subst aa;obtain⟨dN,sU,gu⟩:=(aO _ _ ae).ft;have ab:dN=.string:=by rw[eL]at gu;cases dN<;>simp_all[fs]
 subst ab;have ax:w.heap[g]?=some (.map (oZ l 0).toArray l.length):=ax;obtain⟨r,wm,mC⟩:=Lq s l 0 0;have ao:(Instr.checkKey (oZ l 0).toArray.isEmpty 10000 k (.string s)).run X.P w=.ok () w:=D8 (k:=.string s) sU (by simp[MapKept.IsKey]) _ 9999;have vl:(Instr.findKey k (.string s) (oZ l 0)).run X.P w=.ok r w:=D' sU wm;unfold Instr.lookup;simp only[cu,run_underlying fM,bY,D7 ax,c7,ao,vl];cases r with
 |none=>
  cases aA:eQ s l with
  |none=>cases ok<;>simp[bd]
  |some v=>rw[aA]at mC;simp at mC
 |some p=>
  cases aA:eQ s l with
  |none=>rw[aA]at mC;simp at mC
  |some v=>
   rw[aA]at mC;simp only[lb,kJ]at mC;cases ok<;>simp[mC]
def bF.YL(aO:cX X.P X.E){t:Nat}{x:Operand}(aC:o.op=.lookup t x y true)(ah:∀ d,o.dst=some d->d<X.n){k:Nat}(au:X.E t=some c6)(dz:c6.bQ=.map k e)(ae:X.E k=some tJ)(eL:tJ.bQ=.string)(bd:∀ w,(zeroValue e).run X.P w=.ok (.int .i64 0) w){g:Nat}{l:List (ByteArray×Int)}{s:ByteArray}(ad:bH F x=.val (.map (some g)))(aE:bH F y=.val (.string s))(bb:ih I M g (jB l))
  (h:K (put o.dst (.val (.tuple #[.int .i64 ((eQ s l).getD 0),.bool (eQ s l).isSome])) F) C I M):bF X o F C I M K:=by
 refine⟨λa w Q ⟨β,aX⟩=>?_⟩;have e':=YK aO au dz ae eL bd (bb.heap aX.holds) (s:=s) true;have ex:=dh aX.an ad;have oP:=dh aX.an aE;refine wk aX ah (by rw[aC];simp) ?_ h;unfold execOp;simp only[aC,ex,oP,cu,e',bY,c7,cp]
def bF.akX(aO:cX X.P X.E){t:Nat}{x:Operand}(aC:o.op=.lookup t x y false)(ah:∀ d,o.dst=some d->d<X.n){k:Nat}(au:X.E t=some c6)(dz:c6.bQ=.map k e)(ae:X.E k=some tJ)(eL:tJ.bQ=.string)(bd:∀ w,(zeroValue e).run X.P w=.ok (.int .i64 0) w){g:Nat}{l:List (ByteArray×Int)}{s:ByteArray}(ad:bH F x=.val (.map (some g)))(aE:bH F y=.val (.string s))(bb:ih I M g (jB l))
  (h:K (put o.dst (.val (.int .i64 ((eQ s l).getD 0))) F) C I M):bF X o F C I M K:=by
 refine⟨λa w Q ⟨β,aX⟩=>?_⟩;have e':=YK aO au dz ae eL bd (bb.heap aX.holds) (s:=s) false;have ex:=dh aX.an ad;have oP:=dh aX.an aE;refine wk aX ah (by rw[aC];simp) ?_ h;unfold execOp;simp only[aC,ex,oP,cu,e',bY,c7,cb]
end
def oa:List (ByteArray×Int)->Nat->List a0->List (ByteArray×Int)
 |aZ,_,[]=>aZ| aZ,i,d::ds=>oa (bif (eQ d.name aZ).isSome then aZ else aZ++[(d.name,(i:Int))]) (i+1) ds
def bL(ds:List a0):List (ByteArray×Int):=oa [] 0 ds
def YM(ax:g.ok I):Spec Tryz.prog 271 [g.val] I [] λv I' M'=>(∀ b o,I b=some o->I' b=some o)/\M'=[]/\∃ h2,v=.map (some h2)/\I' h2=some (jB (bL g.ds)):=by
 refine x2 [] a3 Tryz.func271 rfl rfl rfl ?_;intro B aw;have hL:=ax.n;have hy:=ax.ba.cap;refine bF.makeMap a3 rfl (by simp) rfl rfl rfl λjC=>?_;refine dx.inv (ι:=Nat×List (ByteArray×Int)) (λx=>{ bp:=[(1,.ref 1 0),(3,.val (.map (some jC))),(13,.val (.slice g.a g.n g.c)),(14,.val (.int .i64 g.n)),(15,.val (.int .i64 x.1))],cl:=[(1,[.slice g.a g.n g.c])],cP:=I,da:=[⟨jC,jB x.2⟩] }) (λx=>x.1<=g.n/\bL g.ds=oa x.2 x.1 (g.ds.drop x.1)) (λx=>g.n-x.1) ?_ ?_
 ·exact⟨(0,[]),⟨dj _,rfl⟩,.refl,il,.cons rfl .nil⟩
 rintro⟨i,aZ⟩⟨hi,aH⟩;simp only at hi aH;refine a5.mk (λh=>?_) (λh=>?_)
 ·have a4:i<g.n:=by have:(i:Int)<(g.n:Int):=c5 h;omega
  have cJ:i<g.ds.length:=by omega
  obtain⟨aP,bI,bt⟩:=ax.ba.row a0.cH a4 cJ;rw[fi cJ,oa]at aH;refine bA.mk aP i bI rfl a4 ?_;refine aV.mk _ (bt _) ?_;refine bF.YL a3 rfl (by simp) rfl rfl rfl rfl (λw=>HK w) (l:=aZ) (g:=jC) rfl rfl (.inr ⟨_,.head _,rfl,rfl⟩) ?_;refine a5.mk (λai=>?_) (λai=>?_)
  ·have aD:(eQ g.ds[i].name aZ).isSome=false:=by simpa using ai
   have aA:eQ g.ds[i].name aZ=none:=by simpa using aD
   rw[aD,cb]at aH;refine bF.X4 a3 rfl rfl rfl rfl rfl rfl rfl rfl rfl aA (Mr:=[]) (.refl _) ?_;refine be.mk _ (dc (i:=i) (by omega)) ?_;exact⟨(i+1,_),⟨⟨by simp only;omega,aH⟩,by simp only;omega⟩,.refl,il,.cons rfl .nil⟩
  ·have aD:(eQ g.ds[i].name aZ).isSome=true:=by simpa using ai
   rw[aD,cp]at aH;refine be.mk _ (dc (i:=i) (by omega)) ?_;exact⟨(i+1,_),⟨⟨by simp only;omega,aH⟩,by simp only;omega⟩,.refl,il,.cons rfl .nil⟩
 have c8:g.n<=i:=by have:¬ (i:Int)<(g.n:Int):=dP h;omega
 rw[mr (by omega),oa]at aH;intro eS;have ag:=eS.d ⟨jC,jB aZ⟩ (.head _);exact⟨_,_,.n1 rfl (by simp) .refl,mz ag,rfl,jC,rfl,by rw[aH];exact pS ..⟩
def akY:List Nat:=[309,310,311,312,313,314,315,316,317,312]
def QF:List Value:=[.func (.func 309) #[] #[],.func (.func 310) #[] #[],.func (.func 311) #[] #[],.func (.func 312) #[] #[],.func (.func 313) #[] #[],.func (.func 314) #[] #[],.func (.func 315) #[] #[],.func (.func 316) #[] #[],.func (.func 317) #[] #[],.func (.func 312) #[] #[]]
def akZ:Spec Tryz.prog 296 [] I [] λv I' M'=>v=.agg QF.toArray/\I'=I/\M'=[]:=by refine b0 [] a3 Tryz.func296 rfl rfl rfl ?_;intro B aw;exact⟨_,_,.refl,rfl,rfl,rfl⟩
def wV{d:al}{a:Option Addr}{n c:Nat}{ks:List aR}(ae:l5 I M a n ks)(aD:n<=140737488355328)(j:Nat)(ak:j<10)(ah:d.k=j)(aw:(j=3\/6<=j)->0<n) :
  Spec Tryz.prog (akY.getD j 0) [d.val,.slice a n c] I M λv I' M'=>v=(gD d ks).val/\I'=I/\M'=M:=by
 match j,ak,ah,aw with
 |0,_,ah,_=>rw[show gD d ks=⟨true,false,false⟩ by simp[gD,ah]];exact akN (I:=I) (M:=M) (d:=d) (a:=a) (n:=n) (c:=c)| 1,_,ah,_=>rw[show gD d ks=⟨false,!d.kT,true⟩ by simp[gD,ah]];exact akR (I:=I) (M:=M) (d:=d) (a:=a) (n:=n) (c:=c)| 2,_,ah,_=>rw[show gD d ks=⟨false,true,true⟩ by simp[gD,ah]];exact akO (I:=I) (M:=M) (d:=d) (a:=a) (n:=n) (c:=c)| 3,_,ah,aw=>rw[show gD d ks=ks.headD ch by simp[gD,ah]];exact YH (d:=d) (c:=c) ae (aw (by omega))| 4,_,ah,_=>rw[show gD d ks=hB ks by simp[gD,ah]];exact akV (d:=d) (c:=c) ae aD| 5,_,ah,_=>rw[show gD d ks=pZ ks by simp[gD,ah]];exact akT (d:=d) (c:=c) ae aD| 6,_,ah,aw=>rw[show gD d ks=yB d (ks.headD ch) by simp[gD,ah]];exact akS (d:=d) (c:=c) ae (aw (by omega))| 7,_,ah,aw=>rw[show gD d ks=⟨(ks.headD ch).hO,false,(ks.headD ch).f⟩ by simp[gD,ah]];exact akP (d:=d) (c:=c) ae (aw (by omega))| 8,_,ah,aw=>rw[show gD d ks=⟨(ks.headD ch).f,false,(ks.headD ch).hO⟩ by simp[gD,ah]];exact akQ (d:=d) (c:=c) ae (aw (by omega))| 9,_,ah,aw=>rw[show gD d ks=ks.headD ch by simp[gD,ah]];exact YH (d:=d) (c:=c) ae (aw (by omega))
def fU(b:Nat)(l:List aR):aF:=⟨b,.cells (l.flatMap aR.cells).toArray 311 (0,0)⟩
def Cv(l:List aR):(l.flatMap aR.cells).length=l.length*3:=gL _ 3 aR.cH l
def Ew{b:Nat}{l:List aR}(bb:fU b l∈M){j:Nat}(ak:j<l.length):cY I M ((⟨b,0,none⟩:Addr).add (j*3)) 3 l[j].cells:=by have h:=dq (I:=I) (cs:=l.flatMap aR.cells) (k:=j*3) (n:=3) bb (by rw[Cv];omega);rwa [D4 aR.cells 3 aR.cH l j ak]at h
def QG(l:List aR)(j:Nat)(ak:j<l.length)(x:aR):cq (l.flatMap aR.cells) (j*3) x.cells=(l.set j x).flatMap aR.cells:=by
 have e:l.flatMap aR.cells=(l.take j).flatMap aR.cells++(l[j].cells++(l.drop (j+1)).flatMap aR.cells):=by
  have aa:l=l.take j++(l[j]::l.drop (j+1)):=by rw[<-fi ak,pM]
  have ab:=congrArg (λq:List aR=>q.flatMap aR.cells) aa;simp only[fX,jf]at ab;exact ab
 have aA:((l.take j).flatMap aR.cells).length=j*3:=by rw[Cv,fR];congr 1;omega
 unfold cq;rw[GQ,bT ak,fX,jf,e,ec];congr 1
 ·rw[<-aA,wv]
 ·congr 1;rw[aR.cH,<-aA,<-ec,Hh (by rw[cm,aR.cH])]
def YN(l:List aR)(x:aR):(l++[x]).flatMap aR.cells=l.flatMap aR.cells++x.cells:=by simp
def aQ.zero{os:aQ}{size:Nat}{xs:List Value}(h:os.ok size xs):aQ.ok ⟨os.a,0,os.c,os.aU⟩ size []:=by refine⟨by simp,λa6=>⟨rfl,(h.nil a6).2⟩,λg ax=>?_⟩;obtain⟨aa,ab,ai,aL⟩:=h.cap g ax;exact⟨aa,dj _,ai,by simp⟩
def aQ.YO{l:List aR}(h:os.ok 3 (l.flatMap aR.cells))(bb:∀ x∈os.ar e,x∈M):l5 I M (os.a.map λg=>⟨g,0,none⟩) os.n l:=by
 have aA:=h.len;rw[Cv]at aA;refine⟨by omega,λj ak=>?_⟩;obtain⟨a,n,c,aU⟩:=os;simp only at aA;cases a with
 |none=>have:=(h.nil rfl).1;simp only at this;omega
 |some g=>
  obtain⟨aa,ab,ai,aL⟩:=h.cap g rfl;simp only at aa ab aL;refine⟨⟨g,0,none⟩,rfl,?_⟩;have hm:(⟨g,.cells aU.toArray e (0,0)⟩:aF)∈M:=bb _ (by simp[aQ.ar]);have af:=dq (I:=I) (cs:=aU) (k:=j*3) (n:=3) hm (by omega);have aK:(aU.drop (j*3)).take 3=((aU.take (n*3)).drop (j*3)).take 3:=by rw[DT,zA];congr 1;omega
  rw[aK,aL,D4 aR.cells 3 aR.cH l j ak]at af;exact af
def sY(pl:List (ByteArray×Int))(bp aZ:List aR)(d:al):List aR:=
 d.aq.map (λk=>aZ.getD k.toNat ch)++bif decide (d.k=3)then [bp.getD ((eQ d.t pl).getD 0).toNat ch]else []
def ev(pl:List (ByteArray×Int))(bp:List aR):List al->List aR->List aR
 |[],aZ=>aZ| d::ds,aZ=>ev pl bp ds (aZ++[gD d (sY pl bp aZ d)])
def HZ(pl:List (ByteArray×Int))(bp:List aR):∀ (ds:List al) (aZ:List aR),(ev pl bp ds aZ).length=aZ.length+ds.length
 |[],aZ=>rfl| d::ds,aZ=>by rw[ev,HZ];simp;omega
def YP(pl:List (ByteArray×Int))(n:Nat)(ns:List al):Prop:=∀ d∈ns,d.k=3->∃ i:Nat,eQ d.t pl=some (i:Int)/\i<n
def QH{d:al}{n:Int}(h:fits d n=true):d.k<10:=by apply Int.lt_of_not_ge;intro c8;have:(10:Int)<=d.k:=c8;simp[fits,this]at h
def YQ{d:al}{n:Int}(aw:0<=d.k)(h:fits d n=true)(ae:6<=d.k):0<n:=by
 have pL:=QH h;have Ex:d.k=6\/d.k=7\/d.k=8\/d.k=9:=by omega
 rcases Ex with e | e | e | e<;>(simp[fits,e,oQ,nF,jy]at h;omega)
def ak0(aZ:List aR)(n i:Nat)(aA:aZ.length=i)(hi:i<n)(x:aR):(aZ++List.replicate (n-i) ch).set i x=(aZ++[x])++List.replicate (n-(i+1)) ch:=by subst aA;rw[Ch _ _ (b2 _),mD,show n-aZ.length=(n-(aZ.length+1))+1 by omega,Qd,Ci];simp
def YR:∀ n:Nat,rowOf ch.cells (n*3)=(List.replicate n ch).flatMap aR.cells:=λn=>by
 apply oH
 ·rw[Cv,zQ];simp[tp,madeCells]
 intro i aa ab;have ai:∀ x∈(List.replicate n ch).flatMap aR.cells,x=Value.bool false:=λx ad=>by obtain⟨y,aE,ad⟩:=hc.1 ad;have:=Qb aE;subst this;simpa[aR.cells,ch]using ad
 rw[ai _ (bJ ab)];have bd:∀ j,j<3->ch.cells[j]! = Value.bool false:=λj ak=>by
  match j,ak with
  |0,_=>rfl| 1,_=>rfl| 2,_=>rfl
 simp only[rowOf,gg,wO];exact bd _ (Nat.mod_lt _ (by decide))
def wW{aZ:List aR}{n i:Nat}(ms:aZ.length=i)(a4:i<n)(x:aR):Nat.ble (0+i*3+x.cells.length) ((aZ++List.replicate (n-i) ch).flatMap aR.cells).length=true:=by rw[nO,Cv,aR.cH,cm,zQ];omega
def YS(au:t.ok I)(af:right t=true)(hm:I h2=some (jB pl)){bp:List aR}(l3:l5 I M0 la ln bp)(ao:YP pl ln t.ns) :
  Spec Tryz.prog 273 [.map (some h2),.slice la ln lc,t.val] I M0 λv I' M'=>I'=I/\∃ b,v=.slice (some ⟨b,0,none⟩) t.n t.n/\M'=fU b (ev pl bp t.ns [])::M0:=by
 refine b0 [] a3 Tryz.func273 rfl rfl rfl ?_;intro B aw;have ho:=au.n;have hy:=au.ba.cap;refine bc.mk [] M0 _ (.refl _) akZ ?_;rintro v I1 M1 -⟨rfl,rfl,rfl⟩;refine pE.mk t.n t.n rfl rfl (b2 _) (by show 3*t.n<=_;omega) (by omega) ?_;refine bZ.mk λdQ sZ ak1=>?_;refine dx.inv (ι:=Nat×List aR×aQ) (λx=>{ bp:=[(0,.val (.map (some h2))),(1,.val (.slice la ln lc)),(5,.ref 5 0),(7,.ref 7 0),(8,.val (.slice (some ⟨dQ,0,none⟩) t.n t.n)),(9,.val x.2.2.val),(20,.val (.slice t.a t.n t.c)),(21,.val (.int .i64 t.n)),(22,.val (.int .i64 x.1))],cl:=[(5,t.cells),(7,QF)],cP:=I1,da:=fU dQ (x.2.1++List.replicate (t.n-x.1) ch)::(x.2.2.ar 311++M0) }) (λx=>x.1<=t.n/\x.2.1.length=x.1/\ev pl bp t.ns []=ev pl bp (t.ns.drop x.1) x.2.1/\∃ ks,x.2.2.ok 3 ks) (λx=>t.n-x.1) ?_ ?_
 ·refine⟨(0,[],h3),⟨dj _,rfl,rfl,[],k0 3⟩,?_,mS,.cons rfl (.cons rfl .nil)⟩;have e:rowOf ch.cells (t.n*3)=(List.replicate t.n ch).flatMap aR.cells:=YR t.n;simp only[fU,hX,Ep];rw[<-e];exact .refl
 rintro⟨i,aZ,eh⟩⟨hi,ms,Ey,axd,iF⟩;simp only at hi ms Ey iF;refine a5.mk (λh=>?_) (λh=>?_)
 rotate_left
 ·have c8:i=t.n:=by have:¬ (i:Int)<(t.n:Int):=dP h;omega
  subst c8;rw[mr (by omega),ev]at Ey;refine⟨I1,fU dQ (aZ++List.replicate (t.n-t.n) ch)::M0,.sub (.cons_cons _ (mT _ _)) .refl,rfl,dQ,rfl,?_⟩;rw[Ey,mD,List.replicate_zero,dD]
 have a4:i<t.n:=by have:(i:Int)<(t.n:Int):=c5 h;omega
 have cJ:i<t.ns.length:=by omega
 obtain⟨aP,bI,bt⟩:=au.ba.row al.cH a4 cJ;have hb:=bJ cJ;have ah:=au.ns _ hb;have fh:=ah.az;have p0:=ah.ba.cap;have hZ:=ly af i cJ;have tX:=Eb af cJ;have YT:=ao _ hb;have YU:ev pl bp t.ns []=ev pl bp (t.ns.drop (i+1)) (aZ++[gD t.ns[i] (sY pl bp aZ t.ns[i])]):=by rw[Ey,fi cJ,ev]
 generalize t.ns[i]=d at bt ah fh p0 hZ tX YT YU;have lv:=ah.k.1;have axe:=QH tX;have wX:∀ {M:List aF} {q:Int},fU dQ (aZ++List.replicate (t.n-i) ch)∈M->q∈d.aq->cY I1 M ((⟨dQ,0,none⟩:Addr).add (q.toNat*3)) 3 (aZ.getD q.toNat ch).cells:=fun {M q} bb aM=>by
  have wY:=hZ q aM;have hA:q.toNat<aZ.length:=by omega
  have:=Ew (I:=I1) bb (j:=q.toNat) (by rw[cm];omega);rw[yo hA]at this;simpa[bM,hA]using this
 refine bA.mk aP i bI rfl a4 ?_;refine aV.mk _ (bt _) ?_;refine lf.mk 0 0 rfl rfl (b2 _) (dj _) ?_;refine dx.inv (ι:=Nat×aQ×List aR) (λx=>{ bp:=[(0,.val (.map (some h2))),(1,.val (.slice la ln lc)),(5,.ref 5 0),(7,.ref 7 0),(8,.val (.slice (some ⟨dQ,0,none⟩) t.n t.n)),(9,.val x.2.1.val),(10,.val (.int .i64 i)),(11,.ref 11 0),(20,.val (.slice t.a t.n t.c)),(21,.val (.int .i64 t.n)),(22,.val (.int .i64 i)),(30,.val (.slice d.cf d.az d.cx)),(31,.val (.int .i64 d.az)),(32,.val (.int .i64 x.1))],cl:=[(5,t.cells),(7,QF),(11,d.cells)],cP:=I1,da:=fU dQ (aZ++List.replicate (t.n-i) ch)::(x.2.1.ar 311++M0) }) (λx=>x.1<=d.az/\x.2.1.ok 3 (x.2.2.flatMap aR.cells)/\x.2.2=(d.aq.take x.1).map λk=>aZ.getD k.toNat ch) (λx=>d.az-x.1) ?_ ?_
 ·exact⟨(0,⟨eh.a,0,eh.c,eh.aU⟩,[]),⟨dj _,aQ.zero iF,rfl⟩,.refl,GP,.cons rfl (.cons rfl (.cons rfl .nil))⟩
 rintro⟨k,cR,fz⟩⟨ae,e1,cW⟩;simp only at ae e1 cW;have axf:cR.n=fz.length:=by have:=e1.len;rw[Cv]at this;omega
 have Ez:fz.length<=k:=by rw[cW,bE];exact D9 _ _
 refine a5.mk (λh=>?_) (λh=>?_)
 ·have e0:k<d.az:=by have:(k:Int)<(d.az:Int):=c5 h;omega
  have jc:k<d.aq.length:=by omega
  obtain⟨gv,fm,fe⟩:=ah.ba.one e0 jc;have aM:=hZ _ (bJ jc);refine bA.mk gv k fm rfl e0 ?_;refine aV.mk _ (fe _) ?_;refine bA.mk ⟨dQ,0,none⟩ d.aq[k].toNat rfl (by omega) (by omega) ?_;refine aV.mk _ (wX (.head _) (bJ jc)) ?_;refine bZ.mk λb9 m8 Ce=>?_;refine bF.append a3 rfl (by simp) (e:=311) rfl rfl rfl cR e1 rfl (m:=1) rfl (b3:=(aZ.getD d.aq[k].toNat ch).cells) (by decide) (dq (b:=b9) (cs:=(aZ.getD d.aq[k].toNat ch).cells) (k:=0) (n:=3) (T:=311) (.head _) (bK rfl)) rfl (Mr:=⟨b9,.cells (aZ.getD d.aq[k].toNat ch).cells.toArray 311 (0,0)⟩::fU dQ (aZ++List.replicate (t.n-i) ch)::M0) (by
   have:=yn [(⟨b9,.cells (aZ.getD d.aq[k].toNat ch).cells.toArray 311 (0,0)⟩:aF),fU dQ (aZ++List.replicate (t.n-i) ch)] (cR.ar 311) M0;exact this) (by simp only[maxLen];omega) (by show(cR.n+1)*3<=_;omega) ?_
  intro bg fB Cw hd o1 qR Ac;refine be.mk _ (dc (i:=k) (by omega)) ?_;refine⟨(k+1,⟨some bg,cR.n+1,fB,Cw⟩,fz++[aZ.getD d.aq[k].toNat ch]),⟨⟨by simp only;omega,?_,?_⟩,by simp only;omega⟩,.sub (M1:=[(⟨bg,.cells Cw.toArray 311 (0,0)⟩:aF),fU dQ (aZ++List.replicate (t.n-i) ch)]++M0) (.cons_cons _ (.cons _ (.refl _))) (.perm (List.Perm.swap _ _ _) .refl),GP,.cons rfl (.cons rfl (.cons rfl .nil))⟩;·simp only;rw[YN];exact Yx e1 (aR.cH _) hd o1 qR Ac
  ·simp only;rw[gH jc,cS,<-cW];rfl
 have c8:d.az<=k:=by have:¬ (k:Int)<(d.az:Int):=dP h;omega
 rw[fS (by omega)]at cW;have axg:fz.length=d.aq.length:=by rw[cW,bE]
 have iC:cR.n+1<=140737488355328:=by omega
 clear h ae Ez;have g1:∀ x:aR,cq ((aZ++List.replicate (t.n-i) ch).flatMap aR.cells) (0+i*3) x.cells=((aZ++[x])++List.replicate (t.n-(i+1)) ch).flatMap aR.cells:=λx=>by rw[dp,QG _ _ (by simp;omega),ak0 aZ t.n i ms a4]
 have hinv:∀ (o3:aQ) (wZ:List Value),o3.ok 3 wZ->((i+1<=t.n/\(aZ++[gD d (sY pl bp aZ d)]).length=i+1/\ev pl bp t.ns []=ev pl bp (t.ns.drop (i+1)) (aZ++[gD d (sY pl bp aZ d)])/\∃ ks,o3.ok 3 ks)/\t.n-(i+1)<t.n-i):=λo3 wZ ab=>
  ⟨⟨a4,by simp[ms],YU,wZ,ab⟩,by omega⟩
 by_cases ai:d.k=3
 ·refine a5.mk (λ_=>?_) (λh=>absurd h (by simp[ai]));obtain⟨q,H0,tY⟩:=YT ai;have H2:sY pl bp aZ d=fz++[bp.getD q ch]:=by rw[sY,<-cW,H0,ai];rfl
  have hA:q<bp.length:=by rw[l3.n];exact tY
  obtain⟨iT,Ek,eJ⟩:=l3.rd q hA;have ak2:bp.getD q ch=bp[q]:=by simp[bM,hA]
  refine bF.akX a3 rfl (by simp) rfl rfl rfl rfl (λw=>HK w) (l:=pl) (g:=h2) rfl rfl (.inl hm) ?_;rw[H0];refine bA.mk iT q Ek rfl tY ?_;refine aV.mk _ (eJ.sub λx ad=>by simp[ad]) ?_;refine bZ.mk λb9 m8 Ce=>?_;refine bF.append a3 rfl (by simp) (e:=311) rfl rfl rfl cR e1 rfl (m:=1) rfl (b3:=bp[q].cells) (by decide) (dq (b:=b9) (cs:=bp[q].cells) (k:=0) (n:=3) (T:=311) (.head _) (bK rfl)) rfl (Mr:=⟨b9,.cells bp[q].cells.toArray 311 (0,0)⟩::fU dQ (aZ++List.replicate (t.n-i) ch)::M0) (by
   have:=yn [(⟨b9,.cells bp[q].cells.toArray 311 (0,0)⟩:aF),fU dQ (aZ++List.replicate (t.n-i) ch)] (cR.ar 311) M0;exact this) (by simp only[maxLen];omega) (by show(cR.n+1)*3<=_;omega) ?_
  intro bg fB Cw hd o1 qR Ac;have ji:=Yx (g:=bg) e1 (aR.cH bp[q]) hd o1 qR Ac;rw[<-YN,<-ak2,<-H2]at ji;have eL:=aQ.YO (I:=I1) (M:=⟨bg,.cells Cw.toArray 311 (0,0)⟩::⟨b9,.cells bp[q].cells.toArray 311 (0,0)⟩::fU dQ (aZ++List.replicate (t.n-i) ch)::M0) (e:=311) ji (λx ad=>by
   simp only[aQ.ar,eC]at ad;subst ad;exact .head _)
  refine c2.draw a3 rfl rfl rfl ?_;obtain⟨dN,cz,s1,s2,cV,g2,lo,cG,tZ,t',ua,ub⟩:=d;simp only at ai;subst ai;refine cA.mk 3 rfl (by decide) ?_;refine eH.oJ _ [] _ perm_nil (wV (d:=⟨3,cz,s1,s2,cV,g2,lo,cG,tZ,t',ua,ub⟩) eL iC 3 (by decide) rfl (λ_=>Nat.succ_pos _)) (λv I' M' h x ad=>by rw[h.2.2];exact ad) ?_;rintro v eE dy -⟨rfl,rfl,rfl⟩;rw[dD];refine bA.mk ⟨dQ,0,none⟩ i rfl rfl a4 ?_;refine cd.iP [(⟨bg,.cells Cw.toArray 311 (0,0)⟩:aF),⟨b9,.cells bp[q].cells.toArray 311 (0,0)⟩] M0 ((aZ++List.replicate (t.n-i) ch).flatMap aR.cells) _ rfl (wW ms a4 _) rfl _ (g1 _) ?_;refine be.mk _ (dc (i:=i) (by omega)) ?_;exact⟨(i+1,_,⟨some bg,cR.n+1,fB,Cw⟩),hinv _ _ ji,.sub (M1:=[(⟨bg,.cells Cw.toArray 311 (0,0)⟩:aF),fU dQ _]++M0) (.cons_cons _ (.cons _ (.refl _))) (.perm (List.Perm.swap _ _ _) .refl),mS,.cons rfl (.cons rfl .nil)⟩
 refine a5.mk (λh=>absurd (c5 h) ai) (λ_=>?_);have H2:sY pl bp aZ d=fz:=by rw[sY,<-cW,fo ai];simp
 rw[H2]at hinv;have eL:=aQ.YO (I:=I1) (M:=fU dQ (aZ++List.replicate (t.n-i) ch)::(cR.ar 311++M0)) (e:=311) e1 (λx ad=>by simp[ad]);have mo:6<=d.k->0<cR.n:=λb'=>by have:=YQ lv tX b';omega
 have Ex:d.k=0\/d.k=1\/d.k=2\/d.k=4\/d.k=5\/d.k=6\/d.k=7\/d.k=8\/d.k=9:=by omega
 obtain⟨dN,cz,s1,s2,cV,g2,lo,cG,tZ,t',ua,ub⟩:=d;simp only at Ex mo ai;refine c2.draw a3 rfl rfl rfl ?_;rcases Ex with rfl | rfl | rfl | rfl | rfl | rfl | rfl | rfl | rfl
 ·refine cA.mk 0 rfl (by decide) ?_;refine eH.oJ _ [] _ perm_nil (wV (d:=⟨0,cz,s1,s2,cV,g2,lo,cG,tZ,t',ua,ub⟩) eL (yr iC) 0 (by decide) rfl (λh=>by omega)) (λv I' M' h x ad=>by rw[h.2.2];exact ad) ?_;rintro v eE dy -⟨rfl,rfl,rfl⟩;rw[dD];refine bA.mk ⟨dQ,0,none⟩ i rfl rfl a4 ?_;refine cd.iP [] (cR.ar 311++M0) ((aZ++List.replicate (t.n-i) ch).flatMap aR.cells) _ rfl (wW ms a4 _) rfl _ (g1 _) ?_;refine be.mk _ (dc (i:=i) (by omega)) ?_;exact⟨(i+1,_,cR),hinv _ _ e1,.refl,mS,.cons rfl (.cons rfl .nil)⟩
 ·refine cA.mk 1 rfl (by decide) ?_;refine eH.oJ _ [] _ perm_nil (wV (d:=⟨1,cz,s1,s2,cV,g2,lo,cG,tZ,t',ua,ub⟩) eL (yr iC) 1 (by decide) rfl (λh=>by omega)) (λv I' M' h x ad=>by rw[h.2.2];exact ad) ?_;rintro v eE dy -⟨rfl,rfl,rfl⟩;rw[dD];refine bA.mk ⟨dQ,0,none⟩ i rfl rfl a4 ?_;refine cd.iP [] (cR.ar 311++M0) ((aZ++List.replicate (t.n-i) ch).flatMap aR.cells) _ rfl (wW ms a4 _) rfl _ (g1 _) ?_;refine be.mk _ (dc (i:=i) (by omega)) ?_;exact⟨(i+1,_,cR),hinv _ _ e1,.refl,mS,.cons rfl (.cons rfl .nil)⟩
 ·refine cA.mk 2 rfl (by decide) ?_;refine eH.oJ _ [] _ perm_nil (wV (d:=⟨2,cz,s1,s2,cV,g2,lo,cG,tZ,t',ua,ub⟩) eL (yr iC) 2 (by decide) rfl (λh=>by omega)) (λv I' M' h x ad=>by rw[h.2.2];exact ad) ?_;rintro v eE dy -⟨rfl,rfl,rfl⟩;rw[dD];refine bA.mk ⟨dQ,0,none⟩ i rfl rfl a4 ?_;refine cd.iP [] (cR.ar 311++M0) ((aZ++List.replicate (t.n-i) ch).flatMap aR.cells) _ rfl (wW ms a4 _) rfl _ (g1 _) ?_;refine be.mk _ (dc (i:=i) (by omega)) ?_;exact⟨(i+1,_,cR),hinv _ _ e1,.refl,mS,.cons rfl (.cons rfl .nil)⟩
 ·refine cA.mk 4 rfl (by decide) ?_;refine eH.oJ _ [] _ perm_nil (wV (d:=⟨4,cz,s1,s2,cV,g2,lo,cG,tZ,t',ua,ub⟩) eL (yr iC) 4 (by decide) rfl (λh=>by omega)) (λv I' M' h x ad=>by rw[h.2.2];exact ad) ?_;rintro v eE dy -⟨rfl,rfl,rfl⟩;rw[dD];refine bA.mk ⟨dQ,0,none⟩ i rfl rfl a4 ?_;refine cd.iP [] (cR.ar 311++M0) ((aZ++List.replicate (t.n-i) ch).flatMap aR.cells) _ rfl (wW ms a4 _) rfl _ (g1 _) ?_;refine be.mk _ (dc (i:=i) (by omega)) ?_;exact⟨(i+1,_,cR),hinv _ _ e1,.refl,mS,.cons rfl (.cons rfl .nil)⟩
 ·refine cA.mk 5 rfl (by decide) ?_;refine eH.oJ _ [] _ perm_nil (wV (d:=⟨5,cz,s1,s2,cV,g2,lo,cG,tZ,t',ua,ub⟩) eL (yr iC) 5 (by decide) rfl (λh=>by omega)) (λv I' M' h x ad=>by rw[h.2.2];exact ad) ?_;rintro v eE dy -⟨rfl,rfl,rfl⟩;rw[dD];refine bA.mk ⟨dQ,0,none⟩ i rfl rfl a4 ?_;refine cd.iP [] (cR.ar 311++M0) ((aZ++List.replicate (t.n-i) ch).flatMap aR.cells) _ rfl (wW ms a4 _) rfl _ (g1 _) ?_;refine be.mk _ (dc (i:=i) (by omega)) ?_;exact⟨(i+1,_,cR),hinv _ _ e1,.refl,mS,.cons rfl (.cons rfl .nil)⟩
 ·refine cA.mk 6 rfl (by decide) ?_;refine eH.oJ _ [] _ perm_nil (wV (d:=⟨6,cz,s1,s2,cV,g2,lo,cG,tZ,t',ua,ub⟩) eL (yr iC) 6 (by decide) rfl (λ_=>mo (by decide))) (λv I' M' h x ad=>by rw[h.2.2];exact ad) ?_;rintro v eE dy -⟨rfl,rfl,rfl⟩;rw[dD];refine bA.mk ⟨dQ,0,none⟩ i rfl rfl a4 ?_;refine cd.iP [] (cR.ar 311++M0) ((aZ++List.replicate (t.n-i) ch).flatMap aR.cells) _ rfl (wW ms a4 _) rfl _ (g1 _) ?_;refine be.mk _ (dc (i:=i) (by omega)) ?_;exact⟨(i+1,_,cR),hinv _ _ e1,.refl,mS,.cons rfl (.cons rfl .nil)⟩
 ·refine cA.mk 7 rfl (by decide) ?_;refine eH.oJ _ [] _ perm_nil (wV (d:=⟨7,cz,s1,s2,cV,g2,lo,cG,tZ,t',ua,ub⟩) eL (yr iC) 7 (by decide) rfl (λ_=>mo (by decide))) (λv I' M' h x ad=>by rw[h.2.2];exact ad) ?_;rintro v eE dy -⟨rfl,rfl,rfl⟩;rw[dD];refine bA.mk ⟨dQ,0,none⟩ i rfl rfl a4 ?_;refine cd.iP [] (cR.ar 311++M0) ((aZ++List.replicate (t.n-i) ch).flatMap aR.cells) _ rfl (wW ms a4 _) rfl _ (g1 _) ?_;refine be.mk _ (dc (i:=i) (by omega)) ?_;exact⟨(i+1,_,cR),hinv _ _ e1,.refl,mS,.cons rfl (.cons rfl .nil)⟩
 ·refine cA.mk 8 rfl (by decide) ?_;refine eH.oJ _ [] _ perm_nil (wV (d:=⟨8,cz,s1,s2,cV,g2,lo,cG,tZ,t',ua,ub⟩) eL (yr iC) 8 (by decide) rfl (λ_=>mo (by decide))) (λv I' M' h x ad=>by rw[h.2.2];exact ad) ?_;rintro v eE dy -⟨rfl,rfl,rfl⟩;rw[dD];refine bA.mk ⟨dQ,0,none⟩ i rfl rfl a4 ?_;refine cd.iP [] (cR.ar 311++M0) ((aZ++List.replicate (t.n-i) ch).flatMap aR.cells) _ rfl (wW ms a4 _) rfl _ (g1 _) ?_;refine be.mk _ (dc (i:=i) (by omega)) ?_;exact⟨(i+1,_,cR),hinv _ _ e1,.refl,mS,.cons rfl (.cons rfl .nil)⟩
 ·refine cA.mk 9 rfl (by decide) ?_;refine eH.oJ _ [] _ perm_nil (wV (d:=⟨9,cz,s1,s2,cV,g2,lo,cG,tZ,t',ua,ub⟩) eL (yr iC) 9 (by decide) rfl (λ_=>mo (by decide))) (λv I' M' h x ad=>by rw[h.2.2];exact ad) ?_;rintro v eE dy -⟨rfl,rfl,rfl⟩;rw[dD];refine bA.mk ⟨dQ,0,none⟩ i rfl rfl a4 ?_;refine cd.iP [] (cR.ar 311++M0) ((aZ++List.replicate (t.n-i) ch).flatMap aR.cells) _ rfl (wW ms a4 _) rfl _ (g1 _) ?_;refine be.mk _ (dc (i:=i) (by omega)) ?_;exact⟨(i+1,_,cR),hinv _ _ e1,.refl,mS,.cons rfl (.cons rfl .nil)⟩
structure aR.le(a b:aR):Prop where
 z:a.z=true->b.z=true
 s:a.s=true->b.s=true
 f:a.f=true->b.f=true
def aR.le_refl(a:aR):a.le a:=⟨id,id,id⟩
def aR.le.trans{a b c:aR}(h:a.le b)(bj:b.le c):a.le c:=⟨λx=>bj.z (h.z x),λx=>bj.s (h.s x),λx=>bj.f (h.f x)⟩
def aR.le.antisymm{a b:aR}(h:a.le b)(bj:b.le a):a=b:=by
 obtain⟨cN,ej,ek⟩:=a;obtain⟨b1,bW,dA⟩:=b;have e:∀ {x y:Bool},(x=true->y=true)->(y=true->x=true)->x=y:=fun {x y} h bj=>by cases x<;>cases y<;>simp_all
 have aK:cN=b1:=e h.z bj.z;have a7:ej=bW:=e h.s bj.s;have ck:ek=dA:=e h.f bj.f;subst aK a7 ck;rfl
def aR.nP(a:aR):ch.le a:=⟨(λh=>by cases h),(λh=>by cases h),(λh=>by cases h)⟩
def aR.QI{a b:aR}(h:a.le b):a.hO=true->b.hO=true:=by intro av;simp only[aR.hO,kq]at av |-;exact av.imp h.z h.s
inductive dX:List aR->List aR->Prop
 |nil:dX [] []| cons {a b l m} (h:aR.le a b) (t:dX l m):dX (a::l) (b::m)
def dX.refl:∀ l,dX l l
 |[]=>.nil| a::l=>.cons a.le_refl (dX.refl l)
def dX.trans:∀ {a b c},dX a b->dX b c->dX a c
 |_,_,_,.nil,.nil=>.nil| _,_,_,.cons h t,.cons bj bf=>.cons (h.trans bj) (t.trans bf)
def dX.antisymm:∀ {a b},dX a b->dX b a->a=b
 |_,_,.nil,_=>rfl| _,_,.cons h t,.cons bj bf=>by rw[h.antisymm bj,t.antisymm bf]
def dX.len:∀ {a b},dX a b->a.length=b.length
 |_,_,.nil=>rfl| _,_,.cons h t=>by simp[t.len]
def dX.append:∀ {a b c d},dX a b->dX c d->dX (a++c) (b++d)
 |_,_,_,_,.nil,h=>h| _,_,_,_,.cons h t,bj=>.cons h (t.append bj)
def dX.getD:∀ {a b},dX a b->∀ i,(a.getD i ch).le (b.getD i ch)
 |_,_,.nil,i=>by simp;exact aR.le_refl _
 |_,_,.cons h t,0=>h| _,_,.cons h t,i+1=>by simpa using t.getD i
def dX.of:∀ {a b:List aR},a.length=b.length->(∀ i,i<a.length->(a.getD i ch).le (b.getD i ch))->dX a b
 |[],[],_,_=>.nil| x::a,y::b,aA,h=>.cons (by simpa using h 0 (by simp)) (dX.of (by simpa using aA) λi hi=>by simpa using h (i+1) (by simpa using hi))
def dX.map{α:Type}{f g:α->aR}:∀ {l:List α},(∀ x∈l,(f x).le (g x))->dX (l.map f) (l.map g)
 |[],_=>.nil| x::l,h=>.cons (h x (.head _)) (dX.map λy aE=>h y (.tail _ aE))
def dX.head{a b:List aR}(h:dX a b):(a.headD ch).le (b.headD ch):=by
 cases h with
 |nil=>exact aR.le_refl _| cons h _=>exact h
def dX.nP:∀ l:List aR,dX (List.replicate l.length ch) l
 |[]=>.nil| a::l=>.cons a.nP (dX.nP l)
def YV:∀ {a b:List aR},dX a b->∀ {x y:aR×Bool},x.1.le y.1->(x.2=true->y.2=true)->(a.foldl kd x).1.le (b.foldl kd y).1/\((a.foldl kd x).2=true->(b.foldl kd y).2=true)
 |_,_,.nil,_,_,aa,ab=>⟨aa,ab⟩
 |_,_,.cons h t,x,y,aa,ab=>by
  refine YV t ⟨?_,?_,?_⟩ ?_;·simp only[kd,cw];exact λg=>⟨aa.z g.1,h.z g.2⟩
  ·simp only[kd,kq];exact λg=>g.imp aa.s h.s
  ·simp only[kd,kq,cw];exact λg=>g.imp aa.f λg=>⟨ab g.1,h.f g.2⟩
  ·simp only[kd,cw];exact λg=>⟨ab g.1,aR.QI h g.2⟩
def YW:∀ {a b:List aR},dX a b->∀ {x y:aR},x.le y->(a.foldl o2 x).le (b.foldl o2 y)
 |_,_,.nil,_,_,aa=>aa
 |_,_,.cons h t,x,y,aa=>by
  refine YW t ⟨?_,?_,?_⟩;·simp only[o2,kq,cw];exact λg=>g.imp aa.z λg=>⟨aa.f g.1,h.z g.2⟩
  ·simp only[o2,kq,cw];exact λg=>g.imp aa.s λg=>⟨aa.f g.1,h.s g.2⟩
  ·simp only[o2,cw];exact λg=>⟨aa.f g.1,h.f g.2⟩
def ak3(d:al){a b:aR}(h:a.le b):(yB d a).le (yB d b):=by
 unfold yB;cases decide (d.hi=0)with
 |true=>exact aR.le_refl _
 |false=>
  refine⟨?_,h.s,?_⟩;·simp only[cb,kq,cw];exact λg=>g.imp h.z λg=>⟨g.1,h.f g.2⟩
  ·simp only[cb,cw];exact λg=>⟨g.1,h.f g.2⟩
def YX(d:al){a b:List aR}(h:dX a b):(gD d a).le (gD d b):=by
 have c4:=h.head;unfold gD;cases decide (d.k=0)with
 |true=>exact aR.le_refl _| false=>
 cases decide (d.k=1)with
 |true=>exact aR.le_refl _| false=>
 cases decide (d.k=2)with
 |true=>exact aR.le_refl _| false=>
 cases decide (d.k=3)with
 |true=>exact c4| false=>
 cases decide (d.k=4)with
 |true=>have av:=YV h (x:=(⟨true,false,false⟩,true)) (y:=(⟨true,false,false⟩,true)) (aR.le_refl _) id;refine⟨av.1.z,?_,av.1.f⟩;simp only[cp,cb,hB,hP,cw];exact λg=>⟨av.1.s g.1,av.2 g.2⟩
 |false=>
 cases decide (d.k=5)with
 |true=>exact YW h (aR.le_refl _)| false=>
 cases decide (d.k=6)with
 |true=>exact ak3 d c4| false=>
 cases decide (d.k=7)with
 |true=>exact⟨aR.QI c4,id,c4.f⟩| false=>
 cases decide (d.k=8)with
 |true=>exact⟨c4.f,id,aR.QI c4⟩| false=>exact c4
def ak4{bp Af aZ EA:List aR}(h:dX bp Af)(a6:dX aZ EA)(d:al):dX (sY pl bp aZ d) (sY pl Af EA d):=by
 unfold sY;refine(dX.map λk _=>a6.getD _).append ?_;cases decide (d.k=3)with
 |true=>exact .cons (h.getD _) .nil| false=>exact .nil
def YY{pl:List (ByteArray×Int)}{bp Af:List aR}(h:dX bp Af):∀ (ds:List al) {aZ EA:List aR},dX aZ EA->dX (ev pl bp ds aZ) (ev pl Af ds EA)
 |[],_,_,a6=>a6| d::ds,_,_,a6=>YY h ds (a6.append (.cons (YX d (ak4 h a6 d)) .nil))
def iU(pl:List (ByteArray×Int))(bp:List aR)(d:a0):aR:=(ev pl bp d.t.ns []).getD d.t.br.toNat ch
def H3{bp Af:List aR}(h:dX bp Af)(d:a0):(iU pl bp d).le (iU pl Af d):=(YY h d.t.ns .nil).getD _
def nQ(pl:List (ByteArray×Int)):Nat->List a0->List aR->List aR
 |_,[],l=>l| i,d::ds,l=>nQ pl (i+1) ds (l.set i (iU pl l d))
structure o4(ds:List a0)(l:List aR):Prop where
 len:l.length=ds.length
 up:∀ i (h:i<ds.length),(l.getD i ch).le (iU (bL ds) l ds[i])
 least:∀ m:List aR,m.length=ds.length->(∀ i (h:i<ds.length),(iU (bL ds) m ds[i]).le (m.getD i ch))->dX l m
def H4(l:List aR)(i j:Nat)(x:aR)(hi:i<l.length):(l.set i x).getD j ch=if i=j then x else l.getD j ch:=by
 simp only[bM,iv];by_cases e:i=j
 ·subst e;simp[hi]
 ·rw[bP e,bP e]
def o4.start(ds:List a0):o4 ds (List.replicate ds.length ch):=by
 refine⟨by simp,λi h=>?_,λm hm _=>by rw[<-hm];exact dX.nP m⟩;have:(List.replicate ds.length ch).getD i ch=ch:=by simp[bM,h]
 rw[this];exact aR.nP _
def o4.step{ds:List a0}{l:List aR}(h:o4 ds l){i:Nat}(hi:i<ds.length):o4 ds (l.set i (iU (bL ds) l ds[i]))/\dX l (l.set i (iU (bL ds) l ds[i])):=by
 have ed:i<l.length:=by rw[h.len];exact hi
 have bk:dX l (l.set i (iU (bL ds) l ds[i])):=dX.of (by simp) λj ak=>by
  rw[H4 _ _ _ _ ed];by_cases e:i=j;·subst e;rw[bT rfl];exact h.up i hi
  ·rw[bP e];exact aR.le_refl _
 refine⟨⟨by simpa using h.len,λj ak=>?_,λm hm ao=>?_⟩,bk⟩
 ·rw[H4 _ _ _ _ ed];by_cases e:i=j
  ·subst e;rw[bT rfl];exact H3 bk _
  ·rw[bP e];exact(h.up j ak).trans (H3 bk _)
 ·have H5:=h.least m hm ao;refine dX.of (by simp[h.len,hm]) λj ak=>?_;rw[H4 _ _ _ _ ed];by_cases e:i=j
  ·subst e;rw[bT rfl];exact(H3 H5 _).trans (ao i hi)
  ·rw[bP e];exact H5.getD j
def QJ{ds:List a0}:∀ (bo a9:List a0) {l:List aR},ds=a9++bo->o4 ds l->o4 ds (nQ (bL ds) a9.length bo l)/\dX l (nQ (bL ds) a9.length bo l) /\ (nQ (bL ds) a9.length bo l=l->∀ i (h:i<ds.length),a9.length<=i->l.getD i ch=iU (bL ds) l ds[i])
 |[],a9,l,fD,h=>⟨h,dX.refl l,λ_ i hi c8=>by rw[fD,dD]at hi;omega⟩
 |d::bo,a9,l,fD,h=>by
  have hi:a9.length<ds.length:=by rw[fD];simp
  have ah:ds[a9.length]=d:=by simp[fD]
  have ed:a9.length<l.length:=by rw[h.len];exact hi
  obtain⟨s1,s2⟩:=h.step hi;rw[ah]at s1 s2;obtain⟨hd,o1,qR⟩:=QJ bo (a9++[d]) (by rw[fD];simp) s1;rw[cm,eo,g3,dp]at hd o1 qR;refine⟨hd,s2.trans o1,λe i hW c8=>?_⟩;have aK:l.set a9.length (iU (bL ds) l d)=l:=by refine dX.antisymm ?_ s2;have:nQ (bL ds) a9.length (d::bo) l=nQ (bL ds) (a9.length+1) bo (l.set a9.length (iU (bL ds) l d)):=rfl;rw[this]at e;rw[e]at o1;exact o1
  have a7:nQ (bL ds) (a9.length+1) bo l=l:=by have:nQ (bL ds) a9.length (d::bo) l=nQ (bL ds) (a9.length+1) bo (l.set a9.length (iU (bL ds) l d)):=rfl;rw[this,aK]at e;exact e
  rw[aK]at qR;by_cases aH:i=a9.length;·subst aH;have aL:=H4 l a9.length a9.length (iU (bL ds) l d) ed;rw[aK,bT rfl]at aL;rw[aL,ah]
  ·exact qR a7 i hW (by omega)
structure hp(ds:List a0)(l:List aR):Prop where
 len:l.length=ds.length
 fix:∀ i (h:i<ds.length),l.getD i ch=iU (bL ds) l ds[i]
 least:∀ m:List aR,m.length=ds.length->(∀ i (h:i<ds.length),(iU (bL ds) m ds[i]).le (m.getD i ch))->dX l m
def o4.done{ds:List a0}{l:List aR}(h:o4 ds l)(aB:nQ (bL ds) 0 ds l=l):hp ds l:=
 ⟨h.len,λi hi=>(QJ ds [] rfl h).2.2 aB i hi (dj _),h.least⟩
def hp.unique{ds:List a0}{l dC:List aR}(h:hp ds l)(bj:hp ds dC):l=dC:=
 dX.antisymm (h.least dC bj.len λi hi=>by rw[<-bj.fix i hi];exact aR.le_refl _) (bj.least l h.len λi hi=>by rw[<-h.fix i hi];exact aR.le_refl _)
def EB(x:aR):Nat:=(bif x.z then 0 else 1)+((bif x.s then 0 else 1)+(bif x.f then 0 else 1))
def Ag(l:List aR):Nat:=(l.map EB).sum
def ak5{a b:aR}(h:a.le b):EB b<=EB a/\(EB a<=EB b->a=b):=by
 obtain⟨cN,ej,ek⟩:=a;obtain⟨b1,bW,dA⟩:=b;obtain⟨aa,ab,ai⟩:=h;cases cN<;>cases b1<;>cases ej<;>cases bW<;>cases ek<;>cases dA<;>simp_all[EB]
def YZ:∀ {l m:List aR},dX l m->Ag m<=Ag l/\(Ag l<=Ag m->l=m)
 |_,_,.nil=>⟨b2 _,λ_=>rfl⟩| _,_,.cons h t=>by obtain⟨aa,ab⟩:=ak5 h;obtain⟨t1,t2⟩:=YZ t;simp only[Ag,ca,hz]at t1 t2 |-;refine⟨by omega,λh=>?_⟩;rw[ab (by omega),t2 (by omega)]
def ak6{l m:List aR}(h:dX l m)(bD:m≠l):Ag m<Ag l:=by obtain⟨aa,ab⟩:=YZ h;apply Nat.lt_of_le_of_ne aa;intro e;exact bD (ab (by omega)).symm
def yC(nm:ByteArray):List a0->Nat->Option Int
 |[],_=>none| d::ds,i=>bif decide (nm=d.name)then some (i:Int)else yC nm ds (i+1)
def Y0(s n:ByteArray)(v:Int):∀ l:List (ByteArray×Int),eQ s (l++[(n,v)])=match eQ s l with
  |some x=>some x| none=>bif decide (s=n)then some v else none
 |[]=>rfl
 |p::l=>by
  have aN:=Y0 s n v l;simp only[pN,eQ];cases decide (s=p.1)with
  |true=>rfl| false=>simpa using aN
def Y1:∀ (ds:List a0) (aZ:List (ByteArray×Int)) (i:Nat) (nm:ByteArray),eQ nm (oa aZ i ds)=match eQ nm aZ with
  |some x=>some x| none=>yC nm ds i
 |[],aZ,i,nm=>by rw[oa,yC];cases eQ nm aZ<;>rfl
 |d::ds,aZ,i,nm=>by
  rw[oa,Y1 ds,yC];cases ah:(eQ d.name aZ).isSome with
  |true=>
   simp only[cp];cases aA:eQ nm aZ with
   |some x=>rfl
   |none=>
    have:decide (nm=d.name)=false:=by rw[sE];intro e;rw[<-e,aA]at ah;cases ah
    rw[this];rfl
  |false=>
   simp only[cb,Y0];cases aA:eQ nm aZ with
   |some x=>rfl| none=>cases decide (nm=d.name)<;>rfl
def QK(ds:List a0)(nm:ByteArray):eQ nm (bL ds)=yC nm ds 0:=Y1 ds [] 0 nm
def QL:∀ {ds:List a0} {i:Nat} {nm:ByteArray} {v:Int},yC nm ds i=some v->∃ j:Nat,v=((i+j:Nat):Int)/\j<ds.length
 |d::ds,i,nm,v,h=>by
  unfold yC at h;cases ah:decide (nm=d.name)with
  |true=>rw[ah]at h;simp only[cp,kJ]at h;exact⟨0,by rw[<-h];rfl,by simp⟩| false=>rw[ah]at h;obtain⟨j,aa,ab⟩:=QL h;exact⟨j+1,by rw[aa];congr 1;omega,by simpa using ab⟩
def vp(pl:List (ByteArray×Int))(ns:List al):Bool:=ns.all λd=>!decide (d.k=3)||(eQ d.t pl).isSome
def Y2{ds:List a0}(h:vp (bL ds) ns=true):YP (bL ds) ds.length ns:=by intro d ah ae;have:=fV.1 h d ah;simp only[ae,Lu,wx,uT]at this;obtain⟨v,aj⟩:=Option.isSome_iff_exists.1 this;have j3:=aj;rw[QK]at j3;obtain⟨j,aa,ab⟩:=QL j3;rw[dp]at aa;exact⟨j,by rw[aj,aa],ab⟩
def Y3:∀ (ds:List a0) {aZ r:List (ByteArray×Int)} {i:Nat},l1 aZ i ds=some r->oa aZ i ds=r
 |[],aZ,r,i,h=>by simp only[l1,kJ]at h;exact h
 |d::ds,aZ,r,i,h=>by
  unfold l1 at h;cases ah:(eQ d.name aZ).isSome with
  |true=>rw[ah]at h;cases h| false=>rw[ah]at h;rw[oa,ah];exact Y3 ds h
def ak7{d:a0}{bX:al}(aD:bX∈d.t.ns):∀ (ds:List a0) (i:Nat),d∈ds->∃ j,(j,bX)∈qP i ds:=by
 intro ds
 induction ds with
 |nil=>intro i ah;cases ah
 |cons x ds aN=>
  intro i ah;rcases eA.1 ah with e | ah;·subst e;exact⟨i,cC.2 (.inl (c0.2 ⟨bX,aD,rfl⟩))⟩
  ·obtain⟨j,ak⟩:=aN (i+1) ah;exact⟨j,cC.2 (.inr ak)⟩
def ak8(h:du ay g=0):∀ d∈g.ds,vp (bL g.ds) d.t.ns=true:=by
 unfold du at h;cases aa:decide ((g.n:Int)=0)with
 |true=>rw[aa]at h;cases h| false=>
 cases ab:n' g.ds with
 |false=>rw[aa,ab]at h;cases h| true=>
 cases ai:pX ay g with
 |true=>rw[aa,ab,ai]at h;cases h| false=>
 rw[aa,ab,ai]at h;simp only[cb,wx]at h;split at h
 ·cases h
 ·rename_i aZ ms;have aH:bL g.ds=aZ:=Y3 g.ds ms;cases aL:rX aZ g.ds with
  |false=>rw[aL]at h;cases h| true=>intro d ah;rw[aH,vp,fV];intro bX bV;obtain⟨j,ak⟩:=ak7 bV g.ds 0 ah;exact fV.1 aL _ ak
def ak9(h:du ay g=0):n' g.ds=true:=by
 unfold du at h;cases aa:decide ((g.n:Int)=0)with
 |true=>rw[aa]at h;cases h| false=>
 cases ab:n' g.ds with
 |false=>rw[aa,ab]at h;cases h| true=>rfl
def l5.mono{a:Option Addr}{n:Nat}{ks:List aR}(h:l5 I M a n ks)(bB:∀ b o,I b=some o->I' b=some o):l5 I' M a n ks:=
 ⟨h.n,λj ak=>by
  obtain⟨aP,aa,ab⟩:=h.rd j ak;exact⟨aP,aa,ab.mono bB⟩⟩
def l5.sub{I:aJ}{M M':List aF}{a:Option Addr}{n:Nat}{ks:List aR}(h:l5 I M a n ks)(bb:∀ x∈M,x∈M'):l5 I M' a n ks:=
 ⟨h.n,λj ak=>by
  obtain⟨aP,aa,ab⟩:=h.rd j ak;exact⟨aP,aa,ab.sub bb⟩⟩
def LN{b:Nat}{l:List aR}(bb:fU b l∈M):l5 I M (some ⟨b,0,none⟩) l.length l:=
 ⟨rfl,λj ak=>⟨_,rfl,Ew bb ak⟩⟩
def Ah(g:cg)(bp:List aR)(t:bn):Option (List aR):=bif decide (bp.length=g.n)&&(right t&&vp (bL g.ds) t.ns)then some (ev (bL g.ds) bp t.ns [])else none
def ala(bl:ff I ay)(ax:g.ok I)(au:t.ok I){bp:List aR}(l3:l5 I M0 la ln bp) :
  Spec Tryz.prog 217 [g.val,.slice la ln lc,t.val] I M0 λv I' M'=>(∀ b o,I b=some o->I' b=some o) /\
   ((Ah g bp t=none/\v=.tuple #[.slice none 0 0,.bool false]/\M'=M0)\/∃ r b,Ah g bp t=some r/\v=.tuple #[.slice (some ⟨b,0,none⟩) t.n t.n,.bool true]/\M'=fU b r::M0):=by
 refine b0 [] a3 Tryz.func217 rfl rfl rfl ?_;intro B aw;have hL:=ax.n;have ho:=au.n;have hy:=au.ba.cap;have yD:=l3.n;refine cT.mk (λh=>?_) (λh=>?_)
 rotate_left
 ·refine⟨_,_,.refl,λ_ _ h=>h,.inl ⟨?_,rfl,rfl⟩⟩;have bD:¬ (ln:Int)=(g.n:Int):=by simpa using h
  have:decide (bp.length=g.n)=false:=fo (by omega);simp[Ah,this]
 have s0:ln=g.n:=by
  have:(ln:Int)=(g.n:Int):=by simpa using h
  omega
 have iR:decide (bp.length=g.n)=true:=iQ (by omega);refine bc.mk [] M0 _ (.refl _) (oR bl.c au) ?_;rintro v I1 M1 -⟨rfl,rfl,rfl⟩;refine a5.mk (λh=>?_) (λh=>?_)
 ·refine⟨_,_,.refl,λ_ _ h=>h,.inl ⟨?_,rfl,rfl⟩⟩;have:right t=false:=by simpa using h
  simp[Ah,this]
 have af:right t=true:=by simpa using h
 refine bc.mk [] M0 _ (.refl _) (YM ax) ?_;rintro v eE dy -⟨gx,rfl,h2,rfl,EC⟩;have nM:=au.mono gx;refine dx.inv (ι:=Nat) (λx=>{ bp:=[(1,.val (.slice la ln lc)),(3,.ref 3 0),(5,.ref 5 0),(8,.val (.map (some h2))),(27,.val (.slice t.a t.n t.c)),(28,.val (.int .i64 t.n)),(29,.val (.int .i64 x))],cl:=[(3,[.slice g.a g.n g.c]),(5,t.cells)],cP:=eE,da:=M0 }) (λx=>x<=t.n/\∀ d∈t.ns.take x,(!decide (d.k=3)||(eQ d.t (bL g.ds)).isSome)=true) (λx=>t.n-x) ?_ ?_
 ·exact⟨0,⟨dj _,λd ah=>by simp at ah⟩,.refl,ru,.cons rfl (.cons rfl .nil)⟩
 rintro i⟨hi,mq⟩;refine a5.mk (λh=>?_) (λh=>?_)
 ·have a4:i<t.n:=by have:(i:Int)<(t.n:Int):=c5 h;omega
  have cJ:i<t.ns.length:=by omega
  obtain⟨aP,bI,bt⟩:=nM.ba.row al.cH a4 cJ;have m1:t.ns.take (i+1)=t.ns.take i++[t.ns[i]]:=gH cJ;have gk:=bJ cJ;have next:(!decide (t.ns[i].k=3)||(eQ t.ns[i].t (bL g.ds)).isSome)=true->∀ d∈t.ns.take (i+1),(!decide (d.k=3)||(eQ d.t (bL g.ds)).isSome)=true:=λh d ah=>by
   rw[m1]at ah;rcases cC.1 ah with ah | ah;·exact mq d ah
   ·simp only[eC]at ah;rw[ah];exact h
  refine bA.mk aP i bI rfl a4 ?_;refine aV.mk _ (bt _) ?_;refine a5.mk (λai=>?_) (λai=>?_);·refine be.mk _ (dc (i:=i) (by omega)) ?_;refine⟨i+1,⟨⟨by omega,next ?_⟩,by omega⟩,.refl,ru,.cons rfl (.cons rfl .nil)⟩;rw[show(!decide (t.ns[i].k=3))=true from ai];rfl
  ·refine bF.YL a3 rfl (by simp) rfl rfl rfl rfl (λw=>HK w) (l:=bL g.ds) (g:=h2) rfl rfl (.inl EC) ?_;refine a5.mk (λaL=>?_) (λaL=>?_)
   ·refine⟨_,_,.refl,gx,.inl ⟨?_,rfl,rfl⟩⟩;have bq:vp (bL g.ds) t.ns=false:=by
     rw[vp,K9];refine⟨_,gk,?_⟩;have b':(eQ t.ns[i].t (bL g.ds)).isSome=false:=by simpa using aL
     rw[b',show(!decide (t.ns[i].k=3))=false from ai];simp
    simp[Ah,bq]
   ·refine be.mk _ (dc (i:=i) (by omega)) ?_;refine⟨i+1,⟨⟨by omega,next ?_⟩,by omega⟩,.refl,ru,.cons rfl (.cons rfl .nil)⟩;have b':(eQ t.ns[i].t (bL g.ds)).isSome=true:=by simpa using aL
    rw[b'];simp
 have c8:i=t.n:=by have:¬ (i:Int)<(t.n:Int):=dP h;omega
 rw[fS (by omega)]at mq;have eD:vp (bL g.ds) t.ns=true:=fV.2 mq;have ED:=Y2 eD;rw[hL,<-s0]at ED;refine bc.mk M0 [] _ perm_nil (YS nM af EC (l3.mono gx) ED) ?_;rintro v ls oM -⟨rfl,b,rfl,rfl⟩;rw[dD];exact⟨_,_,.refl,gx,.inr ⟨_,b,by rw[Ah,iR,af,eD];rfl,rfl,rfl⟩⟩
structure w0(g:cg):Prop where
 n:g.ds.length=g.n
 right:∀ d∈g.ds,right d.t=true
 named:∀ d∈g.ds,vp (bL g.ds) d.t.ns=true
def LO(aD:g.ds.length=g.n)(h:du ay g=0):w0 g:=by refine⟨aD,λd ah=>?_,ak8 h⟩;have:=fV.1 (ak9 h) d ah;simp only[normal,cw]at this;exact this.2.1
def ofM(b6 h2 ea gE b1:Nat)(g:cg)(l:List aR):List aF:=[⟨b6,.cells #[.map (some h2)] 155 (0,0)⟩,⟨ea,.cells #[.slice (some ⟨gE,0,none⟩) g.n g.n] 259 (0,0)⟩,fU gE l,⟨b1,.cells #[.slice g.a g.n g.c] 30 (0,0)⟩]
def H6(a b c d:α):[a,b,c,d].Perm ([c]++[a,b,d]):=na (l₁:=[a,b]) (l₂:=[d])
def alb(x a b c d:α):[x,a,b,c,d].Perm ([c]++[x,a,b,d]):=na (l₁:=[x,a,b]) (l₂:=[d])
def LP{b:Nat}{f:aR}(bb:(⟨b,.cells f.cells.toArray 311 (0,0)⟩:aF)∈M):cY I M (⟨b,0,none⟩:Addr) 3 f.cells:=⟨rfl,_,_,_,.inr ⟨_,bb,rfl,rfl⟩,rfl,rfl⟩
def Y4{l:List aR}{i:Nat}(hi:i<l.length){x:aR}:Nat.ble (0+i*3+x.cells.length) (l.flatMap aR.cells).length=true:=by rw[nO,Cv,aR.cH];omega
def cd.dF{a:Addr}{K:List aF->Prop}(a9 post:List aF)(cs:Array Value)(T:Nat)(bb:M=a9++⟨a.block,.cells cs T (0,0)⟩::post)(av:a.spot=none)(ag:Nat.ble (a.off+vs.length) cs.size=true)(aa:fJ vs=true)(cs':List Value)(he:cq cs.toList a.off vs=cs')(k:K (a9++⟨a.block,.cells cs'.toArray T (0,0)⟩::post)):cd M a vs K:=
 ⟨a9,post,cs,T,bb,av,bK ag,aa,by rw[he];exact k⟩
def alc(ax:g.ok I)(hm:w0 g){b6 ea gE b1:Nat}(EC:I h2=some (jB (bL g.ds))){fG:List aR}(Bx:o4 g.ds fG) :
  Spec Tryz.prog 272 [ptr b1,ptr b6,ptr ea] I (ofM b6 h2 ea gE b1 g fG) λv I' M'=>v=.bool (decide (nQ (bL g.ds) 0 g.ds fG≠fG))/\I'=I/\M'=ofM b6 h2 ea gE b1 g (nQ (bL g.ds) 0 g.ds fG):=by
 refine b0 [] a3 Tryz.func272 rfl rfl rfl ?_;intro B aw;have hL:=ax.n;have hy:=ax.ba.cap;have LQ:∀ {M:List aF},(⟨b1,.cells #[.slice g.a g.n g.c] 30 (0,0)⟩:aF)∈M->cY I M ((⟨b1,0,none⟩:Addr).add 0) 1 [.slice g.a g.n g.c]:=λbb=>dq (cs:=[.slice g.a g.n g.c]) (k:=0) (n:=1) bb (by simp);have ald:∀ {M:List aF},(⟨b6,.cells #[.map (some h2)] 155 (0,0)⟩:aF)∈M->cY I M (⟨b6,0,none⟩:Addr) 1 [.map (some h2)]:=λbb=>⟨rfl,_,_,_,.inr ⟨_,bb,rfl,rfl⟩,rfl,rfl⟩;have Cx:∀ {M:List aF},(⟨ea,.cells #[.slice (some ⟨gE,0,none⟩) g.n g.n] 259 (0,0)⟩:aF)∈M->cY I M (⟨ea,0,none⟩:Addr) 1 [.slice (some ⟨gE,0,none⟩) g.n g.n]:=λbb=>⟨rfl,_,_,_,.inr ⟨_,bb,rfl,rfl⟩,rfl,rfl⟩;refine aV.mk _ (LQ (by simp[ofM])) ?_;refine dx.inv (ι:=Nat×List aR) (λx=>{ bp:=[(0,.val (ptr b1)),(1,.val (ptr b6)),(2,.val (ptr ea)),(4,.val (.bool (decide (x.2≠fG)))),(9,.val (.slice g.a g.n g.c)),(10,.val (.int .i64 g.n)),(11,.val (.int .i64 x.1))],cP:=I,da:=ofM b6 h2 ea gE b1 g x.2 }) (λx=>x.1<=g.n/\o4 g.ds x.2/\dX fG x.2/\nQ (bL g.ds) 0 g.ds fG=nQ (bL g.ds) x.1 (g.ds.drop x.1) x.2) (λx=>g.n-x.1) ?_ ?_
 ·refine⟨(0,fG),⟨dj _,Bx,dX.refl _,rfl⟩,.refl,.cons .refl (.cons .refl (.cons .refl (.cons ?_ (fw)))),.nil⟩;exact LM (by simp)
 rintro⟨i,l⟩⟨hi,qS,bk,eW⟩;simp only at hi qS bk eW;have nz:=qS.len;refine a5.mk (λh=>?_) (λh=>?_)
 rotate_left
 ·have c8:i=g.n:=by have:¬ (i:Int)<(g.n:Int):=dP h;omega
  rw[mr (by omega),nQ]at eW;exact⟨_,_,.refl,by rw[eW],rfl,by rw[eW]⟩
 have a4:i<g.n:=by have:(i:Int)<(g.n:Int):=c5 h;omega
 have cJ:i<g.ds.length:=by omega
 have ed:i<l.length:=by omega
 obtain⟨aP,bI,bt⟩:=ax.ba.row a0.cH a4 cJ;have hb:=bJ cJ;have ah:=ax.ds _ hb;have af:=hm.right _ hb;have ED:=Y2 (hm.named _ hb);rw[show g.ds.length=l.length from nz.symm]at ED;obtain⟨uc,gl⟩:=qS.step cJ;have yE:nQ (bL g.ds) 0 g.ds fG=nQ (bL g.ds) (i+1) (g.ds.drop (i+1)) (l.set i (iU (bL g.ds) l g.ds[i])):=by rw[eW,fi cJ,nQ]
 have H7:iU (bL g.ds) l g.ds[i]=(ev (bL g.ds) l g.ds[i].t.ns []).getD g.ds[i].t.br.toNat ch:=rfl;generalize iU (bL g.ds) l g.ds[i]=f at uc gl yE H7;generalize g.ds[i]=d at bt ah af ED H7;have pQ:=lZ af;have ho:=ah.t.n;have oL:=HZ (bL g.ds) l d.t.ns [];simp only[g3,dp]at oL;have eJ:d.t.br.toNat<(ev (bL g.ds) l d.t.ns []).length:=by omega
 have wo:(ev (bL g.ds) l d.t.ns [])[d.t.br.toNat]=f:=by rw[H7];simp[bM,eJ]
 have QM:=YS (M0:=[fU gE l]) (ln:=l.length) (lc:=g.n) ah.t af EC (LN (I:=I) (eC.2 rfl)) ED;rw[show l.length=g.n by omega]at QM;refine bA.mk aP i bI rfl a4 ?_;refine aV.mk _ (bt _) ?_;have ale:l.getD i ch=l[i]:=by simp[bM,ed]
 have more:(!decide (f=l[i]))=true->decide (l.set i f≠fG)=true:=λh=>by
  have bD:f≠l[i]:=by simpa using h
  rw[hS];intro e;have a7:l.set i f=l:=by refine dX.antisymm ?_ gl;rw[e];exact bk
  have ai:=H4 l i i f ed;rw[a7,bT rfl,ale]at ai;exact bD ai.symm
 have same:(!decide (f=l[i]))=false->l.set i f=l:=λh=>by
  have he:f=l[i]:=by simpa using h
  rw[he];exact List.set_getElem_self ed
 refine c2.draw a3 rfl rfl rfl ?_;refine aV.mk _ (ald (by simp[ofM])) ?_;refine aV.mk _ (Cx (by simp[ofM])) ?_;refine⟨?_,?_⟩
 ·refine eH.oJ [fU gE l] [⟨b6,.cells #[.map (some h2)] 155 (0,0)⟩,⟨ea,.cells #[.slice (some ⟨gE,0,none⟩) g.n g.n] 259 (0,0)⟩,⟨b1,.cells #[.slice g.a g.n g.c] 30 (0,0)⟩] _ (H6 ..) QM (λv I' M' h x ad=>by obtain⟨-,b,-,rfl⟩:=h;exact .tail _ ad) ?_;rintro v eE dy -⟨rfl,b,rfl,rfl⟩;refine bA.mk ⟨b,0,none⟩ d.t.br.toNat rfl (by omega) (by omega) ?_;refine aV.mk _ (Ew (.head _) eJ) ?_;rw[wo];refine bZ.mk λb7 H8 LR=>?_;refine cd.dF [] [fU b (ev (bL g.ds) l d.t.ns []),fU gE l,⟨b6,.cells #[.map (some h2)] 155 (0,0)⟩,⟨ea,.cells #[.slice (some ⟨gE,0,none⟩) g.n g.n] 259 (0,0)⟩,⟨b1,.cells #[.slice g.a g.n g.c] 30 (0,0)⟩] _ _ rfl rfl rfl rfl f.cells rfl ?_;refine c2.draw a3 rfl rfl rfl ?_;refine aV.mk f.cells (LP (by simp)) ?_;refine aV.mk _ (Cx (by simp)) ?_;refine bA.mk ⟨gE,0,none⟩ i rfl rfl a4 ?_;refine aV.mk _ (Ew (by simp) ed) ?_;refine fW.YF (p:=f) (q:=l[i]) ?_;refine a5.mk (λh=>?_) (λh=>?_)
  ·refine aV.mk _ (Cx (by simp)) ?_;refine aV.mk f.cells (LP (by simp)) ?_;refine bA.mk ⟨gE,0,none⟩ i rfl rfl a4 ?_;refine cd.iP [(⟨b7,.cells f.cells.toArray 311 (0,0)⟩:aF),fU b (ev (bL g.ds) l d.t.ns [])] [⟨b6,.cells #[.map (some h2)] 155 (0,0)⟩,⟨ea,.cells #[.slice (some ⟨gE,0,none⟩) g.n g.n] 259 (0,0)⟩,⟨b1,.cells #[.slice g.a g.n g.c] 30 (0,0)⟩] (l.flatMap aR.cells) _ rfl (Y4 ed) rfl ((l.set i f).flatMap aR.cells) (by rw[dp];exact QG l i ed f) ?_;refine be.mk _ (dc (i:=i) (by omega)) ?_;refine⟨(i+1,l.set i f),⟨⟨by simp only;omega,uc,bk.trans gl,yE⟩,by simp only;omega⟩,.sub (M1:=[fU gE (l.set i f),⟨b6,.cells #[.map (some h2)] 155 (0,0)⟩,⟨ea,.cells #[.slice (some ⟨gE,0,none⟩) g.n g.n] 259 (0,0)⟩,⟨b1,.cells #[.slice g.a g.n g.c] 30 (0,0)⟩]) (by exact .cons _ (.cons _ (.refl _))) (.perm (H6 ..).symm .refl),.cons .refl (.cons .refl (.cons .refl (.cons (LM (more h).symm) (fw)))),.nil⟩
  ·have he:l.set i f=l:=same h;rw[he]at yE;refine be.mk _ (dc (i:=i) (by omega)) ?_;exact⟨(i+1,l),⟨⟨by simp only;omega,qS,bk,yE⟩,by simp only;omega⟩,.sub (M1:=[fU gE l,⟨b6,.cells #[.map (some h2)] 155 (0,0)⟩,⟨ea,.cells #[.slice (some ⟨gE,0,none⟩) g.n g.n] 259 (0,0)⟩,⟨b1,.cells #[.slice g.a g.n g.c] 30 (0,0)⟩]) (by exact .cons _ (.cons _ (.refl _))) (.perm (H6 ..).symm .refl),ru,.nil⟩
 ·refine bZ.mk λb7 H8 LR=>?_;refine eH.oJ [fU gE l] [(⟨b7,.cells ch.cells.toArray 311 (0,0)⟩:aF),⟨b6,.cells #[.map (some h2)] 155 (0,0)⟩,⟨ea,.cells #[.slice (some ⟨gE,0,none⟩) g.n g.n] 259 (0,0)⟩,⟨b1,.cells #[.slice g.a g.n g.c] 30 (0,0)⟩] _ (alb ..) QM (λv I' M' h x ad=>by obtain⟨-,b,-,rfl⟩:=h;exact .tail _ ad) ?_;rintro v eE dy -⟨rfl,b,rfl,rfl⟩;refine bA.mk ⟨b,0,none⟩ d.t.br.toNat rfl (by omega) (by omega) ?_;refine aV.mk _ (Ew (.head _) eJ) ?_;rw[wo];refine cd.dF [fU b (ev (bL g.ds) l d.t.ns []),fU gE l] [⟨b6,.cells #[.map (some h2)] 155 (0,0)⟩,⟨ea,.cells #[.slice (some ⟨gE,0,none⟩) g.n g.n] 259 (0,0)⟩,⟨b1,.cells #[.slice g.a g.n g.c] 30 (0,0)⟩] _ _ rfl rfl rfl rfl f.cells rfl ?_;refine c2.draw a3 rfl rfl rfl ?_;refine aV.mk f.cells (LP (by simp)) ?_;refine aV.mk _ (Cx (by simp)) ?_;refine bA.mk ⟨gE,0,none⟩ i rfl rfl a4 ?_;refine aV.mk _ (Ew (by simp) ed) ?_;refine fW.YF (p:=f) (q:=l[i]) ?_;refine a5.mk (λh=>?_) (λh=>?_)
  ·refine aV.mk _ (Cx (by simp)) ?_;refine aV.mk f.cells (LP (by simp)) ?_;refine bA.mk ⟨gE,0,none⟩ i rfl rfl a4 ?_;refine cd.iP [fU b (ev (bL g.ds) l d.t.ns [])] [(⟨b7,.cells f.cells.toArray 311 (0,0)⟩:aF),⟨b6,.cells #[.map (some h2)] 155 (0,0)⟩,⟨ea,.cells #[.slice (some ⟨gE,0,none⟩) g.n g.n] 259 (0,0)⟩,⟨b1,.cells #[.slice g.a g.n g.c] 30 (0,0)⟩] (l.flatMap aR.cells) _ rfl (Y4 ed) rfl ((l.set i f).flatMap aR.cells) (by rw[dp];exact QG l i ed f) ?_;refine be.mk _ (dc (i:=i) (by omega)) ?_;refine⟨(i+1,l.set i f),⟨⟨by simp only;omega,uc,bk.trans gl,yE⟩,by simp only;omega⟩,.sub (M1:=[fU gE (l.set i f),⟨b6,.cells #[.map (some h2)] 155 (0,0)⟩,⟨ea,.cells #[.slice (some ⟨gE,0,none⟩) g.n g.n] 259 (0,0)⟩,⟨b1,.cells #[.slice g.a g.n g.c] 30 (0,0)⟩]) (by exact .cons _ (.cons_cons _ (.cons _ (.refl _)))) (.perm (H6 ..).symm .refl),.cons .refl (.cons .refl (.cons .refl (.cons (LM (more h).symm) (fw)))),.nil⟩
  ·have he:l.set i f=l:=same h;rw[he]at yE;refine be.mk _ (dc (i:=i) (by omega)) ?_;exact⟨(i+1,l),⟨⟨by simp only;omega,qS,bk,yE⟩,by simp only;omega⟩,.sub (M1:=[fU gE l,⟨b6,.cells #[.map (some h2)] 155 (0,0)⟩,⟨ea,.cells #[.slice (some ⟨gE,0,none⟩) g.n g.n] 259 (0,0)⟩,⟨b1,.cells #[.slice g.a g.n g.c] 30 (0,0)⟩]) (by exact .cons _ (.cons_cons _ (.cons _ (.refl _)))) (.perm (H6 ..).symm .refl),ru,.nil⟩
def alf(bl:ff I ay)(ax:g.ok I):Spec Tryz.prog 216 [g.val] I [] λv I' M'=>(∀ b o,I b=some o->I' b=some o) /\
  ((du ay g≠0/\v=.tuple #[.slice none 0 0,.int .i64 (du ay g)]/\M'=[])\/(du ay g=0/\∃ b l,v=.tuple #[.slice (some ⟨b,0,none⟩) g.n g.n,.int .i64 0]/\M'=[fU b l]/\hp g.ds l)):=by
 refine b0 [1,5,6] a3 Tryz.func216 rfl rfl rfl ?_;intro B aw;have hL:=ax.n;have hy:=ax.ba.cap;refine bZ.mk λb1 iN QN=>?_;refine aV.mk [.slice g.a g.n g.c] ⟨rfl,_,_,_,.inr ⟨_,.head _,rfl,rfl⟩,rfl,rfl⟩ ?_;refine bc.mk [] [⟨b1,.cells #[.slice g.a g.n g.c] 30 (0,0)⟩] _ (.refl _) (X6 bl ax) ?_;rintro v I1 M1 -⟨rfl,db,rfl⟩;refine a5.mk (λh=>?_) (λh=>?_)
 ·have hm:du ay g≠0:=by simpa using h
  exact⟨_,_,.sub (fC _) .refl,db,.inl ⟨hm,rfl,rfl⟩⟩
 have hm:du ay g=0:=by simpa using h
 have bb:=LO hL hm;refine aV.mk _ (dq (b:=b1) (cs:=[.slice g.a g.n g.c]) (k:=0) (n:=1) (T:=30) (.head _) (by simp)) ?_;refine pE.mk g.n g.n rfl rfl (b2 _) (by show 3*g.n<=_;omega) (by omega) ?_;refine bZ.mk λgE kR axh=>?_;have e:rowOf ch.cells (g.n*3)=(List.replicate g.ds.length ch).flatMap aR.cells:=by rw[hL];exact YR g.n
 refine bZ.mk λea Cm Lv=>?_;refine cd.dF [] _ _ _ rfl rfl rfl rfl [.slice (some ⟨gE,0,none⟩) g.n g.n] rfl ?_;refine aV.mk [.slice g.a g.n g.c] ⟨rfl,_,_,_,.inr ⟨_,.tail _ (.tail _ (.head _)),rfl,rfl⟩,rfl,rfl⟩ ?_;refine bc.mk [] _ _ (.refl _) (YM (ax.mono db)) ?_;rintro v eE dy -⟨gx,rfl,h2,rfl,EC⟩;refine bZ.mk λb6 Lo XU=>?_;refine cd.dF [] _ _ _ rfl rfl rfl rfl [.map (some h2)] rfl ?_;refine dx.inv (ι:=List aR) (λl=>{ bp:=[(5,.val (ptr ea)),(7,.val (.func (.func 272) #[] #[ptr b1,ptr b6,ptr ea]))],cP:=eE,da:=ofM b6 h2 ea gE b1 g l }) (o4 g.ds) Ag ?_ ?_
 ·refine⟨List.replicate g.ds.length ch,.start g.ds,?_,x3,.nil⟩;simp only[ofM,fU];rw[<-e];exact .refl
 intro l aA;refine bc.mk (ofM b6 h2 ea gE b1 g l) [] _ (.refl _) (alc ((ax.mono db).mono gx) bb EC aA) ?_;rintro v ls oM -⟨rfl,rfl,rfl⟩;obtain⟨hd,o1,-⟩:=QJ g.ds [] rfl aA;refine a5.mk (λh=>?_) (λh=>?_)
 ·exact⟨_,⟨hd,ak6 o1 (c5 h)⟩,.refl,x3,.nil⟩
 ·have aB:nQ (bL g.ds) 0 g.ds l=l:=by have:=dP h;exact Classical.not_not.1 this
  rw[aB];refine aV.mk [.slice (some ⟨gE,0,none⟩) g.n g.n] ⟨rfl,_,_,_,.inr ⟨_,.tail _ (.head _),rfl,rfl⟩,rfl,rfl⟩ ?_;refine⟨ls,[fU gE l],.sub (.cons _ (.cons _ (.cons_cons _ (fC _)))) .refl,λb o h=>gx _ _ (db _ _ h),.inr ⟨hm,gE,l,rfl,rfl,aA.done aB⟩⟩
def bn.a1(t:bn):bn:=⟨t.ns.map al.a1,none,t.n,0,t.br⟩
def a0.a1(d:a0):a0:=⟨d.name,d.t.a1⟩
def cg.a1(g:cg):cg:=⟨g.ds.map a0.a1,none,g.n,0⟩
def Y5:∀ (ds:List al) (i:Nat) (s:List Bool),jz i (ds.map al.a1) s=jz i ds s
 |[],i,s=>rfl| d::ds,i,s=>by have h:∀ cn,jz (i+1) (ds.map al.a1) cn=jz (i+1) ds cn:=λcn=>Y5 ds (i+1) cn;rw[ca,jz,jz];simp only[h];rfl
def ud(t:bn):right t.a1=right t:=by unfold right bn.a1;simp only[Y5,bE]
def Y6(ns:List al)(k:Int):iE (ns.map al.a1) k=iE ns k:=by unfold iE;rw[gh];rfl
def Y7(ns:List al)(kind:Int):∀ ks,kw (ns.map al.a1) kind ks=kw ns kind ks
 |[]=>rfl| k::ks=>by rw[kw,kw,Y6,Y7 ns kind ks]
def Y8(ns:List al):∀ ds:List al,kY (ns.map al.a1) (ds.map al.a1)=kY ns ds
 |[]=>rfl| d::ds=>by have h:=Y7 ns d.k d.aq;rw[ca,kY,kY,Y8 ns ds];show(bif !decide (d.k=4) && !decide (d.k=5)then kY ns ds else bif kw (ns.map al.a1) d.k d.aq then kY ns ds else false)=_;rw[h]
def alg(t:bn):normal t.a1=normal t:=by unfold normal;rw[ud];congr 1;exact Y8 t.ns t.ns
def Y9:∀ (ds:List al) (i:Nat) (g4:List Int),wL i (ds.map al.a1) g4=wL i ds g4
 |[],i,g4=>rfl| d::ds,i,g4=>by rw[ca,wL,wL,Y9 ds];rfl
def alh(t:bn):depth t.a1=depth t:=by unfold depth;rw[ud];simp only[bn.a1,Y9,bE]
def ali(t:bn):pP t.a1=pP t:=by unfold pP;rw[ud,alh];rfl
def H9{α:Type}{z:α}{f g:al->(Int->α)->α}(h:∀ d q,f d.a1 q=g d q):∀ (ds:List al) (aZ:List α),fH z f (ds.map al.a1) aZ=fH z g ds aZ
 |[],aZ=>rfl| d::ds,aZ=>by rw[ca,fH,fH,h,H9 h ds]
def alj(ay:List Int)(ns:List al)(k:Int):kW ay (ns.map al.a1) k=kW ay ns k:=by unfold kW mv;rw[H9 (g:=Ej ay ns) (λd q=>?_)];show rR ay d++(vf (Ei d) (λk=>paren (hK d.k (iE (ns.map al.a1) k)) (q k)) false d.aq++pV d)=_;simp only[Y6];rfl
def alk(ay:List Int)(t:bn):nJ ay t.a1=nJ ay t:=by unfold nJ;rw[ud];have:kW ay t.a1.ns t.a1.br=kW ay t.ns t.br:=alj ay t.ns t.br;rw[this]
def alm(ay:List Int)(d:a0):qM ay d.a1=qM ay d:=by unfold qM;have:nJ ay d.a1.t=nJ ay d.t:=alk ay d.t;rw[this];rfl
def Y'(ay:List Int):∀ (ds:List a0) (aZ:List UInt8),qN ay (ds.map a0.a1) aZ=qN ay ds aZ
 |[],aZ=>rfl| d::ds,aZ=>by rw[ca,qN,qN,alm,Y' ay ds]
def aln(g:cg):mB g.a1=mB g:=by unfold mB cg.a1;rw[gh];congr 1;refine fT λd _=>?_;show h1 d.t.a1=h1 d.t;unfold h1;rw[ud];rfl
def Za{q:a0->Bool}(h:∀ d,q d.a1=q d)(ds:List a0):(ds.map a0.a1).all q=ds.all q:=by rw[Lt];congr 1;funext d;exact h d
def alo(ay:List Int)(g:cg):pX ay g.a1=pX ay g:=by unfold pX;rw[aln];have aa:(g.a1.ds.all λd=>pP d.t)=g.ds.all λd=>pP d.t:=Za (λd=>ali d.t) g.ds;have ab:qN ay g.a1.ds []=qN ay g.ds []:=Y' ay g.ds [];rw[aa,ab];rfl
def alp(ds:List a0):n' (ds.map a0.a1)=n' ds:=Za (q:=λd=>nE d.name&&normal d.t) (λd=>by
 show(nE d.name&&normal d.t.a1)=_;rw[alg]) ds
def Zb:∀ (ds:List a0) (aZ:List (ByteArray×Int)) (i:Nat),l1 aZ i (ds.map a0.a1)=l1 aZ i ds
 |[],aZ,i=>rfl| d::ds,aZ,i=>by rw[ca,l1,l1];show(bif (eQ d.name aZ).isSome then none else l1 (aZ++[(d.name,(i:Int))]) (i+1) (ds.map a0.a1))=_;rw[Zb ds]
def Zc:∀ (ds:List a0) (i:Nat),qP i (ds.map a0.a1)=(qP i ds).map λp=>(p.1,p.2.a1)
 |[],i=>rfl| d::ds,i=>by rw[ca,qP,qP,Zc ds,cS,gh];show(d.t.ns.map al.a1).map (λn=>(i,n))++_=_;rw[gh];rfl
def alq(aZ:List (ByteArray×Int))(ds:List a0):rX aZ (ds.map a0.a1)=rX aZ ds:=by unfold rX;rw[Zc,Lt];rfl
def Cy(ay:List Int)(g:cg):du ay g.a1=du ay g:=by unfold du;rw[alo];have aa:n' g.a1.ds=n' g.ds:=alp g.ds;have ab:l1 [] 0 g.a1.ds=l1 [] 0 g.ds:=Zb g.ds [] 0;have ai:∀ aZ,rX aZ g.a1.ds=rX aZ g.ds:=λaZ=>alq aZ g.ds;rw[aa,ab];simp only[ai];rfl
def Zd(pl:List (ByteArray×Int))(bp:List aR):∀ (ds:List al) (aZ:List aR),ev pl bp (ds.map al.a1) aZ=ev pl bp ds aZ
 |[],aZ=>rfl| d::ds,aZ=>by rw[ca,ev,ev,Zd pl bp ds];rfl
def Ze:∀ (ds:List a0) (aZ:List (ByteArray×Int)) (i:Nat),oa aZ i (ds.map a0.a1)=oa aZ i ds
 |[],aZ,i=>rfl| d::ds,aZ,i=>by rw[ca,oa,oa,Ze ds];rfl
def EE(ds:List a0):bL (ds.map a0.a1)=bL ds:=Ze ds [] 0
def LS(pl:List (ByteArray×Int))(bp:List aR)(d:a0):iU pl bp d.a1=iU pl bp d:=by unfold iU;have:ev pl bp d.a1.t.ns []=ev pl bp d.t.ns []:=Zd pl bp d.t.ns [];rw[this];rfl
def alr{ds:List a0}{l:List aR}(h:hp ds l):hp (ds.map a0.a1) l:=by
 refine⟨by rw[h.len,bE],λi hi=>?_,λm hm ao=>?_⟩
 ·have cG:i<ds.length:=by simpa using hi
  rw[EE,gg,LS];exact h.fix i cG
 ·refine h.least m (by rw[hm,bE]) λi hi=>?_;have:=ao i (by simpa using hi);rwa [EE,gg,LS]at this
def jD(l:List al):bn:=⟨l,none,l.length,0,(l.length:Int)-1⟩
structure Zf(I:aJ)(t:bn)(l:List al):Prop where
 ok:t.ok I
 a1:t.ns.map al.a1=l
 br:t.br=(l.length:Int)-1
def Zf.len{l:List al}(h:Zf I t l):t.n=l.length:=by rw[<-h.ok.n,<-h.a1,bE]
def eM(ns:List al):List Int:=ns.flatMap (·.aq)
def hQ(l:List Int):Prop:=l.Pairwise (·≠·)
def EF(s:List Bool)(l:List Int):Prop:=∀ j,s.getD j false=true ↔ ((j:Int)∈l/\j<s.length)
def Zg{i:Nat}:∀ {ks seen:List Int} {s:List Bool},i<=s.length->EF s seen->hQ seen -> ((∃ cn,kU i ks s=some cn) ↔ ((∀ k∈ks,0<=k/\k<i)/\hQ (seen++ks)))/\∀ cn,kU i ks s=some cn->cn.length=s.length/\EF cn (seen++ks)
 |[],seen,s,hi,hm,ah=>by refine⟨⟨λ_=>⟨λk ae=>by(cases ae),by simpa using ah⟩,λ_=>⟨s,rfl⟩⟩,λcn h=>?_⟩;simp only[kU,kJ]at h;subst h;exact⟨rfl,by simpa using hm⟩
 |k::ks,seen,s,hi,hm,ah=>by
  unfold kU;cases ag:decide (k<0)||(decide ((i:Int)<=k)||s.getD k.toNat false)with
  |true=>
   refine⟨⟨λ⟨cn,h⟩=>(by cases h),λ⟨aa,ab⟩=>?_⟩,λcn h=>by cases h⟩;exfalso;have ai:=aa k (.head _);simp only[kq,hS]at ag;rcases ag with ag | ag | ag;·omega
   ·omega
   ·have:=(hm _).1 ag;rw[zS ai.1]at this;exact(rV.1 ab).2.2 k this.1 k (.head _) rfl
  |false=>
   simp only[tI,sE]at ag;obtain⟨b1,bW,dA⟩:=ag;have ae:k.toNat<s.length:=by omega
   have eL:k ∉ seen:=λh=>by have:=(hm k.toNat).2 ⟨by rw[zS (by omega)];exact h,ae⟩;rw[dA]at this;cases this
   have sH:EF (s.set k.toNat true) (seen++[k]):=λj=>by
    have:=hm j;simp only[bM,iv,rW,cC,eC]at this |-;by_cases e:k.toNat=j;·subst e;rw[bT rfl,bT ae];simp only[kK,true_iff];exact⟨.inr (by omega),ae⟩
    ·rw[bP e,this];constructor
     ·rintro⟨aa,ab⟩;exact⟨.inl aa,ab⟩
     ·rintro⟨aa | aa,ab⟩
      ·exact⟨aa,ab⟩
      ·omega
   have fE:hQ (seen++[k]):=rV.2 ⟨ah,by simp,λa a6 b ag e=>by
    simp only[eC]at ag;subst ag;subst e;exact eL a6⟩
   have aN:=Zg (i:=i) (ks:=ks) (seen:=seen++[k]) (s:=s.set k.toNat true) (by simpa using hi) sH fE;simp only[cb];rw[ec,qO]at aN;refine⟨aN.1.trans ⟨λ⟨aa,ab⟩=>⟨λx ad=>?_,ab⟩,λ⟨aa,ab⟩=>⟨λx ad=>aa x (.tail _ ad),ab⟩⟩,λcn h=>?_⟩
   ·rcases eA.1 ad with rfl | ad
    ·omega
    ·exact aa x ad
   ·have:=aN.2 cn h;simpa using this
def Zh:∀ {ds:List al} {i:Nat} {seen:List Int} {s:List Bool},i+ds.length<=s.length->EF s seen->hQ seen -> ((∃ cn,jz i ds s=some cn) ↔ ((∀ j (h:j<ds.length),fits ds[j] ds[j].aq.length=true/\∀ k∈ds[j].aq,0<=k/\k<i+j)/\hQ (seen++eM ds)))/\∀ cn,jz i ds s=some cn->cn.length=s.length/\EF cn (seen++eM ds)
 |[],i,seen,s,hi,hm,ah=>by refine⟨⟨λ_=>⟨λj ak=>by simp at ak,by simpa[eM]using ah⟩,λ_=>⟨s,rfl⟩⟩,λcn h=>?_⟩;simp only[jz,kJ]at h;subst h;exact⟨rfl,by simpa[eM]using hm⟩
 |d::ds,i,seen,s,hi,hm,ah=>by
  unfold jz;have ae:=Zg (i:=i) (ks:=d.aq) (by simp at hi;omega) hm ah;have eI:eM (d::ds)=d.aq++eM ds:=rfl;cases aB:fits d d.aq.length with
  |false=>refine⟨⟨λ⟨cn,h⟩=>(by cases h),λ⟨aa,ab⟩=>?_⟩,λcn h=>by cases h⟩;have:=(aa 0 (by simp)).1;simp only[tw]at this;rw[aB]at this;cases this
  |true=>
   simp only[cp];cases aM:kU i d.aq s with
   |none=>
    refine⟨⟨λ⟨cn,h⟩=>(by cases h),λ⟨aa,ab⟩=>?_⟩,λcn h=>by cases h⟩;exfalso;have:∃ cn,kU i d.aq s=some cn:=ae.1.2 ⟨λk ae=>by
     have:=(aa 0 (by simp)).2 k ae;omega,by
     rw[eI,<-ec]at ab;exact(rV.1 ab).1⟩
    obtain⟨cn,h⟩:=this;rw[aM]at h;cases h
   |some s1=>
    obtain⟨H',cM⟩:=ae.2 s1 aM;obtain⟨hd,d1⟩:=ae.1.1 ⟨s1,aM⟩;have aN:=Zh (ds:=ds) (i:=i+1) (seen:=seen++d.aq) (s:=s1) (by simp at hi;omega) cM d1;rw[ec,<-eI]at aN;simp only;refine⟨aN.1.trans ⟨λ⟨aa,ab⟩=>⟨λj ak=>?_,ab⟩,λ⟨aa,ab⟩=>⟨λj ak=>?_,ab⟩⟩,λcn h=>?_⟩
    ·cases j with
     |zero=>exact⟨aB,λk ae=>by have:=hd k ae;omega⟩| succ j=>have:=aa j (by simpa using ak);refine⟨this.1,λk ae=>?_⟩;have:=this.2 k ae;omega
    ·have:=aa (j+1) (by simpa using ak);refine⟨this.1,λk ae=>?_⟩;have:=this.2 k ae;omega
    ·have:=aN.2 cn h;exact⟨this.1.trans H',this.2⟩
def als(n:Nat):EF (List.replicate n false) []:=λj=>by
 by_cases h:j<n<;>simp[bM,List.getElem?_replicate,h]
structure hf(t:bn):Prop where
 br:0<=t.br/\t.br<t.ns.length
 fits:∀ j (h:j<t.ns.length),fits t.ns[j] t.ns[j].aq.length=true
 aq:∀ j (h:j<t.ns.length),∀ k∈t.ns[j].aq,0<=k/\k<j
 diff:hQ (eM t.ns)
 all:∀ j:Nat,j<t.ns.length->((j:Int)∈eM t.ns ↔ (j:Int)≠t.br)
def jm:right t=true ↔ hf t:=by
 have h:=Zh (ds:=t.ns) (i:=0) (seen:=[]) (s:=List.replicate t.ns.length false) (by simp) (als _) (by simp[hQ]);simp only[hX,dp,zQ]at h;unfold right;constructor
 ·intro af;simp only[cw,hS]at af;obtain⟨hd,o1,qR⟩:=af;split at qR
  ·rename_i s av;obtain⟨ew,e9⟩:=h.1.1 ⟨s,av⟩;obtain⟨cM,m2⟩:=h.2 s av;refine⟨⟨hd,o1⟩,λj ak=>(ew j ak).1,λj ak k ae=>(by have:=(ew j ak).2 k ae;omega),e9,λj ak=>?_⟩;have ag:(s.getD j false == decide (((0+j:Nat):Int)=t.br))=false:=by
    cases ag:(s.getD j false == decide (((0+j:Nat):Int)=t.br))with
    |false=>rfl| true=>have:=Qz (by omega) ag;rw[this]at qR;cases qR
   rw[dp]at ag;have hm:=m2 j;constructor;·intro ad e;have:=hm.2 ⟨ad,by omega⟩;rw[this,iQ e]at ag;cases ag
   ·intro bD;rw[fo bD]at ag;have:s.getD j false=true:=by
     revert ag;cases s.getD j false<;>simp
    exact(hm.1 this).1
  ·cases qR
 ·intro af;obtain⟨s,av⟩:=h.1.2 ⟨λj ak=>⟨af.fits j ak,λk ae=>by have:=af.aq j ak k ae;omega⟩,af.diff⟩;obtain⟨cM,m2⟩:=h.2 s av;rw[av];simp only[cw,hS];refine⟨af.br.1,af.br.2,Yv λj ak=>?_⟩;rw[dp];have a6:=af.all j (by omega);have hm:=m2 j;by_cases e:(j:Int)=t.br
  ·have aB:s.getD j false=false:=by
    cases ag:s.getD j false with
    |false=>rfl| true=>exact absurd e (a6.1 (hm.1 ag).1)
   rw[aB,iQ e];rfl
  ·have:=hm.2 ⟨a6.2 e,by omega⟩;rw[this,fo e];rfl
def hf.node{t:bn}(af:hf t){j:Nat}(ak:j<t.ns.length){k:Int}(ae:k∈(nodeAt t.ns j).aq):0<=k/\k<j:=by rw[gy ak]at ae;exact af.aq j ak k ae
def hf.two(af:hf t){i j:Nat}(hi:i<t.ns.length)(ak:j<t.ns.length)(bD:i≠j){k:Int}(aa:k∈(nodeAt t.ns i).aq)(ab:k∈(nodeAt t.ns j).aq):False:=by
 rw[gy hi]at aa;rw[gy ak]at ab;have:=(Em.1 af.diff).2;rw[Qa]at this;rcases Nat.lt_or_gt_of_ne bD with h | h
 ·exact this i j hi ak h k aa k ab rfl
 ·exact this j i ak hi h k ab k aa rfl
def hf.Zi(af:hf t){j:Nat}(ak:j<t.ns.length):hQ (nodeAt t.ns j).aq:=by rw[gy ak];exact(Em.1 af.diff).1 _ (bJ ak)
def EG(ns:List al):Nat->Int->List Int
 |0,_=>[]| f+1,n=>(nodeAt ns n.toNat).aq.flatMap (EG ns f)++[n]
def er(ns:List al)(n:Int):List Int:=EG ns (n.toNat+1) n
def r0{α β:Type}{f g:α->List β}:∀ {l:List α},(∀ x∈l,f x=g x)->l.flatMap f=l.flatMap g
 |[],_=>rfl| a::l,h=>by rw[jf,jf,h a (.head _),r0 λx ad=>h x (.tail _ ad)]
section
variable{t:bn}(af:hf t)
include af
theorem alt:∀ (f j:Nat),j<t.ns.length->j<f->EG t.ns f j=er t.ns j:=by
 intro f
 induction f using Nat.strongRecOn with
 |_ f aN=>
  intro j ak aB
  match f,aB,aN with
  |f+1,aB,aN=>unfold er;rw[EG,EG];congr 1;refine r0 λk ae=>?_;obtain⟨aw,aa⟩:=af.node ak ae;obtain⟨k,rfl⟩:=eF aw;have aK:=aN f (by omega) k (by omega) (by omega);have a7:=aN j (by omega) k (by omega) (by omega);exact aK.trans a7.symm
theorem k1{j:Nat}(ak:j<t.ns.length):er t.ns j=(nodeAt t.ns j).aq.flatMap (er t.ns)++[(j:Int)]:=by unfold er;rw[EG];congr 1;refine r0 λk ae=>?_;obtain⟨aw,aa⟩:=af.node ak ae;obtain⟨k,rfl⟩:=eF aw;exact alt af _ k (by omega) (by omega)
theorem Ai:∀ (j:Nat),j<t.ns.length->∀ x∈er t.ns j,(0<=x/\x<=j)/\(x=j\/∃ y:Nat,(y:Int)∈er t.ns j/\y<t.ns.length/\x∈(nodeAt t.ns y).aq):=by
 intro j
 induction j using Nat.strongRecOn with
 |_ j aN=>
  intro ak x ad;rw[k1 af ak]at ad;rcases cC.1 ad with ad | ad
  ·obtain⟨k,ae,ad⟩:=hc.1 ad;obtain⟨aw,aa⟩:=af.node ak ae;obtain⟨k,rfl⟩:=eF aw;obtain⟨b,c⟩:=aN k (by omega) (by omega) x ad;refine⟨by omega,.inr ?_⟩;rcases c with rfl | ⟨y,aE,Hp,QO⟩
   ·exact⟨j,by rw[k1 af ak];simp,ak,ae⟩
   ·exact⟨y,by rw[k1 af ak];exact cC.2 (.inl (hc.2 ⟨k,ae,aE⟩)),Hp,QO⟩
  ·simp only[eC]at ad;subst ad;exact⟨by omega,.inl rfl⟩
theorem alu{j:Nat}(ak:j<t.ns.length){a b:Nat}(a6:(a:Int)∈(nodeAt t.ns j).aq)(ag:(b:Int)∈(nodeAt t.ns j).aq)(bD:a≠b):∀ (m:Nat) (x:Int),x∈er t.ns a->x∈er t.ns b->t.ns.length-x.toNat<=m->False:=by
 have aa:=af.node ak a6;have ab:=af.node ak ag;intro m
 induction m with
 |zero=>intro x QP ku hm;have:=(Ai af a (by omega) x QP).1;omega
 |succ m aN=>
  intro x QP ku hm;obtain⟨Cz,alv⟩:=Ai af a (by omega) x QP;obtain⟨axi,Zj⟩:=Ai af b (by omega) x ku;rcases alv with QQ | ⟨QR,Zk,QS,QT⟩
  ·rcases Zj with LU | ⟨QU,g5,QV,QW⟩
   ·omega
   ·have:=(Ai af b (by omega) QU g5).1;subst QQ;exact af.two ak QV (by omega) a6 QW
  ·rcases Zj with LU | ⟨QU,g5,QV,QW⟩
   ·have:=(Ai af a (by omega) QR Zk).1;subst LU;exact af.two ak QS (by omega) ag QT
   ·by_cases e:QR=QU
    ·subst e;have:=af.node QS QT;exact aN QR Zk g5 (by omega)
    ·exact af.two QS QV e QT QW
theorem Ia:∀ (j:Nat),j<t.ns.length->hQ (er t.ns j):=by
 intro j
 induction j using Nat.strongRecOn with
 |_ j aN=>
  intro ak;rw[k1 af ak];have cj:=af.Zi ak;refine rV.2 ⟨Em.2 ⟨λk ae=>?_,?_⟩,by simp,λx ad y aE=>?_⟩;·obtain⟨aw,aa⟩:=af.node ak ae;obtain⟨k,rfl⟩:=eF aw;exact aN k (by omega) (by omega)
  ·refine cj.imp_of_mem ?_;intro a b a6 ag bD x ad y aE e;subst e;obtain⟨aw,aa⟩:=af.node ak a6;obtain⟨ab,ai⟩:=af.node ak ag;obtain⟨a,rfl⟩:=eF aw;obtain⟨b,rfl⟩:=eF ab;exact alu af ak a6 ag (by intro e;subst e;exact bD rfl) _ x ad aE (b2 _)
  ·simp only[eC]at aE;subst aE;obtain⟨k,ae,ad⟩:=hc.1 ad;obtain⟨aw,aa⟩:=af.node ak ae;obtain⟨k,rfl⟩:=eF aw;have:=(Ai af k (by omega) x ad).1;omega
def p1(ns:List al)(l:List Int):Prop:=∀ i (h:i<l.length),∀ k∈(nodeAt ns (l[i]).toNat).aq,k∈l.take i
omit af in
theorem p1.append{l m:List Int}(h:p1 ns l)(bj:p1 ns m):p1 ns (l++m):=by
 intro i hi k ae;by_cases aA:i<l.length
 ·rw[yo aA]at ae;rw[BG (by omega)];exact h i aA k ae
 ·rw[Cg (by omega)]at ae;have:=bj (i-l.length) (by simp at hi;omega) k ae;rw[HH,fS (by omega)];exact cC.2 (.inr this)
omit af in
theorem p1.flat{ns:List al}{f:Int->List Int}:∀ {ks:List Int},(∀ k∈ks,p1 ns (f k))->p1 ns (ks.flatMap f)
 |[],_=>λi h=>by simp at h
 |k::ks,h=>by rw[jf];exact(h k (.head _)).append (p1.flat λx ad=>h x (.tail _ ad))
theorem Zl{j:Nat}(ak:j<t.ns.length):(j:Int)∈er t.ns j:=by rw[k1 af ak];simp
theorem QX:∀ (j:Nat),j<t.ns.length->p1 t.ns (er t.ns j):=by
 intro j
 induction j using Nat.strongRecOn with
 |_ j aN=>
  intro ak;have ae:∀ k∈(nodeAt t.ns j).aq,∃ q:Nat,k=q/\q<j:=λk ae=>by obtain⟨aw,aa⟩:=af.node ak ae;exact⟨k.toNat,by omega,by omega⟩
  have aa:p1 t.ns ((nodeAt t.ns j).aq.flatMap (er t.ns)):=p1.flat λk hR=>by obtain⟨q,rfl,aM⟩:=ae k hR;exact aN q aM (by omega)
  rw[k1 af ak];intro i hi k ob;by_cases aA:i<((nodeAt t.ns j).aq.flatMap (er t.ns)).length;·rw[yo aA]at ob;rw[BG (by omega)];exact aa i aA k ob
  ·rw[Cg (by omega)]at ob;have e:i-((nodeAt t.ns j).aq.flatMap (er t.ns)).length=0:=by simp only[cm,eo,g3]at hi;omega
   simp only[e,tw,gN]at ob;rw[HH,fS (by omega)];refine cC.2 (.inl (hc.2 ⟨k,ob,?_⟩));obtain⟨q,rfl,aM⟩:=ae k ob;exact Zl af (by omega)
theorem Zm{j:Nat}(ak:j<t.ns.length):(er t.ns j).getLast?=some (j:Int):=by rw[k1 af ak];simp
theorem QY:∀ (j:Nat),j<t.ns.length->(er t.ns j).length=l4 t.ns j:=by
 intro j
 induction j using Nat.strongRecOn with
 |_ j aN=>
  intro ak;rw[k1 af ak,Ev (jm.2 af) ak,<-gy ak];simp only[cm,yp,eo,g3,gS];have:(nodeAt t.ns j).aq.map (λa=>(er t.ns a).length)=(nodeAt t.ns j).aq.map (l4 t.ns):=fT λk ae=>by obtain⟨aw,aa⟩:=af.node ak ae;obtain⟨k,rfl⟩:=eF aw;exact aN k (by omega) (by omega)
  rw[this];omega
theorem Zn:∀ (f:Nat) (todo b:List Int),(∀ k∈todo,0<=k/\k<t.ns.length)->(todo.map λn=>(er t.ns n).length).sum<=f->yA t.ns f todo b=b++todo.reverse.flatMap (λn=>(er t.ns n).reverse)
 |0,todo,b,aj,aB=>by
  rcases zR todo with h | ⟨r,p,h⟩;·subst h;simp[yA]
  ·subst h;obtain⟨aw,aa⟩:=aj p (by simp);obtain⟨p,rfl⟩:=eF aw;have:=congrArg List.length (k1 af (j:=p) (by omega));simp at aB this;have ab:(er t.ns (p:Int)).length=0:=by rw[aB.2];rfl
   omega
 |f+1,todo,b,aj,aB=>by
  rcases zR todo with h | ⟨r,p,h⟩;·subst h;rw[YC];simp
  ·rw[List.concat_eq_append]at h;subst h;obtain⟨aw,aa⟩:=aj p (by simp);obtain⟨p,rfl⟩:=eF aw;have aH:p<t.ns.length:=by omega
   have he:=k1 af aH;have aA:=congrArg List.length he;simp only[cm,yp,eo,g3]at aA;have j3:∀ k∈r++(nodeAt t.ns p).aq,0<=k/\k<t.ns.length:=λk ae=>by
    rcases cC.1 ae with ae | ae;·exact aj k (by simp[ae])
    ·have:=af.node aH ae;omega
   have wF:((r++(nodeAt t.ns p).aq).map λn=>(er t.ns n).length).sum<=f:=by simp only[cS,pO,ca,hH,hz,B0]at aB |-;omega
   rw[YD,gN,Zn f _ _ j3 wF];rw[yq,yq,fX,fX,zP,o0,he,yq,ec];congr 1;rw[<-ec];congr 1;simp[List.reverse_flatMap];rfl
theorem alw{j:Nat}(ak:j<t.ns.length):(Cu t.ns j).reverse=er t.ns j:=by unfold Cu;have aa:=QY af j ak;have ab:=HU (jm.2 af) t.ns.length j ak (by omega);rw[Zn af _ _ _ (λk ae=>by simp only[eC]at ae;omega) (by simp;omega)];simp
def k2(rb:List Int)(k:Int):Int:=(rb.idxOf k:Nat)
def nR(ns:List al)(rb:List Int)(b:Int):al:=(nodeAt ns b.toNat).ep ((nodeAt ns b.toNat).aq.map (k2 rb))
omit af in
theorem hQ.idx{l:List Int}(h:hQ l){i:Nat}(hi:i<l.length):l.idxOf l[i]=i:=by
 have aa:=Lr (bJ hi);have ab:=Ls aa;have ai:=Qa.1 h;rcases Nat.lt_trichotomy (l.idxOf l[i]) i with aL | aL | aL
 ·exact absurd ab (ai _ _ aa hi aL)
 ·exact aL
 ·exact absurd ab.symm (ai _ _ hi aa aL)
omit af in
theorem hQ.nodup{l:List Int}(h:hQ l){i j:Nat}(hi:i<l.length)(ak:j<l.length)(e:l[i]=l[j]):i=j:=by rw[<-h.idx hi,<-h.idx ak,e]
omit af in
theorem sub_fold{rb:List Int}(ah:hQ rb)(aH:p1 t.ns rb)(aj:∀ k∈rb,0<=k/\k<t.ns.length):∀ i,i<=rb.length->∃ P:List Int,(rb.take i).foldl (LL t.ns) (List.replicate t.ns.length 0,[])=(P,(rb.take i).map (nR t.ns rb))/\P.length=t.ns.length/\∀ q (h:q<rb.length),q<i->P.getD rb[q].toNat 0=(q:Int)
 |0,_=>⟨List.replicate t.ns.length 0,rfl,by simp,λq h aM=>by omega⟩
 |i+1,hi=>by
  obtain⟨P,aa,ab,ai⟩:=sub_fold ah aH aj i (by omega);have ed:i<rb.length:=by omega
  have axj:=aj _ (bJ ed);have key:∀ q (h:q<rb.length),q<i+1->(P.set rb[i].toNat (i:Nat)).getD rb[q].toNat 0=(q:Int):=λq h aM=>by
   have Wv:=aj _ (bJ h);by_cases e:q=i;·subst e;simp[bM,iv,show rb[q].toNat<P.length by omega]
   ·have bD:rb[i].toNat≠rb[q].toNat:=λcU=>e (ah.nodup h ed (by omega));have:=ai q h (by omega);simp only[bM,iv]at this |-;rw[bP bD];exact this
  refine⟨P.set rb[i].toNat (i:Nat),?_,by simpa using ab,key⟩;rw[gH ed,tT,aa,cS];simp only[kl,HI,LL,bE,fR,pC (Nat.le_of_lt ed),ca,hH];have:nR t.ns rb rb[i]=(nodeAt t.ns rb[i].toNat).ep ((nodeAt t.ns rb[i].toNat).aq.map λk=>(P.set rb[i].toNat (i:Nat)).getD k.toNat 0):=by unfold nR;congr 1;refine fT λk ae=>?_;have hm:=aH i ed k ae;obtain⟨q,aM,e⟩:=hM hm;rw[fR]at aM;rw[Qh]at e;rw[<-e,key q (by omega) (by omega)];unfold k2;rw[ah.idx]
  rw[this]
theorem EH{j:Nat}(ak:j<t.ns.length):wU t.ns j=(er t.ns j).map (nR t.ns (er t.ns j)):=by obtain⟨P,aa,-,-⟩:=sub_fold (Ia af j ak) (QX af j ak) (λk ae=>by have:=(Ai af j ak k ae).1;omega) (er t.ns j).length (b2 _);rw[DS]at aa;unfold wU;rw[alw af ak,aa]
theorem alx{j:Nat}(ak:j<t.ns.length):hf (jD (wU t.ns j)):=by
 have ah:=Ia af j ak;have aH:=QX af j ak;have hm:=Ai af j ak;have EI:=Zm af ak;rw[EH af ak];generalize er t.ns j=rb at *;have cQ:0<rb.length:=by
  cases rb with
  |nil=>simp at EI| cons a l=>simp
 have EJ:rb[rb.length-1]=(j:Int):=by rw[X5,dt (by omega)]at EI;exact e2 EI
 have aD:∀ i (h:i<rb.length),rb[i].toNat<t.ns.length:=λi h=>by have:=(hm _ (bJ h)).1;omega
 have mo:∀ i (h:i<rb.length),∀ k∈(nodeAt t.ns rb[i].toNat).aq,k∈rb/\rb.idxOf k<i:=λi h k ae=>by have:=aH i h k ae;refine⟨u5 this,?_⟩;obtain⟨q,aM,e⟩:=hM this;rw[fR]at aM;rw[Qh]at e;rw[<-e,ah.idx];omega
 have Cf:∀ a∈rb,∀ b∈rb,k2 rb a=k2 rb b->a=b:=λa a6 b ag e=>by
  unfold k2 at e;have cU:rb.idxOf a=rb.idxOf b:=by omega
  rw[<-Ls (Lr a6),<-Ls (Lr ag)];simp only[cU]
 have eI:eM (rb.map (nR t.ns rb))=rb.flatMap λb=>(nodeAt t.ns b.toNat).aq.map (k2 rb):=by unfold eM;rw[yt];rfl
 have fq:∀ b∈rb,∀ k∈(nodeAt t.ns b.toNat).aq,k∈rb:=λb ag k ae=>by obtain⟨i,hi,rfl⟩:=hM ag;exact(mo i hi k ae).1
 refine⟨by simp[jD];omega,λi hi=>?_,λi hi k ae=>?_,?_,λi hi=>?_⟩
 ·have cG:i<rb.length:=by simpa[jD]using hi
  have aB:=af.fits _ (aD i cG);rw[<-gy (aD i cG)]at aB;simp only[jD,gg];have e:(nR t.ns rb rb[i]).aq.length=(nodeAt t.ns rb[i].toNat).aq.length:=by show((nodeAt t.ns rb[i].toNat).aq.map (k2 rb)).length=_;rw[bE]
  rw[e];exact aB
 ·have cG:i<rb.length:=by simpa[jD]using hi
  simp only[jD,gg]at ae;obtain⟨q,aM,rfl⟩:=c0.1 ae;have:=(mo i cG q aM).2;unfold k2;omega
 ·show hQ (eM (rb.map (nR t.ns rb)));rw[eI];refine Em.2 ⟨λb ag=>?_,?_⟩
  ·have hk:=(hm b ag).1;refine Cj.2 ((af.Zi (j:=b.toNat) (by omega)).imp_of_mem ?_);intro x y ad aE bD e;exact bD (Cf x (fq b ag x ad) y (fq b ag y aE) e)
  ·refine ah.imp_of_mem ?_;intro a b a6 ag bD x ad y aE e;obtain⟨p,vn,rfl⟩:=c0.1 ad;obtain⟨q,wY,rfl⟩:=c0.1 aE;have aK:=Cf p (fq a a6 p vn) q (fq b ag q wY) e;subst aK;have s3:=(hm a a6).1;have hk:=(hm b ag).1;exact af.two (i:=a.toNat) (j:=b.toNat) (by omega) (by omega) (by omega) vn wY
 ·have cG:i<rb.length:=by simpa[jD]using hi
  show(i:Int)∈eM (rb.map (nR t.ns rb)) ↔ (i:Int)≠((rb.map (nR t.ns rb)).length:Int)-1;rw[eI,bE];constructor
  ·intro h e;obtain⟨b,ag,h⟩:=hc.1 h;obtain⟨k,ae,a7⟩:=c0.1 h;have aly:=fq b ag k ae;have ck:k=rb[i]:=by
    rw[<-Ls (Lr aly)];unfold k2 at a7;have:rb.idxOf k=i:=by omega
    simp only[this]
   have dM:i=rb.length-1:=by omega
   subst dM;rw[EJ]at ck;have hk:=(hm b ag).1;have:=af.node (j:=b.toNat) (by omega) ae;omega
  ·intro h;obtain⟨ag,ao⟩:=hm _ (bJ cG);rcases ao with e | ⟨y,aE,Hp,alz⟩
   ·have:=ah.nodup cG (show rb.length-1<rb.length by omega) (e.trans EJ.symm);omega
   ·refine hc.2 ⟨y,aE,c0.2 ⟨rb[i],by simpa using alz,?_⟩⟩;unfold k2;rw[ah.idx]
end
structure bh where
 a:BitVec 64
 b:BitVec 64
 c:BitVec 64
 d:BitVec 64
 deriving DecidableEq
def bh.zero:bh:=⟨0,0,0,0⟩
def bh.or(x y:bh):bh:=⟨x.a ||| y.a,x.b ||| y.b,x.c ||| y.c,x.d ||| y.d⟩
def bh.and(x y:bh):bh:=⟨x.a &&& y.a,x.b &&& y.b,x.c &&& y.c,x.d &&& y.d⟩
def bh.sub(x y:bh):Bool:=decide (x.and y=x)
def bh.cells(x:bh):List Value:=[.int .u64 x.a.toNat,.int .u64 x.b.toNat,.int .u64 x.c.toNat,.int .u64 x.d.toNat]
def bh.val(x:bh):Value:=.agg #[.int .u64 x.a.toNat,.int .u64 x.b.toNat,.int .u64 x.c.toNat,.int .u64 x.d.toNat]
structure ee where
 w:bh
 f:Bool
 deriving DecidableEq
def ee.cells(x:ee):List Value:=[.int .u64 x.w.a.toNat,.int .u64 x.w.b.toNat,.int .u64 x.w.c.toNat,.int .u64 x.w.d.toNat,.bool x.f]
def ee.val(x:ee):Value:=.agg #[.int .u64 x.w.a.toNat,.int .u64 x.w.b.toNat,.int .u64 x.w.c.toNat,.int .u64 x.w.d.toNat,.bool x.f]
def ee.cH(x:ee):x.cells.length=5:=rfl
def r1:ee:=⟨.zero,false⟩
def Zo:ee:=⟨.zero,true⟩
def ee.seq(a b:ee):ee:=bif a.f then⟨a.w.or b.w,b.f⟩else a
def ee.choice(a b:ee):ee:=⟨a.w.or b.w,a.f||b.f⟩
def bh.ext'{x y:bh}(aa:x.a=y.a)(ab:x.b=y.b)(ai:x.c=y.c)(aL:x.d=y.d):x=y:=by obtain⟨a,b,c,d⟩:=x;obtain⟨bN,jb,c',d'⟩:=y;simp only at aa ab ai aL;subst aa ab ai aL;rfl
def bh.or_assoc(x y z:bh):(x.or y).or z=x.or (y.or z):=by simp only[bh.or,BitVec.or_assoc]
def bh.or_comm(x y:bh):x.or y=y.or x:=by simp only[bh.or,BitVec.or_comm]
def bh.or_self(x:bh):x.or x=x:=by simp[bh.or]
def bh.zero_or(x:bh):bh.zero.or x=x:=by simp[bh.or,bh.zero]
def Aj{x y:BitVec 64}:x &&& y=x ↔ x ||| y=y:=by
 constructor
 ·intro h;apply BitVec.eq_of_getElem_eq;intro i hi;have:=congrArg (λw:BitVec 64=>w[i]) h;simp only[BitVec.getElem_and,BitVec.getElem_or]at this |-;revert this;cases x[i]<;>cases y[i]<;>simp
 ·intro h;apply BitVec.eq_of_getElem_eq;intro i hi;have:=congrArg (λw:BitVec 64=>w[i]) h;simp only[BitVec.getElem_and,BitVec.getElem_or]at this |-;revert this;cases x[i]<;>cases y[i]<;>simp
def bh.Ib{x y:bh}:x.sub y=true ↔ x.or y=y:=by
 unfold bh.sub;rw[hS];constructor
 ·intro h;have aa:=congrArg bh.a h;have ab:=congrArg bh.b h;have ai:=congrArg bh.c h;have aL:=congrArg bh.d h;exact bh.ext' (Aj.1 aa) (Aj.1 ab) (Aj.1 ai) (Aj.1 aL)
 ·intro h;have aa:=congrArg bh.a h;have ab:=congrArg bh.b h;have ai:=congrArg bh.c h;have aL:=congrArg bh.d h;exact bh.ext' (Aj.2 aa) (Aj.2 ab) (Aj.2 ai) (Aj.2 aL)
def bh.alA(x:bh):x.sub x=true:=bh.Ib.2 x.or_self
def bh.alB{x y z:bh}(h:x.sub y=true)(bj:y.sub z=true):x.sub z=true:=by rw[bh.Ib]at h bj |-;rw[<-bj,<-bh.or_assoc,h]
def bh.QZ{x y:bh}(h:x.sub y=true)(bj:y.sub x=true):x=y:=by rw[bh.Ib]at h bj;exact bj.symm.trans ((bh.or_comm y x).trans h)
def bh.Zp(x y:bh):x.sub (x.or y)=true:=by rw[bh.Ib,<-bh.or_assoc,bh.or_self]
def bh.zero_sub(x:bh):bh.zero.sub x=true:=by rw[bh.Ib,bh.zero_or]
structure Zq(I:aJ)(M:List aF)(a:Option Addr)(n:Nat)(ks:List ee):Prop where
 n:ks.length=n
 rd:∀ j (h:j<ks.length),∃ aP,a=some aP/\cY I M (aP.add (j*5)) 5 ks[j].cells
structure ee.le(a b:ee):Prop where
 w:a.w.sub b.w=true
 f:a.f=true->b.f=true
def ee.le_refl(a:ee):a.le a:=⟨bh.alA _,id⟩
def ee.le.trans{a b c:ee}(h:a.le b)(bj:b.le c):a.le c:=⟨bh.alB h.w bj.w,λx=>bj.f (h.f x)⟩
def ee.le.antisymm{a b:ee}(h:a.le b)(bj:b.le a):a=b:=by
 have aa:=bh.QZ h.w bj.w;obtain⟨axk,Q0⟩:=a;obtain⟨axl,qT⟩:=b;simp only at aa;subst aa;have aB:=h.f;have wF:=bj.f;cases Q0<;>cases qT<;>simp_all
def ee.nP(a:ee):r1.le a:=⟨bh.zero_sub _,λh=>by cases h⟩
def CA(x:BitVec 64):BitVec.ofInt 64 (x.toNat:Int)=x:=by rw[BitVec.ofInt_natCast,BitVec.ofNat_toNat,BitVec.setWidth_eq]
def Q1(x:BitVec 64):IntKind.u64.wrap (x.toNat:Int)=(x.toNat:Int):=by have:=x.isLt;unfold IntKind.wrap;simp only[IntKind.bits,IntKind.signed];simp;omega
def EK{x y:BitVec 64}:((x.toNat:Int) == (y.toNat:Int))=decide (x=y):=by rw[tj];simp[BitVec.toNat_eq];omega
def bh.lP(x y:bh):(((x.a.toNat:Int) == y.a.toNat)&&(((x.b.toNat:Int) == y.b.toNat)&&(((x.c.toNat:Int) == y.c.toNat)&&((x.d.toNat:Int) == y.d.toNat))))=decide (x=y):=by obtain⟨a,b,c,d⟩:=x;obtain⟨bN,jb,c',d'⟩:=y;rw[EK,EK,EK,EK,tj];simp[and_assoc]
def alC{x:Int}(h:0<=x/\x<18446744073709551616):∃ w:BitVec 64,x=(w.toNat:Int):=by refine⟨BitVec.ofNat 64 x.toNat,?_⟩;rw[En,Eo (by omega)];omega
structure Ic(α:Type) where
 le:α->α->Prop
 nP:α
 refl:∀ a,le a a
 trans:∀ {a b c},le a b->le b c->le a c
 Zr:∀ {a b},le a b->le b a->a=b
 low:∀ a,le nP a
structure r2{α:Type}(O:Ic α)(l m:List α):Prop where
 len:l.length=m.length
 at':∀ i,O.le (l.getD i O.nP) (m.getD i O.nP)
section
variable{α:Type}{O:Ic α}
def r2.refl(l:List α):r2 O l l:=⟨rfl,λ_=>O.refl _⟩
def r2.trans{a b c:List α}(h:r2 O a b)(bj:r2 O b c):r2 O a c:=⟨h.len.trans bj.len,λi=>O.trans (h.at' i) (bj.at' i)⟩
def r2.of{a b:List α}(aA:a.length=b.length)(h:∀ i,i<a.length->O.le (a.getD i O.nP) (b.getD i O.nP)):r2 O a b:=⟨aA,λi=>by
 by_cases hi:i<a.length
 ·exact h i hi
 ·have e:a.getD i O.nP=O.nP:=by simp[bM,qv (Nat.le_of_not_lt hi)]
  rw[e];exact O.low _⟩
def Q2(l:List α)(b:α)(i j:Nat)(x:α)(hi:i<l.length):(l.set i x).getD j b=if i=j then x else l.getD j b:=by
 simp only[bM,iv];by_cases e:i=j
 ·subst e;simp[hi]
 ·rw[bP e,bP e]
structure Q3(O:Ic α)(n:Nat)(body:List α->Nat->α)(l:List α):Prop where
 len:l.length=n
 up:∀ i,i<n->O.le (l.getD i O.nP) (body l i)
 least:∀ m:List α,m.length=n->(∀ i,i<n->O.le (body m i) (m.getD i O.nP))->r2 O l m
structure alD(O:Ic α)(n:Nat)(body:List α->Nat->α)(l:List α):Prop where
 len:l.length=n
 fix:∀ i,i<n->l.getD i O.nP=body l i
 least:∀ m:List α,m.length=n->(∀ i,i<n->O.le (body m i) (m.getD i O.nP))->r2 O l m
section
variable{n:Nat}{body:List α->Nat->α}(LV:∀ {l m:List α},r2 O l m->∀ i,i<n->O.le (body l i) (body m i))
include LV
theorem Q3.step{l:List α}(h:Q3 O n body l){i:Nat}(hi:i<n):Q3 O n body (l.set i (body l i))/\r2 O l (l.set i (body l i)):=by
 have ed:i<l.length:=by rw[h.len];exact hi
 have bk:r2 O l (l.set i (body l i)):=.of (by simp) λj ak=>by
  rw[Q2 _ _ _ _ _ ed];by_cases e:i=j;·subst e;rw[bT rfl];exact h.up i hi
  ·rw[bP e];exact O.refl _
 refine⟨⟨by simpa using h.len,λj ak=>?_,λm hm ao=>?_⟩,bk⟩
 ·rw[Q2 _ _ _ _ _ ed];by_cases e:i=j
  ·subst e;rw[bT rfl];exact LV bk _ hi
  ·rw[bP e];exact O.trans (h.up j ak) (LV bk _ ak)
 ·have H5:=h.least m hm ao;refine .of (by simp[h.len,hm]) λj ak=>?_;rw[Q2 _ _ _ _ _ ed];by_cases e:i=j
  ·subst e;rw[bT rfl];exact O.trans (LV H5 _ hi) (ao i hi)
  ·rw[bP e];exact H5.at' j
end
end
def Zs{α:Type}{p q:α->Bool}:∀ {l:List α},(∀ x∈l,p x=true->q x=true)->l.countP q<=l.countP p->∀ x∈l,q x=true->p x=true
 |[],_,_,x,ad,_=>by cases ad
 |y::l,h,bk,x,ad,aM=>by
  have hm:=List.countP_mono_left (p:=p) (q:=q) (l:=l) (λx ad=>h x (.tail _ ad));rw[List.countP_cons,List.countP_cons]at bk;have aE:=h y (.head _);have key:(q y=true->p y=true)/\l.countP q<=l.countP p:=by cases aH:p y<;>cases axm:q y<;>simp_all<;>omega
  rcases eA.1 ad with rfl | ad;·exact key.1 aM
  ·exact Zs (λx ad=>h x (.tail _ ad)) key.2 x ad aM
def Ie(x:BitVec 64):Nat:=(List.range 64).countP λi=>!x.getLsbD i
def alE{x y:BitVec 64}(h:x &&& y=x):Ie y<=Ie x/\(Ie x<=Ie y->x=y):=by
 have ag:∀ i,x.getLsbD i=true->y.getLsbD i=true:=λi ad=>by have:=congrArg (λw:BitVec 64=>w.getLsbD i) h;simp only[Qe,ad,qJ]at this;exact this
 have aH:∀ i∈List.range 64,(!y.getLsbD i)=true->(!x.getLsbD i)=true:=λi _ hi=>by
  have aa:=ag i;cases ad:x.getLsbD i with
  |false=>rfl| true=>rw[aa ad]at hi;cases hi
 refine⟨List.countP_mono_left aH,λbk=>?_⟩;have:=Zs aH bk;apply Qc;intro i hi;have aa:=ag i;have ab:=this i (j0.2 hi);cases ad:x.getLsbD i<;>cases aE:y.getLsbD i<;>simp_all
def Q4:Ic ee:=⟨ee.le,r1,ee.le_refl,λh bj=>h.trans bj,λh bj=>h.antisymm bj,ee.nP⟩
def bh.one(i:Nat)(x:BitVec 64):bh:=⟨bif decide (i=0)then x else 0,bif decide (i=1)then x else 0,bif decide (i=2)then x else 0,bif decide (i=3)then x else 0⟩
def vq(b:UInt8):bh:=.one (b.toNat/64) (1#64 <<< (b.toNat%64))
def oc(l:List UInt8):bh:=l.foldl (λw b=>w.or (vq b)) .zero
def al.ws(d:al):bh:=⟨BitVec.ofInt 64 d.cz,BitVec.ofInt 64 d.s1,BitVec.ofInt 64 d.s2,BitVec.ofInt 64 d.cV⟩
def alF(d:al)(k:ee):ee:=bif decide (d.hi=0)then Zo else⟨k.w,k.f||decide (d.lo=0)⟩
def alG(ks:List ee):ee:=ks.foldl ee.seq Zo
def alH(ks:List ee):ee:=ks.foldl ee.choice r1
def alI(t:ByteArray):ee:=⟨oc (t.data.toList.take 1),false⟩
def alJ(d:al)(x:aR)(ks:List ee):ee:=
 bif decide (d.k=0)then⟨.zero,x.hO⟩else
 bif decide (d.k=1)then⟨d.ws,false⟩else
 bif decide (d.k=2)then alI d.t else
 bif decide (d.k=3)then ks.headD r1 else
 bif decide (d.k=4)then alG ks else
 bif decide (d.k=5)then alH ks else
 bif decide (d.k=6)then alF d (ks.headD r1)else
 bif decide (d.k=7)then⟨.zero,x.hO⟩else
 bif decide (d.k=8)then⟨.zero,x.hO⟩else ks.headD r1
def w1(pl:List (ByteArray×Int))(bp aZ:List ee)(d:al):List ee:=
 d.aq.map (λk=>aZ.getD k.toNat r1)++bif decide (d.k=3)then [bp.getD ((eQ d.t pl).getD 0).toNat r1]else []
def If(pl:List (ByteArray×Int))(bp:List ee)(xs:List aR):List al->List ee->List ee
 |[],aZ=>aZ| d::ds,aZ=>If pl bp xs ds (aZ++[alJ d (xs.getD aZ.length ch) (w1 pl bp aZ d)])
def Zt(pl:List (ByteArray×Int))(bp:List ee)(xs:List aR):∀ (ds:List al) (aZ:List ee),(If pl bp xs ds aZ).length=aZ.length+ds.length
 |[],aZ=>rfl| d::ds,aZ=>by rw[If,Zt];simp;omega
def axn.map{f g:α->ee}{l:List α}(h:∀ x∈l,(f x).le (g x)):r2 Q4 (l.map f) (l.map g):=.of (by simp) λi hi=>by
 have cG:i<l.length:=by simpa using hi
 have:=h _ (bJ cG);simpa[bM,cG]using(show Q4.le _ _ from this)
def alK(pl:List (ByteArray×Int))(F:List aR)(ds:List a0)(l:List ee)(i:Nat):ee:=match ds[i]? with
 |some d=>(If pl l (ev pl F d.t.ns []) d.t.ns []).getD d.t.br.toNat r1| none=>r1
def alL(ds:List a0)(F:List aR)(l:List ee):Prop:=alD Q4 ds.length (alK (bL ds) F ds) l
structure vr(x:aR)(k:ee):Prop where
 z:x.z=true->k.f=true
 s:x.s=true->k.w≠.zero
def vr.none(k:ee):vr ch k:=⟨λh=>(by cases h),λh=>(by cases h)⟩
def vr.hO{x:aR}{k:ee}(h:vr x k)(av:x.hO=true):k.f=true\/k.w≠.zero:=by simp only[aR.hO,kq]at av;exact av.imp h.z h.s
inductive ue:List aR->List ee->Prop
 |nil:ue [] []| cons {x k l m} (h:vr x k) (t:ue l m):ue (x::l) (k::m)
def ue.getD:∀ {l:List aR} {m:List ee},ue l m->∀ i,vr (l.getD i ch) (m.getD i r1)
 |_,_,.nil,i=>by simpa using vr.none r1
 |_,_,.cons h t,0=>h| _,_,.cons h t,i+1=>by simpa using t.getD i
def ue.len:∀ {l:List aR} {m:List ee},ue l m->l.length=m.length
 |_,_,.nil=>rfl| _,_,.cons h t=>by simp[t.len]
def ue.head{l:List aR}{m:List ee}(h:ue l m):vr (l.headD ch) (m.headD r1):=by
 cases h with
 |nil=>exact vr.none _| cons h t=>exact h
def ue.map{α:Type}{f:α->aR}{g:α->ee}:∀ {l:List α},(∀ x∈l,vr (f x) (g x))->ue (l.map f) (l.map g)
 |[],_=>.nil| x::l,h=>.cons (h x (.head _)) (ue.map λy aE=>h y (.tail _ aE))
def Q5{x y:bh}(h:x≠.zero\/y≠.zero):x.or y≠.zero:=by
 intro e;have ad:x=.zero:=bh.QZ (by rw[<-e];exact bh.Zp x y) (bh.zero_sub _);have aE:y=.zero:=bh.QZ (by rw[<-e,bh.or_comm];exact bh.Zp y x) (bh.zero_sub _);rcases h with h | h
 ·exact h ad
 ·exact h aE
structure Q6(p:aR×Bool)(k:ee):Prop where
 z:p.1.z=true->k.f=true
 s:p.1.s=true->p.2=true->k.w≠.zero
 c:p.2=true->k.f=true\/k.w≠.zero
def Q6.step{p:aR×Bool}{k:ee}{x:aR}{y:ee}(h:Q6 p k)(ad:vr x y):Q6 (kd p x) (k.seq y):=by
 obtain⟨⟨axo,ps,axp⟩,pc⟩:=p;obtain⟨aa,ab,ai⟩:=h;obtain⟨axq,xs,axr⟩:=x;have av:=ad.hO;obtain⟨a',bg⟩:=ad;obtain⟨axs,HX⟩:=k;obtain⟨axt,axu⟩:=y;simp only[kd,aR.hO]at *;cases HX with
 |false=>
  simp only[ee.seq,cb];refine⟨?_,?_,?_⟩;·intro h;simp only[cw]at h;exact aa h.1
  ·intro _ h;simp only[cw]at h;exact(ai h.1).resolve_left (by simp)
  ·intro h;simp only[cw]at h;exact .inr ((ai h.1).resolve_left (by simp))
 |true=>
  simp only[ee.seq,cp];refine⟨?_,?_,?_⟩;·intro h;simp only[cw]at h;exact a' h.2
  ·intro h bj;simp only[kq,cw]at h bj;rcases h with h | h
   ·exact Q5 (.inl (ab h bj.1))
   ·exact Q5 (.inr (bg h))
  ·intro h;simp only[cw]at h;rcases av h.2 with e | e
   ·exact .inl e
   ·exact .inr (Q5 (.inr e))
structure p2(t:bn)(k:Int)(bf:bn):Prop where
 a1:bf.ns.map al.a1=wU t.ns k
 br:bf.br=(bf.ns.length:Int)-1
def Zu(af:right t=true){j:Nat}(ak:j<t.ns.length)(h:p2 t j bf):right bf=true:=by
 have aa:=jm.2 (alx (jm.1 af) ak);have aA:=congrArg List.length h.a1;rw[bE]at aA;have ab:right bf.a1=right (jD (wU t.ns j)):=by unfold right bn.a1 jD;simp only[h.a1,h.br,aA]
 rw[ud]at ab;rw[ab,aa]
def Zv(af:right t=true){j:Nat}(ak:j<t.ns.length)(h:p2 t j bf):bf.ns.length=l4 t.ns j:=by have aA:=congrArg List.length h.a1;rw[bE,EH (jm.1 af) ak,bE,QY (jm.1 af) j ak]at aA;exact aA
def ke:List (aR×List Nat)->List Nat
 |[]=>[]| x::xs=>x.2++bif x.1.z then ke xs else []
def lA(pl:List (ByteArray×Int))(d:al)(xs:List (aR×List Nat)):List Nat:=
 bif decide (d.k=3)then [((eQ d.t pl).getD 0).toNat]else
 bif decide (d.k=4)then ke xs else
 bif decide (d.k=6)&&decide (d.hi=0)then []else xs.flatMap (·.2)
def r3(pl:List (ByteArray×Int))(F:List aR)(d:al)(xs:List (aR×List Nat)):aR×List Nat:=
 (gD d (xs.map (·.1)++bif decide (d.k=3)then [F.getD ((eQ d.t pl).getD 0).toNat ch]else []),lA pl d xs)
def gz(pl:List (ByteArray×Int))(F:List aR)(ns:List al)(j:Int):aR×List Nat:=mv (ch,[]) (λd g=>r3 pl F d (d.aq.map g)) ns j
def Q7{F:List aR}(af:right t=true){j:Nat}(ak:j<t.ns.length):gz pl F t.ns j=r3 pl F t.ns[j] (t.ns[j].aq.map (gz pl F t.ns)):=
 Ea (λd g eu h=>by rw[fT h]) af ak
def alM(pl:List (ByteArray×Int))(F:List aR)(ns:List al)(j:Int):gz pl F (ns.map al.a1) j=gz pl F ns j:=by unfold gz mv;rw[H9 (f:=λd g=>r3 pl F d (d.aq.map g)) (g:=λd g=>r3 pl F d (d.aq.map g)) (λd q=>rfl)]
def Zw(aZ:List (aR×List Nat))(i:Nat):(aZ.getD i (ch,[])).1=(aZ.map (·.1)).getD i ch:=by
 simp only[bM,ju];cases aZ[i]?<;>rfl
def Zx(pl:List (ByteArray×Int))(F:List aR):∀ (ds:List al) (aZ:List (aR×List Nat)),(fH (ch,[]) (λd g=>r3 pl F d (d.aq.map g)) ds aZ).map (·.1)=ev pl F ds (aZ.map (·.1))
 |[],aZ=>rfl
 |d::ds,aZ=>by
  have aK:(r3 pl F d (d.aq.map λk=>aZ.getD k.toNat (ch,[]))).1=gD d (sY pl F (aZ.map (·.1)) d):=by unfold r3 sY;simp only[gh,Function.comp_def,Zw]
  have aa:=Zx pl F ds (aZ++[r3 pl F d (d.aq.map λk=>aZ.getD k.toNat (ch,[]))]);rw[cS,ca,hH,aK]at aa;rw[fH,aa,ev]
def Q8(pl:List (ByteArray×Int))(F:List aR)(ns:List al)(j:Int):(gz pl F ns j).1=(ev pl F ns []).getD j.toNat ch:=by have h:=Zx pl F ns [];unfold gz mv;rw[Zw,h];rfl
abbrev et:=BitVec 64
def lB(k:Nat):et:=1#64 <<< k
def LW{k i:Nat}(hi:i<64):(lB k).getLsbD i=decide (i=k):=by
 unfold lB;rw[BitVec.getLsbD_shiftLeft];simp only[hi,Lu,qJ];by_cases h:i<k
 ·have bD:¬ i=k:=by omega
  simp[h,bD]
 ·simp only[h,decide_false,Bool.not_false,qJ];by_cases e:i=k
  ·subst e;simp
  ·rw[fo e];have ab:0<i-k:=by omega
   rw[BitVec.getLsbD_one];simp;omega
def alN(l:List Nat):∀ (w:et) {i:Nat},i<64->(l.foldl (λw k=>w ||| lB k) w).getLsbD i=(w.getLsbD i||l.contains i):=by
 induction l with
 |nil=>intro w i hi;simp| cons k l aN=>intro w i hi;rw[kl,aN _ hi,Ck,LW hi,List.contains_cons,Bool.or_assoc];rfl
def nc(m:List et):Nat->Nat->et->et
 |_,0,w=>w| k,f+1,w=>nc m (k+1) f (bif w.getLsbD k then w ||| m.getD k 0 else w)
def r4(m:List et):List et:=(List.range 64).map λi=>nc m 0 64 (m.getD i 0)
inductive qU(m:List et):Nat->Nat->Prop
 |one{i k}(ae:k<64)(h:(m.getD i 0).getLsbD k=true):qU m i k| step {i j k} (h:(m.getD i 0).getLsbD j=true) (ak:j<64) (t:qU m j k):qU m i k
def qU.trans{m:List et}{i j k:Nat}(h:qU m i j)(bj:qU m j k):qU m i k:=by
 induction h with
 |one ae h=>exact .step h ae bj| step h ak t aN=>exact .step h ak (aN bj)
end Go.V
