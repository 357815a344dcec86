/- Part 4 of what the proofs of this seat share: the executor, data in memory, walks.
-/
import Derived.Test.YtmncamccjfmbpaaGreatDoorK3
import Derived.ChangeSame
import Derived.ChangeArms
import Derived.OpenShut
import Derived.Deep.DeepHandedRow
import Derived.Lib.LaidTab
import Derived.Test.YtmncamccjfmbpaaGreatDoorRows
import Derived.Test.YtmncamccjfmbpaaGreatDoorCards
import Derived.Test.YtmncamccjfmbpaaGreatDoorTie
import Derived.WalkKit
import Derived.ProofKit
import Derived.WideKeyArgs
import Derived.Below
import Derived.JoinedOf
set_option linter.all false
set_option maxHeartbeats 16000000
set_option maxRecDepth 100000
namespace Go.V
open Go Go.Proofs
def eu:=@of_decide_eq_false
def fm:=@Option.some.inj
def g6:=@List.mem_flatMap
def jv:=@List.getElem_of_mem
def gh:=@List.map_map
def mN:=@List.perm_middle
def ua:=@List.sublist_append_left
def n4:=@List.length_set
def r4:=@List.foldl_append
def z3:=@List.getElem_append_left
def Cn:=@List.perm_append_comm_assoc
def vl:=@List.getElem_range
def p3:=@Nat.sub_self
def n5:=@Nat.ble_eq
def ym:=@Nat.le_of_succ_le
def HL:=@List.set_append_right
def Co:=@List.range_succ
def HM:=@List.replicate_succ
def HN:=@List.set_cons_zero
def Ez:=@Bool.and_false
def Qo:=@List.eq_of_mem_replicate
def Qp:=@List.length_take_of_le
def Qq:=@List.getLast?_concat
def Qr:=@List.dropLast_concat
def Qs:=@DataW.trod_string
def Qt:=@List.flatten_cons
def Lw:=@Prod.mk.injEq
def Qu:=@DataW.trod_array
def Lx:=@Nat.sub_zero
def Ly:=@decide_true
variable{I I':aM}{M:List aE}{e size c f sz fb:Nat}{al:List Int}{g:cD}{os:aY}{xs aS vs cs:List Value}{v:Value}{α:Type}{t:TypeId}{L:List (List Int)}{z:Bool}{X:cV}{F:Fr}{C:dF}{cap:Array Value}{P:Program}{W lj:World}{cR:Array Field}{rows:List (List Value)}{x y:Operand}{other:Prop}{c7 tN:dH}{pl:List (ByteArray×Int)}
def qV:Nat->List aP->List (Nat×ap)
 |_,[]=>[]| i,d::ds=>d.t.ns.map (λn=>(i,n))++qV (i+1) ds
def HO:∀ (ds:List aP) (i:Nat),t' i ds=(qV i ds).map λp=>[.int .i64 p.1,p.2.val]
 |[],i=>rfl| d::ds,i=>by simp only[t',qV,cP,gh,HO ds (i+1)];rfl
def nr(ds:List aP):Bool:=ds.all λd=>jW d.name&&normal d.t
def mc:List (ByteArray×Int)->Nat->List aP->Option (List (ByteArray×Int))
 |aZ,_,[]=>some aZ| aZ,i,d::ds=>bif (eD d.name aZ).isSome then none else mc (aZ++[(d.name,(i:Int))]) (i+1) ds
def z4(aZ:List (ByteArray×Int))(n:ap):Bool:=!decide (n.k=3)||(eD n.t aZ).isSome
def qW(aZ:List (ByteArray×Int))(ds:List aP):Bool:=(qV 0 ds).all λp=>z4 aZ p.2
def dj(al:List Int)(g:cD):Int:=
 bif decide ((g.n:Int)=0)then 4 else bif !nr g.ds then 4 else bif mL al g then 40 else
 match mc [] 0 g.ds with
 |none=>6| some aZ=>bif qW aZ g.ds then 0 else 41
def vm(b:Nat)(e:Int):aE:=⟨b,.cells #[.int .i64 e] 27 (0,0)⟩
def Cp{b:Nat}{e:Int}(h:vm b e∈M):cO I M ⟨b,0,none⟩ 1 [.int .i64 e]:=
 ⟨rfl,_,_,_,.inr ⟨_,h,rfl,rfl⟩,rfl,rfl⟩
def HP(w:World):(zeroValue 3).run Tryz.prog w=.ok (.int .i64 0) w:=by
 have h:(Tryz.prog.info? 3).map (λi=>i.zero)=some (some (.int .i64 0)):=by kernel_rfl
 obtain⟨i,aa,ab⟩:=sB.1 h;simp[zeroValue,typeInfo,aa,ab]
def Qv(bp:fW I al)(av:g.ok I):Spec Tryz.prog 17 [g.val] I [] (λv I' M'=>v=.int .i64 (dj al g)/\(∀ b o,I b=some o->I' b=some o)/\M'=[]):=by
 refine cg [2,5] a7 Tryz.func17 rfl rfl rfl ?_;intro B az;have fl:=av.n;have jJ:=av.a2.cap;refine b'.mk λbT gS Lz=>?_;refine a3.mk (λaa=>?_) (λaa=>?_)
 ·refine b8.mk [] [] _ _ rfl rfl (bI rfl) rfl ?_;refine aR.mk _ (Cp (b:=bT) (e:=4) (.head _)) ?_;refine⟨_,_,.sub (fk _) .refl,?_,λ_ _ h=>h,rfl⟩;rw[dj,aa];rfl
 ·have m6:g.n≠0:=by simp at aa;omega
  refine dg.inv (ι:=Nat) (λi=>{ bj:=[(1,.ref 1 0),(2,.val (ptr bT)),(19,.val (.slice g.a g.n g.c)),(20,.val (.int .i64 g.n)),(21,.val (.int .i64 i))],cl:=[(1,[.slice g.a g.n g.c])],cI:=I,de:=[vm bT 0] }) (λi=>i<=g.n/\nr (g.ds.take i)=true) (λi=>g.n-i) ?_ ?_;·exact⟨0,⟨by simp,rfl⟩,.refl,hv,.cons rfl .nil⟩
  ·rintro i⟨hi,gU⟩;refine a3.mk (λh=>?_) (λh=>?_)
   ·have a1:i<g.n:=by simpa using h
    have cq:i<g.ds.length:=by omega
    obtain⟨aU,bK,bm⟩:=av.a2.row aP.cT a1 cq;have gb:g.ds[i]∈g.ds:=bi cq;have bad:(jW g.ds[i].name&&normal g.ds[i].t)=false->dj al g=4:=λag=>by
     have:nr g.ds=false:=by unfold nr;rw[K'];exact⟨_,gb,by simp[ag]⟩
     rw[dj,aa,this];rfl
    refine bf.mk aU i bK rfl a1 ?_;refine aR.mk _ (bm _) ?_;refine bd.mk [] [vm bT 0] _ (.refl _) (PP _ g.ds[i].name) ?_;rintro v I' M' -⟨rfl,rfl,rfl⟩;refine cj.mk (λab=>?_) (λab=>?_)
    ·have hm:jW g.ds[i].name=true:=by simpa using ab
     refine bd.mk [] [vm bT 0] _ (.refl _) (ai3 bp.c (av.ds _ gb).t) ?_;rintro v I' M' -⟨rfl,rfl,rfl⟩;refine a3.mk (λaj=>?_) (λaj=>?_)
     ·have dN:normal g.ds[i].t=false:=by simpa using aj
      refine b8.mk [] [] _ _ rfl rfl (bI rfl) rfl ?_;refine aR.mk _ (Cp (b:=bT) (e:=4) (.head _)) ?_;refine⟨_,_,.sub (fk _) .refl,?_,λ_ _ h=>h,rfl⟩;rw[bad (by rw[hm,dN];rfl)];rfl
     ·have dN:normal g.ds[i].t=true:=by simpa using aj
      refine bg.mk _ (cL (i:=i) (by omega)) ?_;refine⟨i+1,⟨⟨by omega,?_⟩,by omega⟩,.refl,hv,.cons rfl .nil⟩;unfold nr at gU |-;rw[gy cq,Ho,gU];simp[hm,dN]
    ·have hm:jW g.ds[i].name=false:=by simpa using ab
     refine b8.mk [] [] _ _ rfl rfl (bI rfl) rfl ?_;refine aR.mk _ (Cp (b:=bT) (e:=4) (.head _)) ?_;refine⟨_,_,.sub (fk _) .refl,?_,λ_ _ h=>h,rfl⟩;rw[bad (by rw[hm];rfl)];rfl
   ·have cJ:g.n<=i:=by simpa using h
    rw[fN (by omega)]at gU;refine bd.mk [] [vm bT 0] _ (.refl _) (ai5 bp av) ?_;rintro v I1 M' -⟨rfl,cu,rfl⟩;refine a3.mk (λab=>?_) (λab=>?_);·refine b8.mk [] [] _ _ rfl rfl (bI rfl) rfl ?_;refine aR.mk _ (Cp (b:=bT) (e:=40) (.head _)) ?_;refine⟨_,_,.sub (fk _) .refl,?_,cu,rfl⟩;rw[dj,aa,gU,ab];rfl
    ·have ajc:dj al g=match mc [] 0 g.ds with
       |none=>6| some aZ=>bif qW aZ g.ds then 0 else 41:=by
      rw[dj,aa,gU,ab];rfl
     rw[ajc];have p0:=av.mono cu;refine bB.makeMap a7 rfl (by simp) rfl rfl rfl λj0=>?_;refine b'.mk λeP z5 EA=>?_;refine b8.mk [] [⟨j0,jL []⟩,vm bT 0] _ _ rfl rfl (bI rfl) rfl ?_;refine dg.inv (ι:=Nat×List (ByteArray×Int)) (λx=>{ bj:=[(1,.ref 1 0),(2,.val (ptr bT)),(5,.val (ptr eP)),(43,.val (.slice g.a g.n g.c)),(44,.val (.int .i64 g.n)),(45,.val (.int .i64 x.1))],cl:=[(1,[.slice g.a g.n g.c])],cI:=I1,de:=[⟨eP,.cells #[.map (some j0)] 102 (0,0)⟩,⟨j0,jL x.2⟩,vm bT 0] }) (λx=>x.1<=g.n/\mc [] 0 g.ds=mc x.2 x.1 (g.ds.drop x.1)) (λx=>g.n-x.1) ?_ ?_;·exact⟨(0,[]),⟨by simp,rfl⟩,.refl,oX,.cons rfl .nil⟩
     ·rintro⟨i,aZ⟩⟨hi,oi⟩;simp only at hi oi;refine a3.mk (λh=>?_) (λh=>?_)
      ·have a1:i<g.n:=by simpa using h
       have cq:i<g.ds.length:=by omega
       obtain⟨aU,bK,bm⟩:=p0.a2.row aP.cT a1 cq;have jn:g.ds.drop i=g.ds[i]::g.ds.drop (i+1):=e1 cq;refine bf.mk aU i bK rfl a1 ?_;refine aR.mk _ (bm _) ?_;refine aR.mk [.map (some j0)] ⟨rfl,_,_,_,.inr ⟨_,.head _,rfl,rfl⟩,rfl,rfl⟩ ?_;refine bB.lookup a7 rfl (by simp) rfl rfl rfl rfl (λw=>HP w) (l:=aZ) (g:=j0) rfl rfl (by simp) ?_;refine a3.mk (λaj=>?_) (λaj=>?_);·refine b8.mk [⟨eP,.cells #[.map (some j0)] 102 (0,0)⟩,⟨j0,jL aZ⟩] [] _ _ rfl rfl (bI rfl) rfl ?_;refine aR.mk _ (Cp (b:=bT) (e:=6) (.tail _ (.tail _ (.head _)))) ?_;refine⟨_,_,.sub (fk _) .refl,?_,cu,rfl⟩;rw[oi,jn,mc,aj];rfl
       ·have ay:eD g.ds[i].name aZ=none:=by simpa using aj
        refine aR.mk [.map (some j0)] ⟨rfl,_,_,_,.inr ⟨_,.head _,rfl,rfl⟩,rfl,rfl⟩ ?_;refine bB.XO a7 rfl rfl rfl rfl rfl rfl rfl rfl rfl ay (Mr:=[⟨eP,.cells #[.map (some j0)] 102 (0,0)⟩,vm bT 0]) (List.Perm.swap _ _ _) ?_;refine bg.mk _ (cL (i:=i) (by omega)) ?_;refine⟨(i+1,aZ++[(g.ds[i].name,(i:Int))]),⟨⟨by simp only;omega,?_⟩,by simp only;omega⟩,.perm (List.Perm.swap _ _ _) .refl,oX,.cons rfl .nil⟩;simp only;rw[oi,jn,mc,aj];rfl
      ·have XP:g.n<=i:=by simpa using h
       have fu:mc [] 0 g.ds=some aZ:=by rw[oi,ki (by omega),mc]
       rw[fu];refine bd.mk [] [⟨eP,.cells #[.map (some j0)] 102 (0,0)⟩,⟨j0,jL aZ⟩,vm bT 0] _ (.refl _) (ai6 g) ?_;rintro v dz dm -⟨cK,rfl,EB,et,rfl⟩;have ld:=p0.mono et;have LA:∀ b o,I b=some o->dz b=some o:=λb o h=>et _ _ (cu _ _ h);refine c4.range a7 rfl rfl rfl .refl (ai7 ld EB) (λvs h=>?_) (λk I' M'=>(∀ b o,dz b=some o->I' b=some o)/\((qV 0 g.ds).take k).all (λp=>z4 aZ p.2)=true/\M'=[⟨eP,.cells #[.map (some j0)] 102 (0,0)⟩,⟨j0,jL aZ⟩,vm bT 0]) (λex I' M'=>ex=.ret/\(∀ b o,dz b=some o->I' b=some o)/\qW aZ g.ds=false/\M'=[⟨eP,.cells #[.map (some j0)] 102 (0,0)⟩,⟨j0,jL aZ⟩,vm bT 41]) ⟨λ_ _ h=>h,rfl,rfl⟩ ?_ ?_ ?_;·rw[HO]at h;obtain⟨p,_,rfl⟩:=cA.1 h;rfl
       ·rintro k ae I' M' -⟨jt,bw,rfl⟩l B az iG;have sZ:k<(qV 0 g.ds).length:=by simpa[HO]using ae
        generalize aB:(qV 0 g.ds)[k]=p;have ah:(t' 0 g.ds)[k]=[.int .i64 p.1,p.2.val]:=by simp only[HO,fr,aB]
        rw[ah];have next:z4 aZ p.2=true->((qV 0 g.ds).take (k+1)).all (λp=>z4 aZ p.2)=true:=λh=>by rw[gy sZ,Ho,bw,aB];simp[h]
        refine a3.mk (λaj=>?_) (λaj=>?_)
        ·refine⟨_,_,.refl,jt,next ?_,rfl⟩;have pg:decide (p.2.k=3)=false:=by simpa using aj
         simp[z4,pg]
        ·have pg:decide (p.2.k=3)=true:=by simpa using aj
         refine aR.mk [.map (some j0)] ⟨rfl,_,_,_,.inr ⟨_,.head _,rfl,rfl⟩,rfl,rfl⟩ ?_;refine bB.lookup a7 rfl (by simp) rfl rfl rfl rfl (λw=>HP w) (l:=aZ) (g:=j0) rfl rfl (by simp) ?_;refine a3.mk (λaG=>?_) (λaG=>?_)
         ·refine b8.mk [⟨eP,.cells #[.map (some j0)] 102 (0,0)⟩,⟨j0,jL aZ⟩] [] _ _ rfl rfl (bI rfl) rfl ?_;refine⟨_,_,.refl,rfl,jt,?_,rfl⟩;unfold qW;rw[K'];have Cq:(eD p.2.t aZ).isSome=false:=by simpa using aG
          exact⟨p,by rw[<-aB];exact bi sZ,by simp[z4,pg,Cq]⟩
         ·have Cq:(eD p.2.t aZ).isSome=true:=by simpa using aG
          exact⟨_,_,.refl,jt,next (by simp[z4,Cq]),rfl⟩
       ·rintro I' M' -⟨jt,bw,rfl⟩;have Qw:qW aZ g.ds=true:=by unfold qW;rw[fN (by simp[HO])]at bw;exact bw
        refine b8.mk [⟨eP,.cells #[.map (some j0)] 102 (0,0)⟩,⟨j0,jL aZ⟩] [] _ _ rfl rfl (bI rfl) rfl ?_;refine aR.mk _ (Cp (b:=bT) (e:=0) (.tail _ (.tail _ (.head _)))) ?_;refine⟨_,_,.sub (fk _) .refl,?_,λb o h=>jt _ _ (LA _ _ h),rfl⟩;simp only[Qw];rfl
       ·rintro ex I' M' -⟨rfl,jt,Qw,rfl⟩;refine⟨by simp,?_⟩;refine aR.mk _ (Cp (b:=bT) (e:=41) (.tail _ (.tail _ (.head _)))) ?_;refine⟨_,_,.sub (fk _) .refl,?_,λb o h=>jt _ _ (LA _ _ h),rfl⟩;simp only[Qw];rfl
structure lk where
 a:Option Addr
 n:Nat
 c:Nat
 l:List Int
def lk.val(r:lk):Value:=.slice r.a r.n r.c
structure lk.ok(I:aM)(r:lk):Prop where
 a2:dh I r.a r.n r.c 1 8 (r.l.map (.int .i64 ·))
def lk.ok.n{r:lk}(h:r.ok I):r.l.length=r.n:=by have:=h.a2.len;simpa using this
def lk.ok.mono{r:lk}(h:r.ok I)(bz:∀ b o,I b=some o->I' b=some o):r.ok I':=⟨h.a2.mono bz⟩
structure jM where
 rows:List lk
 a:Option Addr
 n:Nat
 c:Nat
def jM.val(x:jM):Value:=.slice x.a x.n x.c
structure jM.ok(I:aM)(x:jM):Prop where
 a2:dh I x.a x.n x.c 1 24 (x.rows.map lk.val)
 rows:∀ r∈x.rows,r.ok I
def jM.ok.n{x:jM}(h:x.ok I):x.rows.length=x.n:=by have:=h.a2.len;simpa using this
def jM.ok.mono{x:jM}(h:x.ok I)(bz:∀ b o,I b=some o->I' b=some o):x.ok I':=⟨h.a2.mono bz,λr af=>(h.rows r af).mono bz⟩
def jM.ee(x:jM):List (List Int):=x.rows.map (·.l)
def aY.HQ{b:Nat}(h:os.ok size xs)(ag:os.n*b<=140737488355328)(bz:∀ g,os.a=some g->I g=none)(Mr:List aE) :
  ∃ I',il [] I (os.ar e++Mr) I' Mr/\(∀ b o,I b=some o->I' b=some o)/\dh I' (os.a.map λg=>⟨g,0,none⟩) os.n os.c size b xs:=by
 obtain⟨a,n,c,aS⟩:=os;cases a with
 |none=>obtain⟨aa,ab⟩:=h.nil rfl;simp only at aa ab;subst aa;subst ab;exact⟨I,.refl,λ_ _ h=>h,h.len,⟨b2 _,by simp⟩,.inl rfl⟩
 |some g=>obtain⟨aa,ab,aj,aG⟩:=h.cap g rfl;have av:=bz g rfl;exact⟨ins I g (.cells aS.toArray e (0,0)),.k3 rfl (by simp) .refl,hW av,h.len,⟨ab,ag⟩,.inr ⟨⟨g,0,none⟩,rfl,rfl,_,_,_,mI ..,by simpa using aG⟩⟩
def aY.XQ{l:List Int}(h:os.ok 1 (l.map (.int .i64 ·)))(ag:os.n*8<=140737488355328)(bz:∀ g,os.a=some g->I g=none)(Mr:List aE) :
  ∃ (I':aM) (r:lk),il [] I (os.ar e++Mr) I' Mr/\(∀ b o,I b=some o->I' b=some o)/\os.val=r.val/\r.ok I'/\r.l=l:=by
 obtain⟨I',aa,ab,aj⟩:=aY.HQ (b:=8) h ag bz Mr;exact⟨I',⟨_,_,_,l⟩,aa,ab,rfl,⟨aj⟩,rfl⟩
def ib:aY:=⟨none,0,0,[]⟩
def lM(size:Nat):ib.ok size []:=⟨by simp[ib],λ_=>⟨rfl,rfl⟩,λg h=>by cases h⟩
def LB(bU:os.ok 1 xs){g:Nat}(aa:aS.length=c*1)(ab:os.n+1<=c)(aj:c<=maxLen)(aG:aS.take ((os.n+1)*1)=xs++[v]) :
  aY.ok ⟨some g,os.n+1,c,aS⟩ 1 (xs++[v]):=by
 have ay:=bU.len;refine⟨?_,(λh=>by cases h),λbR r0=>⟨aa,ab,aj,aG⟩⟩;rw[b3,ay];simp
def aY.ok.nt{l:List Int}(h:os.ok 1 (l.map (Value.int .i64))):os.n=l.length:=by have:=h.len;simp at this;omega
def HR(a c:α)(L:List α):(a::(L++[c])).Perm (L++[c,a]):=by have h:=(K7 a (L++[c])).symm;rwa [dY]at h
def lN(wh:Bool):Nat->List Bool->List Int
 |_,[]=>[]| i,b::s=>bif b == wh then(i:Int)::lN wh (i+1) s else lN wh (i+1) s
def XR(wh b:Bool):∀ (s:List Bool) (i:Nat),lN wh i (s++[b])=lN wh i s++(bif b == wh then [((i+s.length:Nat):Int)]else [])
 |[],i=>by
  show(bif b == wh then((i:Nat):Int)::lN wh (i+1) []else lN wh (i+1) [])=_;cases b == wh<;>simp[lN]
 |c::s,i=>by
  have:=XR wh b s (i+1);rw[mF,lN,lN,this];cases c == wh<;>simp[DV,Nat.add_left_comm]
def XS(wh:Bool):∀ (s:List Bool) (i:Nat),(lN wh i s).length<=s.length
 |[],i=>by simp[lN]
 |c::s,i=>by
  have:=XS wh s (i+1);unfold lN;cases c == wh<;>simp<;>omega
structure ox where
 a:Option Addr
 n:Nat
 c:Nat
 l:List Bool
def ox.val(r:ox):Value:=.slice r.a r.n r.c
structure ox.ok(I:aM)(r:ox):Prop where
 a2:dh I r.a r.n r.c 1 1 (r.l.map Value.bool)
def ox.ok.n{r:ox}(h:r.ok I):r.l.length=r.n:=by have:=h.a2.len;simpa using this
def ox.ok.mono{r:ox}(h:r.ok I)(bz:∀ b o,I b=some o->I' b=some o):r.ok I':=⟨h.a2.mono bz⟩
def r5(n:Nat)(s:List Bool)(k:Int):List Bool:=bif decide (0<=k)&&decide (k<n)then s.set k.toNat true else s
def ph(ds:List aP)(n:Nat)(names:List ByteArray):List Bool:=names.foldl (λs nm=>r5 n s (cr nm ds 0)) (List.replicate n false)
def HS(g:cD)(t:bP):List Int:=lN true 0 (ph g.ds g.n (hY t.ns))
def XT(n:Nat)(s:List Bool)(k:Int):(r5 n s k).length=s.length:=by
 unfold r5;cases decide (0<=k)&&decide (k<n)<;>simp
def Qx(ds:List aP)(n:Nat)(names:List ByteArray):(ph ds n names).length=n:=by
 have:∀ (names:List ByteArray) (s:List Bool),(names.foldl (λs nm=>r5 n s (cr nm ds 0)) s).length=s.length:=by
  intro names
  induction names with
  |nil=>intro s;rfl| cons nm names aF=>intro s;rw[jE,aF,XT]
 rw[ph,this];simp
def ajd(av:g.ok I)(aC:g.n<=1099511627776){t:bP}(ax:t.ok I):Spec Tryz.prog 145 [g.val,t.val] I [] λv I' M'=>(∀ b o,I b=some o->I' b=some o)/\∃ x:lk,v=x.val/\x.ok I'/\x.l=HS g t/\M'=[]:=by
 refine cg [2,5] a7 Tryz.func145 rfl rfl rfl ?_;intro B az;have fl:=av.n;refine b'.mk λbT gS Lz=>?_;refine aR.mk [.slice g.a g.n g.c] (c5 (b:=bT) (cs:=[.slice g.a g.n g.c]) (k:=0) (n:=1) (T:=24) (.head _) (by simp)) ?_;refine m0.mk g.n g.n rfl rfl (b2 _) (by show 1*g.n<=_;omega) (by omega) ?_;refine b'.mk λb ag sN=>?_;refine b'.mk λeP z5 EA=>?_;refine b8.mk [] [⟨b,.cells (rowOf [.bool false] (g.n*1)).toArray 4 (0,0)⟩,⟨bT,.cells #[.slice g.a g.n g.c] 24 (0,0)⟩] _ _ rfl rfl (bI rfl) rfl ?_;refine bd.mk [] [⟨eP,.cells #[.slice (some ⟨b,0,none⟩) g.n g.n] 138 (0,0)⟩,⟨b,.cells (rowOf [.bool false] (g.n*1)).toArray 4 (0,0)⟩,⟨bT,.cells #[.slice g.a g.n g.c] 24 (0,0)⟩] _ (.refl _) (ai8 t) ?_;rintro v I1 M1 -⟨aje,rfl,Cm,cu,rfl⟩;have p0:=av.mono cu;have Cj:=ax.mono cu;refine c4.range a7 rfl rfl rfl .refl (ai9 Cj Cm) (λvs h=>?_) (λk I' M'=>(∀ b o,I1 b=some o->I' b=some o)/\M'=[⟨eP,.cells #[.slice (some ⟨b,0,none⟩) g.n g.n] 138 (0,0)⟩,iI b (ph g.ds g.n ((hY t.ns).take k)),⟨bT,.cells #[.slice g.a g.n g.c] 24 (0,0)⟩]) (λ_ _ _=>False) ⟨λ_ _ h=>h,?_⟩ ?_ ?_ (λ_ _ _ _ h=>h.elim)
 ·obtain⟨c,_,rfl⟩:=cA.1 h;rfl
 ·show _::_::_=_;rw[tL,fa];simp[iI,ph]
 ·rintro k ae I' M' -⟨jt,rfl⟩l B az iG;have P7:k<(hY t.ns).length:=by simpa using ae
  generalize ad:(hY t.ns)[k]=x;have ah:((hY t.ns).map λs=>[Value.string s])[k]=[.string x]:=by simp[ad]
  rw[ah];have iM:ph g.ds g.n ((hY t.ns).take (k+1))=r5 g.n (ph g.ds g.n ((hY t.ns).take k)) (cr x g.ds 0):=by rw[gy P7,ad];simp[ph,r4]
  have c1:=Qx g.ds g.n ((hY t.ns).take k);generalize au:ph g.ds g.n ((hY t.ns).take k)=s at *;rw[iM];refine aR.mk [.slice g.a g.n g.c] ⟨rfl,_,_,_,.inr ⟨_,.tail _ (.tail _ (.head _)),rfl,rfl⟩,rfl,rfl⟩ ?_;refine bd.mk [] [⟨eP,.cells #[.slice (some ⟨b,0,none⟩) g.n g.n] 138 (0,0)⟩,iI b s,⟨bT,.cells #[.slice g.a g.n g.c] 24 (0,0)⟩] _ (.refl _) (HK (p0.mono jt) x) ?_;rintro v I' M' -⟨rfl,rfl,rfl⟩;refine cj.mk (λaa=>?_) (λaa=>?_)
  ·refine aR.mk [.slice (some ⟨b,0,none⟩) g.n g.n] ⟨rfl,_,_,_,.inr ⟨_,.head _,rfl,rfl⟩,rfl,rfl⟩ ?_;refine a3.mk (λab=>?_) (λab=>?_)
   ·have lb:0<=cr x g.ds 0:=by simpa using aa
    have ff:cr x g.ds 0<g.n:=by simpa using ab
    have wK:r5 g.n s (cr x g.ds 0)=s.set (cr x g.ds 0).toNat true:=by rw[r5,aa,ab];rfl
    refine aR.mk [.slice (some ⟨b,0,none⟩) g.n g.n] ⟨rfl,_,_,_,.inr ⟨_,.head _,rfl,rfl⟩,rfl,rfl⟩ ?_;refine bf.mk ⟨b,0,none⟩ (cr x g.ds 0).toNat rfl (by omega) (by omega) ?_;refine b8.add [⟨eP,.cells #[.slice (some ⟨b,0,none⟩) g.n g.n] 138 (0,0)⟩] [⟨bT,.cells #[.slice g.a g.n g.c] 24 (0,0)⟩] _ _ rfl ?_ rfl ?_;·simp only[oZ,bE];show 0+(cr x g.ds 0).toNat*1+1<=_;omega
    refine⟨_,_,.refl,jt,?_⟩;rw[wK];have e:=Ek s (cr x g.ds 0).toNat (by omega) true;simp only[iI];rw[<-e];simp only[cX,fa];rfl
   ·refine⟨_,_,.refl,jt,?_⟩;have:r5 g.n s (cr x g.ds 0)=s:=by rw[r5,aa,ab];rfl
    rw[this];rfl
  ·refine⟨_,_,.refl,jt,?_⟩;have:r5 g.n s (cr x g.ds 0)=s:=by rw[r5,aa];rfl
   rw[this];rfl
 ·rintro dz dm -⟨et,rfl⟩;have LA:∀ b o,I b=some o->dz b=some o:=λb o h=>et _ _ (cu _ _ h);have ajf:(hY t.ns).take ((hY t.ns).map λs=>[Value.string s]).length=hY t.ns:=fN (by simp);rw[ajf];have fc:=Qx g.ds g.n (hY t.ns);have dK:HS g t=lN true 0 (ph g.ds g.n (hY t.ns)):=rfl;generalize au:ph g.ds g.n (hY t.ns)=s at *;refine aR.mk [.slice (some ⟨b,0,none⟩) g.n g.n] ⟨rfl,_,_,_,.inr ⟨_,.head _,rfl,rfl⟩,rfl,rfl⟩ ?_;refine dg.inv (ι:=Nat×aY) (λx=>{ bj:=[(8,.val x.2.val),(32,.val (.slice (some ⟨b,0,none⟩) g.n g.n)),(33,.val (.int .i64 g.n)),(34,.val (.int .i64 x.1))],cI:=dz,de:=x.2.ar 3++[iI b s] }) (λx=>x.1<=g.n/\x.2.ok 1 ((lN true 0 (s.take x.1)).map (.int .i64 ·))/\∀ g,x.2.a=some g->dz g=none) (λx=>g.n-x.1) ?_ ?_
  ·exact⟨(0,ib),⟨by simp,lM 1,λg h=>by cases h⟩,.sub (.cons _ (.cons_cons _ (fk _))) .refl,ej,.nil⟩
  ·rintro⟨i,os⟩⟨hi,bU,bz⟩;simp only at hi bU bz;have ub:=bU.nt;have gC:=XS true (s.take i) 0;have vf:=B5 i s;refine a3.mk (λh=>?_) (λh=>?_)
   ·have a1:i<g.n:=by simpa using h
    have cq:i<s.length:=by omega
    have ja:=XR true s[i] (s.take i) 0;rw[<-gy cq,Qp (by omega),cX]at ja;refine bf.mk ⟨b,0,none⟩ i rfl rfl a1 ?_;refine aR.mk _ (Hm (by simp) cq) ?_;refine a3.mk (λab=>?_) (λab=>?_);·rw[ab]at ja;refine b'.mk λb9 lf vh=>?_;refine bB.Hk a7 rfl (by simp) (e:=3) rfl rfl rfl os bU rfl (m:=1) rfl (ch:=[.int .i64 i]) (by decide) (c5 (b:=b9) (cs:=[.int .i64 i]) (k:=0) (n:=1) (T:=3) (.head _) (by simp)) rfl (Mr:=[iI b s,⟨b9,.cells #[.int .i64 i] 3 (0,0)⟩]) (HR _ _ _) (by simp only[maxLen];omega) (by show(os.n+1)*8<=_;omega) ?_;intro dM c' hJ LC dJ eO eJ iN;refine bg.mk _ (cL (i:=i) (by omega)) ?_;refine⟨(i+1,⟨some dM,os.n+1,c',hJ⟩),⟨⟨by simp only;omega,?_,λg av=>by cases av;exact LC⟩,by simp only;omega⟩,.sub (.cons_cons _ (.cons_cons _ (fk _))) .refl,ej,.nil⟩;simp only;rw[ja,cP];exact LB bU dJ eO eJ iN
    ·rw[ab]at ja;simp only[Bool.false_beq,tE,b5,ed]at ja;refine bg.mk _ (cL (i:=i) (by omega)) ?_;refine⟨(i+1,os),⟨⟨by simp only;omega,?_,bz⟩,by simp only;omega⟩,.refl,ej,.nil⟩;simp only;rw[ja];exact bU
   ·have cJ:g.n<=i:=by simpa using h
    rw[fN (by omega)]at bU gC ub;obtain⟨I',x,h8,kH,mB,iX,HT⟩:=aY.XQ (e:=3) bU (by omega) bz [];rw[ed]at h8;exact⟨_,_,.sub (ua _ _) h8,λb o h=>kH _ _ (LA _ _ h),x,mB,iX,HT.trans dK.symm,rfl⟩
def ic(m:List Bool)(k:Nat):Prop:=m.getD k false=true
def jw(m:List Bool)(o:List Int):List Int->List Bool×List Int
 |[]=>(m,o)| k::ks=>bif m.getD k.toNat false then jw m o ks else jw (m.set k.toNat true) (o++[k]) ks
def yn(L:List (List Int)):Nat->List Bool->List Int->List Bool
 |0,m,_=>m
 |f+1,m,o=>match o.getLast? with
  |none=>m| some w=>bif decide (0<(jw m o.dropLast (L.getD w.toNat [])).2.length)then yn L f (jw m o.dropLast (L.getD w.toNat [])).1 (jw m o.dropLast (L.getD w.toNat [])).2 else(jw m o.dropLast (L.getD w.toNat [])).1
def oy(L:List (List Int))(i:Nat):List Bool:=yn L (2*L.length+2) ((List.replicate L.length false).set i true) [(i:Int)]
def pi:List Bool->Nat
 |[]=>0| b::s=>(bif b then 0 else 1)+pi s
def LD:∀ (m:List Bool) (k:Nat),k<m.length->m.getD k false=false->pi (m.set k true)+1=pi m
 |b::m,0,_,h=>by
  have:b=false:=by simpa using h
  subst this;simp[pi];omega
 |b::m,k+1,ae,h=>by have:=LD m k (by simpa using ae) (by simpa using h);simp only[List.set_cons_succ,pi];omega
def XU(m:List Bool):pi m<=m.length:=by
 induction m with
 |nil=>simp[pi]
 |cons b m aF=>
  simp only[pi,c2];cases b<;>simp<;>omega
def EC{m:List Bool}{k a:Nat}(ae:k<m.length):ic (m.set k true) a ↔ a=k\/ic m a:=by
 unfold ic;simp only[bt,iu];by_cases e:k=a
 ·subst e;simp[ae]
 ·rw[bS e];constructor
  ·exact .inr
  ·rintro(h | h)
   ·exact(e h.symm).elim
   ·exact h
def valid(n:Nat)(l:List Int):Prop:=∀ k∈l,0<=k/\k<n
structure ajg(m:List Bool)(o ks:List Int)(r:List Bool×List Int):Prop where
 len:r.1.length=m.length
 mono:∀ a,ic m a->ic r.1 a
 all:∀ k∈ks,ic r.1 k.toNat
 only:∀ a,ic r.1 a->ic m a\/((a:Int)∈ks/\(a:Int)∈r.2)
 nS:∀ k∈o,k∈r.2
 ch:∀ k∈r.2,k∈o\/(k∈ks/\ic r.1 k.toNat)
 HE:2*pi r.1+r.2.length<=2*pi m+o.length
def Qy{n:Nat}:∀ (ks:List Int) (m:List Bool) (o:List Int),m.length=n->valid n ks->ajg m o ks (jw m o ks)
 |[],m,o,_,_=>⟨rfl,λ_ h=>h,λk ae=>by simp at ae,λa h=>.inl h,λk h=>h,λk h=>.inl h,b2 _⟩
 |k::ks,m,o,hm,ah=>by
  have ae:=ah k (by simp);have kd:valid n ks:=λx ad=>ah x (by simp[ad]);have cv:k.toNat<m.length:=by omega
  unfold jw;cases ag:m.getD k.toNat false with
  |true=>
   have h:=Qy ks m o hm kd;simp only[cb];refine⟨h.len,h.mono,λx ad=>?_,λa a6=>?_,h.nS,λx ad=>?_,h.HE⟩
   ·rcases eg.1 ad with rfl | ad
    ·exact h.mono _ ag
    ·exact h.all x ad
   ·rcases h.only a a6 with aa | aa
    ·exact .inl aa
    ·exact .inr ⟨by simp[aa.1],aa.2⟩
   ·rcases h.ch x ad with aa | aa
    ·exact .inl aa
    ·exact .inr ⟨by simp[aa.1],aa.2⟩
  |false=>
   have h:=Qy ks (m.set k.toNat true) (o++[k]) (by simpa using hm) kd;have au:=LD m k.toNat cv ag;have wK:ic (jw (m.set k.toNat true) (o++[k]) ks).1 k.toNat:=h.mono _ ((EC cv).2 (.inl rfl));have kQ:k∈(jw (m.set k.toNat true) (o++[k]) ks).2:=h.nS k (by simp);simp only[b5];refine⟨by rw[h.len];simp,λa a6=>h.mono a ((EC cv).2 (.inr a6)),λx ad=>?_,λa a6=>?_,λx ad=>h.nS x (by simp[ad]),λx ad=>?_,?_⟩
   ·rcases eg.1 ad with rfl | ad
    ·exact wK
    ·exact h.all x ad
   ·rcases h.only a a6 with aa | aa
    ·rcases(EC cv).1 aa with rfl | aa
     ·have e:((k.toNat:Nat):Int)=k:=by omega
      rw[e];exact .inr ⟨by simp,kQ⟩
     ·exact .inl aa
    ·exact .inr ⟨by simp[aa.1],aa.2⟩
   ·rcases h.ch x ad with aa | aa
    ·simp only[cF,ec]at aa;rcases aa with aa | rfl
     ·exact .inl aa
     ·exact .inr ⟨by simp,wK⟩
    ·exact .inr ⟨by simp[aa.1],aa.2⟩
   ·have:=h.HE;simp only[b3,c2,fs]at this;omega
inductive Comes(L:List (List Int))(i:Nat):Nat->Prop
 |self:Comes L i i| next {a k:Nat} (h:Comes L i a) (ae:(k:Int)∈L.getD a []):Comes L i k
structure wL(L:List (List Int))(i:Nat)(m:List Bool)(o:List Int):Prop where
 len:m.length=L.length
 val:valid L.length o
 XV:∀ k∈o,ic m k.toNat
 cl:∀ a,ic m a->(a:Int)∈o\/∀ k∈L.getD a [],ic m k.toNat
 Qz:∀ a,ic m a->Comes L i a
 self:ic m i
def ajh{m:List Bool}{a:Nat}(h:ic m a):a<m.length:=by apply Lb;intro bq;unfold ic at h;simp[bt,bq]at h
def wL.step(cc:∀ l∈L,valid L.length l){i:Nat}{m:List Bool}{o:List Int}{w:Int}(h:wL L i m (o++[w])) :
  wL L i (jw m o (L.getD w.toNat [])).1 (jw m o (L.getD w.toNat [])).2/\2*pi (jw m o (L.getD w.toNat [])).1+(jw m o (L.getD w.toNat [])).2.length<2*pi m+(o++[w]).length:=by
 have hw:=h.val w (by simp);have yo:w.toNat<L.length:=by omega
 have LF:L.getD w.toNat []=L[w.toNat]:=by simp[bt,yo]
 have ah:valid L.length (L.getD w.toNat []):=by rw[LF];exact cc _ (bi yo)
 have v:=Qy (L.getD w.toNat []) m o h.len ah;have PV:=h.XV w (by simp);have aji:=h.Qz _ PV;refine⟨⟨v.len.trans h.len,λk ae=>?_,λk ae=>?_,λa a6=>?_,λa a6=>?_,v.mono _ h.self⟩,?_⟩
 ·rcases v.ch k ae with aa | aa
  ·exact h.val k (by simp[aa])
  ·exact ah k aa.1
 ·rcases v.ch k ae with aa | aa
  ·exact v.mono _ (h.XV k (by simp[aa]))
  ·exact aa.2
 ·rcases v.only a a6 with aa | aa
  ·rcases h.cl a aa with ab | ab
   ·simp only[cF,ec]at ab;rcases ab with ab | ab
    ·exact .inl (v.nS _ ab)
    ·have e:a=w.toNat:=by omega
     subst e;exact .inr v.all
   ·exact .inr λk ae=>v.mono _ (ab k ae)
  ·exact .inl aa.2
 ·rcases v.only a a6 with aa | aa
  ·exact h.Qz a aa
  ·exact .next aji aa.1
 ·have:=v.HE;simp only[b3,c2,fs];omega
structure QA(L:List (List Int))(i:Nat)(m:List Bool):Prop where
 len:m.length=L.length
 iff:∀ a,ic m a ↔ Comes L i a
def wL.done{i:Nat}{m:List Bool}(cc:∀ l∈L,valid L.length l)(h:wL L i m []):QA L i m:=by
 refine⟨h.len,λa=>⟨h.Qz a,λan=>?_⟩⟩
 induction an with
 |self=>exact h.self
 |next an ae aF=>
  rcases h.cl _ aF with aa | aa;·simp at aa
  ·simpa using aa _ ae
def wL.start{i:Nat}(hi:i<L.length):wL L i ((List.replicate L.length false).set i true) [(i:Int)]:=by
 have aC:∀ a,¬ ic (List.replicate L.length false) a:=λa=>by
  unfold ic;by_cases h:a<L.length<;>simp[bt,h]
 have au:∀ a,ic ((List.replicate L.length false).set i true) a ↔ a=i:=λa=>by rw[EC (by simpa using hi)];exact⟨λh=>h.resolve_right (aC a),.inl⟩
 refine⟨by simp,λk ae=>?_,λk ae=>?_,λa a6=>?_,λa a6=>?_,(au i).2 rfl⟩
 ·simp only[ec]at ae;omega
 ·simp only[ec]at ae;subst ae;simpa using(au i).2 rfl
 ·rw[(au a).1 a6];exact .inl (by simp)
 ·rw[(au a).1 a6];exact .self
def XW{L:List (List Int)}(cc:∀ l∈L,valid L.length l){i:Nat}:∀ (f:Nat) (m:List Bool) (o:List Int),wL L i m o->o≠[]->2*pi m+o.length<=f->QA L i (yn L f m o)
 |0,m,o,h,aK,aA=>by exact(aK (iq (by omega))).elim
 |f+1,m,o,h,aK,aA=>by
  obtain⟨o',w,rfl⟩:∃ o' w,o=o'++[w]:=by
   rcases wG o with aa | ⟨r,p,aa⟩;·exact(aK aa).elim
   ·exact⟨r,p,by simpa using aa⟩
  obtain⟨aa,ab⟩:=h.step cc;unfold yn;simp only[Qq,Qr];cases ag:decide (0<(jw m o' (L.getD w.toNat [])).2.length)with
  |true=>simp only[cb];refine XW cc f _ _ aa (λe=>?_) (by omega);rw[e]at ag;simp at ag| false=>simp only[b5];have e:(jw m o' (L.getD w.toNat [])).2=[]:=iq (by simpa using ag);rw[e]at aa;exact aa.done cc
def Cr(cc:∀ l∈L,valid L.length l){i:Nat}(hi:i<L.length):QA L i (oy L i):=by refine XW cc _ _ _ (.start hi) (by simp) ?_;have:=XU ((List.replicate L.length false).set i true);simp only[n4,sO,c2,fs]at this |-;omega
def XX{a9 post:List Value}{z:Value}{k:Nat}(ae:k=a9.length):ck (a9++z::post) k [v]=a9++v::post:=by
 subst ae;unfold ck;have e:(a9++z::post).drop (a9.length+[v].length)=post:=by rw[show a9++z::post=(a9++[z])++post from by simp];exact B6 (by simp)
 rw[e,qO rfl];simp
def gi(g:cD):List (List Int):=g.ds.map λd=>HS g d.t
def XY(bp:fW I al)(av:g.ok I)(aC:g.n<=1099511627776):Spec Tryz.prog 91 [g.val] I [] λv I' M'=>(∀ b o,I b=some o->I' b=some o)/\M'=[] /\
  ((dj al g≠0/\v=.tuple #[.slice none 0 0,.bool false])\/(dj al g=0/\∃ x:jM,v=.tuple #[x.val,.bool true]/\x.ok I'/\x.ee=gi g)):=by
 refine cg [] a7 Tryz.func91 rfl rfl rfl ?_;intro B az;have fl:=av.n;refine bd.mk [] [] _ (.refl _) (Qv bp av) ?_;rintro v I1 M1 -⟨rfl,cu,rfl⟩;refine a3.mk (λh=>?_) (λh=>?_)
 ·exact⟨_,_,.refl,cu,rfl,.inl ⟨by simpa using h,rfl⟩⟩
 ·have QB:dj al g=0:=by simpa using h
  refine m0.mk g.n g.n rfl rfl (b2 _) (by show 24*g.n<=_;omega) (by omega) ?_;refine b'.mk λb ag sN=>?_;refine dg.inv (ι:=Nat×List lk×aM) (λx=>{ bj:=[(1,.ref 1 0),(4,.val (.slice (some ⟨b,0,none⟩) g.n g.n)),(15,.val (.slice g.a g.n g.c)),(16,.val (.int .i64 g.n)),(17,.val (.int .i64 x.1))],cl:=[(1,[.slice g.a g.n g.c])],cI:=x.2.2,de:=[⟨b,.cells (x.2.1.map lk.val++List.replicate (g.n-x.1) (Value.slice none 0 0)).toArray 55 (0,0)⟩] }) (λx=>x.1<=g.n/\x.2.1.length=x.1/\(∀ b o,I b=some o->x.2.2 b=some o)/\x.2.2 b=none/\(∀ r∈x.2.1,r.ok x.2.2)/\x.2.1.map (·.l)=(g.ds.take x.1).map (λd=>HS g d.t)) (λx=>g.n-x.1) ?_ ?_;·refine⟨(0,[],I1),⟨by simp,rfl,cu,ag,by simp,rfl⟩,?_,hv,.cons rfl .nil⟩;show il _ _ [⟨b,.cells (rowOf [.slice none 0 0] (g.n*1)).toArray 55 (0,0)⟩] _ _;rw[tL,fa];exact .refl
  ·rintro⟨i,a2,dz⟩⟨hi,fC,et,gS,g0,ei⟩;simp only at hi fC et gS g0 ei;refine a3.mk (λh=>?_) (λh=>?_)
   ·have a1:i<g.n:=by simpa using h
    have cq:i<g.ds.length:=by omega
    have ld:=av.mono et;obtain⟨aU,bK,bm⟩:=ld.a2.row aP.cT a1 cq;have gb:g.ds[i]∈g.ds:=bi cq;refine bf.mk aU i bK rfl a1 ?_;refine aR.mk _ (bm _) ?_;refine bd.zi [] [⟨b,.cells (a2.map lk.val++List.replicate (g.n-i) (Value.slice none 0 0)).toArray 55 (0,0)⟩] _ (.refl _) (ajd ld aC (ld.ds _ gb).t) ?_;rintro v h9 sL-z6⟨iP,x,rfl,ad,hz,rfl⟩;refine bf.mk ⟨b,0,none⟩ i rfl rfl a1 ?_;refine b8.add [] [] _ _ rfl ?_ rfl ?_;·simp only[oZ,b3,bE,sO];show 0+i*1+1<=_;omega
    refine bg.mk _ (cL (i:=i) (by omega)) ?_;refine⟨(i+1,a2++[x],h9),⟨⟨by simp only;omega,by simp[fC],λb o h=>iP _ _ (et _ _ h),z6 _ (.head _),λr af=>?_,?_⟩,by simp only;omega⟩,?_,hv,.cons rfl .nil⟩
    ·simp only[cF,ec]at af;rcases af with af | rfl
     ·exact(g0 r af).mono iP
     ·exact ad
    ·simp only;rw[cP,ei,gy cq,cP];simp[hz]
    ·have Cs:List.replicate (g.n-i) (Value.slice none 0 0)=.slice none 0 0::List.replicate (g.n-(i+1)) (Value.slice none 0 0):=by rw[show g.n-i=(g.n-(i+1))+1 from by omega,HM]
     have e:=XX (a9:=a2.map lk.val) (post:=List.replicate (g.n-(i+1)) (Value.slice none 0 0)) (z:=.slice none 0 0) (v:=x.val) (k:=0+i*1) (by simp[fC]);rw[Cs];simp only[cP,bX,hx,dY,mF,iF];rw[<-e];exact .refl
   ·have cJ:g.n<=i:=by simpa using h
    have e8:i=g.n:=by omega
    subst e8;refine⟨_,_,.k3 rfl (by simp) .refl,λb o h=>hW gS _ _ (et _ _ h),rfl,.inr ⟨QB,⟨a2,some ⟨b,0,none⟩,g.n,g.n⟩,rfl,⟨⟨by simp[fC],⟨b2 _,by simp only;omega⟩,.inr ⟨_,rfl,rfl,_,_,_,mI ..,?_⟩⟩,λr af=>(g0 r af).mono (hW gS)⟩,?_⟩⟩;·simp[fC];exact fN (by simp[fC])
    ·simp only[jM.ee,ei,gi];rw[fN (by omega)]
def XZ{c:Code}{K:ke}{t1 t2 t3:Nat}{a b d:dD}(h:∀ G pc,V X c (ga (ga (ga G t3 d) t2 b) t1 a) pc I M K)
  (aa:F t1=a) (ab:F t2=b) (aj:F t3=d):V X c F C I M K:=by
 have:=h F C;rwa [Ev aj,Ev ab,Ev aa]at this
abbrev LG:=Nat×List Bool×aY×List Int×Nat
def X0(I:aM)(x:jM)(y:LG):wm:={ bj:=[(0,.val x.val),(5,.val (.slice (some ⟨y.1,0,none⟩) x.n x.n)),(6,.val y.2.2.1.val)],cI:=I,de:=y.2.2.1.ar 3++[iI y.1 y.2.1] }
structure LH(I:aM)(L:List (List Int))(i:Nat)(y:LG):Prop where
 ar:I y.1=none
 os:y.2.2.1.ok 1 (y.2.2.2.1.map (.int .i64 ·))
 inv:wL L i y.2.1 y.2.2.2.1
 ne:y.2.2.2.1≠[]
 HE:2*pi y.2.1+y.2.2.2.1.length<=y.2.2.2.2
 gL:y.2.2.2.2<=2*L.length+2
 eq:oy L i=yn L y.2.2.2.2 y.2.1 y.2.2.2.1
def ajj(L:List (List Int))(f:Nat)(m:List Bool)(o:List Int)(w:Int):yn L (f+1) m (o++[w]) =
  bif decide (0<(jw m o (L.getD w.toNat [])).2.length)then yn L f (jw m o (L.getD w.toNat [])).1 (jw m o (L.getD w.toNat [])).2 else(jw m o (L.getD w.toNat [])).1:=by
 rw[yn];simp only[Qq,Qr]
def X1{x:jM}(ad:x.ok I)(aC:x.n<=1099511627776)(cc:∀ l∈x.ee,valid x.ee.length l){i:Nat}(y:LG)(aH:LH I x.ee i y){p:Nat->LG->Prop}(aB:∀ z,LH I x.ee i z->z.2.2.2.2<y.2.2.2.2->p 0 z)(B:Nat)(az:World)(G:Fr)(pc:dF) :
  V ⟨Tryz.prog,qK,[],Tryz.f94.ntmps,B,az,I,[],none⟩ (Lp (Ew (Tryz.f94.body.getD .skip)) 0) (ga (ga (ga G 6 (.val y.2.2.1.val)) 5 (.val (.slice (some ⟨y.1,0,none⟩) x.n x.n))) 0 (.val x.val)) pc I (y.2.2.1.ar 3++[iI y.1 y.2.1])
   (KY (λl=>pP [] (X0 I x) (p l)) (uU ⟨Tryz.prog,qK,[],Tryz.f94.ntmps,B,az,I,[],none⟩ Tryz.f94.results.toList
    (λv I' M'=>(∀ b o,I b=some o->I' b=some o)/\∃ r:ox,v=r.val/\r.ok I'/\r.l=oy x.ee i/\M'=[]))):=by
 obtain⟨b,m,⟨yi,n,e4,aS⟩,o,f⟩:=y;obtain⟨ag,bU,hinv,bs,r2,ajk,sR⟩:=aH;simp only at ag bU hinv bs r2 ajk sR aB |-;have nu:=ad.n;have gC:x.ee.length=x.n:=by simp[jM.ee,nu]
 have jq:m.length=x.n:=hinv.len.trans gC;obtain⟨o',w,rfl⟩:∃ o' w,o=o'++[w]:=by
  rcases wG o with aa | ⟨r,p,aa⟩;·exact(bs aa).elim
  ·exact⟨r,p,by simpa using aa⟩
 have ub:n=o'.length+1:=by have:=bU.nt;simpa using this
 cases yi with
 |none=>have:=(bU.nil rfl).1;simp only at this;omega| some cK=>
 obtain⟨dK,nf,iY,eW⟩:=bU.cap cK rfl;simp only at dK nf iY eW;have hw:=hinv.val w (by simp);have yo:w.toNat<x.ee.length:=by omega
 have gq:w.toNat<x.rows.length:=by omega
 have X2:w.toNat<x.n:=by omega
 obtain⟨dS,a1⟩:=hinv.step cc;have LF:x.ee.getD w.toNat []=x.rows[w.toNat].l:=by simp[jM.ee,bt,gq]
 rw[LF]at dS a1;obtain⟨f,rfl⟩:∃ u9,f=u9+1:=⟨f-1,by simp at r2;omega⟩;have eK:oy x.ee i=bif decide (0<(jw m o' x.rows[w.toNat].l).2.length)then yn x.ee f (jw m o' x.rows[w.toNat].l).1 (jw m o' x.rows[w.toNat].l).2 else(jw m o' x.rows[w.toNat].l).1:=by rw[sR,ajj,LF]
 have tV:valid x.ee.length x.rows[w.toNat].l:=cc _ (by simp only[jM.ee];exact cA.2 ⟨_,bi gq,rfl⟩);have p6:=ad.rows _ (bi gq);have hy:=p6.n;have yp:=p6.a2.cap;obtain⟨Ct,Cu,fE⟩:=ad.a2.one X2 gq;have qS:IntKind.i64.wrap ((n:Int)-1)=((n-1:Nat):Int):=by simp only[b3,c2,fs]at r2;rw[wrap_i64 ⟨by omega,by omega⟩];omega
 obtain⟨bk,mJ⟩:∃ bk,aS=o'.map (Value.int .i64)++(.int .i64 w::bk):=by refine⟨aS.drop n,?_⟩;have ab:=rY (n*1) aS;rw[eW,fa]at ab;rw[cP,dY]at ab;exact ab.symm
 have QC:aS.drop (n-1)=.int .i64 w::bk:=by rw[mJ];exact B6 (by simp;omega)
 refine bg.mk _ qS ?_;refine bf.mk ⟨cK,0,none⟩ (n-1) rfl rfl (by show n-1<n;omega) ?_;refine aR.mk [.int .i64 w] ?_ ?_
 ·have:=c5 (I:=I) (M:=[⟨cK,.cells aS.toArray 3 (0,0)⟩]++[iI b m]) (b:=cK) (cs:=aS) (T:=3) (.head _) (k:=(n-1)*1) (n:=1) (by omega);rw[fa,QC]at this;rw[fa];exact this
 refine bg.mk _ qS ?_;refine ms.mk 0 (n-1) rfl rfl (dw _) (by show n-1<=e4;omega) ?_;refine bf.mk Ct w.toNat Cu (by omega) X2 ?_;refine aR.mk _ (fE _) ?_;generalize eZ:x.rows[w.toNat]=row at *;have z7:aY.ok ⟨some cK,n-1,e4,aS⟩ 1 (o'.map (.int .i64 ·)):=by refine⟨by simp;omega,(λh=>by cases h),λbR aj=>⟨dK,by show n-1<=e4;omega,iY,?_⟩⟩;show aS.take ((n-1)*1)=_;have ab:=rY (n*1) aS;rw[eW,fa]at ab;rw[<-ab,cP,dY,fa];exact qO (by simp;omega)
 simp only[b3,c2,fs]at a1 r2;refine dg.inv (ι:=Nat×List Bool×aY×List Int) (λz=>{ bj:=[(0,.val x.val),(5,.val (.slice (some ⟨b,0,none⟩) x.n x.n)),(6,.val z.2.2.1.val),(32,.val row.val),(33,.val (.int .i64 row.n)),(34,.val (.int .i64 z.1))],cI:=I,de:=z.2.2.1.ar 3++[iI b z.2.1] }) (λz=>z.1<=row.n/\z.2.1.length=x.n/\z.2.2.1.ok 1 (z.2.2.2.map (.int .i64 ·))/\2*pi z.2.1+z.2.2.2.length<=2*x.n+2/\jw m o' row.l=jw z.2.1 z.2.2.2 (row.l.drop z.1)) (λz=>row.n-z.1) ?_ ?_
 ·exact⟨(0,m,⟨some cK,n-1,e4,aS⟩,o'),⟨by simp,jq,z7,by simp only;omega,rfl⟩,.refl,oX,.nil⟩
 ·rintro⟨j,s,os,q⟩⟨ai,fc,qX,yq,BV⟩;simp only at ai fc qX yq BV;refine a3.mk (λh=>?_) (λh=>?_)
  ·have ez:j<row.n:=by simpa using h
   have iK:j<row.l.length:=by omega
   obtain⟨gr,fB,eY⟩:=p6.a2.one ez iK;have jo:row.l.drop j=row.l[j]::row.l.drop (j+1):=e1 iK;have js:=tV _ (bi iK);generalize ae:row.l[j]=k at *;have cv:k.toNat<s.length:=by omega
   have ajl:=qX.nt;refine bf.mk gr j fB rfl ez ?_;refine aR.mk _ (eY _) ?_;refine bf.mk ⟨b,0,none⟩ k.toNat rfl (by omega) (by omega) ?_;refine aR.mk _ (Hm (by simp) cv) ?_;have o5:s.getD k.toNat false=s[k.toNat]:=by simp[bt,cv]
   refine a3.mk (λab=>?_) (λab=>?_)
   ·have aA:s.getD k.toNat false=false:=by rw[o5];simpa using ab
    have GJ:=LD s k.toNat cv aA;refine bf.mk ⟨b,0,none⟩ k.toNat rfl (by omega) (by omega) ?_;refine b8.add (os.ar 3) [] _ _ rfl ?_ rfl ?_;·simp only[oZ,bE];show 0+k.toNat*1+1<=_;omega
    have e:=Ek s k.toNat cv true;refine b'.mk λb9 lf vh=>?_;refine bB.append a7 rfl (by simp) (e:=3) rfl rfl rfl os qX rfl (m:=1) rfl (ch:=[.int .i64 k]) (by decide) (c5 (b:=b9) (cs:=[.int .i64 k]) (k:=0) (n:=1) (T:=3) (.head _) (by simp)) rfl (Mr:=[⟨b,.cells (ck (s.map Value.bool) (0+k.toNat*1) [.bool true]).toArray 4 (0,0)⟩,⟨b9,.cells #[.int .i64 k] 3 (0,0)⟩]) (HR _ _ _) (by simp only[maxLen];omega) (by show(os.n+1)*8<=_;omega) ?_;intro dM c' hJ dJ eO eJ iN;refine bg.mk _ (cL (i:=j) (by omega)) ?_;refine⟨(j+1,s.set k.toNat true,⟨some dM,os.n+1,c',hJ⟩,q++[k]),⟨⟨by simp only;omega,by simpa using fc,?_,?_,?_⟩,by simp only;omega⟩,?_,oX,.nil⟩;·simp only;rw[cP];exact LB qX dJ eO eJ iN
    ·simp only[b3,c2,fs];omega
    ·simp only;rw[BV,jo,jw,aA];rfl
    ·simp only[iI];rw[<-e];simp only[cX,fa];exact .sub (.cons_cons _ (.cons_cons _ (fk _))) .refl
   ·have aA:s.getD k.toNat false=true:=by rw[o5];simpa using ab
    refine bg.mk _ (cL (i:=j) (by omega)) ?_;refine⟨(j+1,s,os,q),⟨⟨by simp only;omega,fc,qX,yq,?_⟩,by simp only;omega⟩,.refl,oX,.nil⟩;simp only;rw[BV,jo,jw,aA];rfl
  ·have cJ:row.n<=j:=by simpa using h
   have ah:jw m o' row.l=(s,q):=by rw[BV,ki (by omega)];rfl
   rw[ah]at eK dS a1;simp only at eK dS a1;have ajl:=qX.nt;refine a3.mk (λab=>?_) (λab=>?_)
   ·have eb:0<q.length:=by simp at ab;omega
    refine⟨(b,s,os,q,f),aB _ ⟨ag,qX,dS,λe=>by simp only at e;rw[e]at eb;simp at eb,by simp only;omega,by simp only;omega,?_⟩ (by simp only;omega),.refl,ht,.nil⟩;simp only;rw[eK,show decide (0<q.length)=true from eV eb];rfl
   ·have eb:¬ 0<q.length:=by simp at ab;omega
    have me:oy x.ee i=s:=by rw[eK,show decide (0<q.length)=false from dU eb];rfl
    refine⟨_,_,.sub (mw _ _) (.k3 rfl (by simp) .refl),hW ag,⟨some ⟨b,0,none⟩,x.n,x.n,s⟩,rfl,⟨⟨by simp[fc],⟨b2 _,by simp only;omega⟩,.inr ⟨_,rfl,rfl,_,_,_,mI ..,?_⟩⟩⟩,me.symm,rfl⟩;simp[fc];exact fN (by simp[fc])
def X3{x:jM}(ad:x.ok I)(aC:x.n<=1099511627776)(cc:∀ l∈x.ee,valid x.ee.length l){i:Nat}(hi:i<x.n):Spec Tryz.prog 94 [x.val,.int .i64 i] I [] λv I' M'=>(∀ b o,I b=some o->I' b=some o)/\∃ r:ox,v=r.val/\r.ok I'/\r.l=oy x.ee i/\M'=[]:=by
 refine cg [] a7 Tryz.func94 rfl rfl rfl ?_;intro B az;have nu:=ad.n;have gC:x.ee.length=x.n:=by simp[jM.ee,nu]
 refine c4.scope a7 rfl (X0 I x) (λ_=>0) (LH I x.ee i) (λy=>y.2.2.2.2) (λ_=>Lp (Ew (Tryz.f94.body.getD .skip)) 0) (λ_ _=>⟨by kernel_rfl,by kernel_rfl⟩) ?_ ?_
 ·refine m0.mk x.n x.n rfl rfl (b2 _) (by show 1*x.n<=_;omega) (by omega) ?_;refine b'.mk λb ag sN=>?_;refine bf.mk ⟨b,0,none⟩ i rfl rfl hi ?_;have af:rowOf [.bool false] (x.n*1)=(List.replicate x.n false).map Value.bool:=by rw[tL,fa,xY]
  refine b8.add [] [] (((List.replicate x.n false).map Value.bool).toArray) 4 (by rw[<-af];rfl) ?_ rfl ?_;·simp only[oZ,bE,sO];show 0+i*1+1<=_;omega
  refine b'.mk λb6 Ck Qj=>?_;have e:=Ek (List.replicate x.n false) i (by simpa using hi) true;have dS:=wL.start (L:=x.ee) (i:=i) (by omega);rw[gC]at dS;have key:=λG pc=>X1 ad aC cc (i:=i) (b,(List.replicate x.n false).set i true,⟨some b6,1,1,[.int .i64 i]⟩,[(i:Int)],2*x.n+2) ⟨ag,⟨rfl,(λh=>by cases h),λbR _=>⟨rfl,b2 _,by simp only[maxLen];omega,rfl⟩⟩,dS,by simp,?_,by simp only;omega,by simp only[oy];rw[gC]⟩ (p:=λl y=>LH I x.ee i y/\0=l) (λz bb _=>⟨bb,rfl⟩) B az G pc;·refine XZ (t1:=0) (t2:=5) (t3:=6) (λG pc=>?_) rfl rfl rfl;have cE:=key G pc;simp only[iI]at cE;rw[<-e]at cE;simp only[cX,fa];exact cE
  ·simp only;have:=XU ((List.replicate x.n false).set i true);simp only[n4,sO,c2,fs]at this |-;omega
 ·intro y aH;exact XZ (t1:=0) (t2:=5) (t3:=6) (λG pc=>X1 ad aC cc y aH (λz bb a1=>⟨⟨bb,rfl⟩,a1⟩) B az G pc) rfl rfl rfl
def QD(wh:Bool):∀ (s:List Bool) (i:Nat) (k:Int),k∈lN wh i s ↔ ∃ j:Nat,k=((i+j:Nat):Int)/\s[j]?=some wh
 |[],i,k=>by simp[lN]
 |b::s,i,k=>by
  have aF:=QD wh s (i+1) k;unfold lN;have tail:(∃ j:Nat,k=((i+1+j:Nat):Int)/\s[j]?=some wh) ↔ ∃ j:Nat,k=((i+(j+1):Nat):Int)/\(b::s)[j+1]?=some wh:=by
   constructor;·rintro⟨j,aa,ab⟩;exact⟨j,by rw[aa];omega,by simpa using ab⟩
   ·rintro⟨j,aa,ab⟩;exact⟨j,by rw[aa];omega,by simpa using ab⟩
  have split:(∃ j:Nat,k=((i+j:Nat):Int)/\(b::s)[j]?=some wh) ↔ (k=(i:Int)/\b=wh)\/∃ j:Nat,k=((i+(j+1):Nat):Int)/\(b::s)[j+1]?=some wh:=by
   constructor
   ·rintro⟨j,aa,ab⟩;cases j with
    |zero=>exact .inl ⟨by simpa using aa,by simpa using ab⟩| succ j=>exact .inr ⟨j,aa,ab⟩
   ·rintro(⟨aa,ab⟩ | ⟨j,aa,ab⟩)
    ·exact⟨0,by simpa using aa,by simpa using ab⟩
    ·exact⟨j+1,aa,ab⟩
  rw[split];cases ag:b == wh with
  |true=>
   have:b=wh:=by simpa using ag
   simp only[cb,eg,aF,tail];simp[this]
  |false=>
   have:b≠wh:=by simpa using ag
   simp only[b5,aF,tail];simp[this]
def ajm{wh:Bool}{s:List Bool}:valid s.length (lN wh 0 s):=λk ae=>by obtain⟨j,aa,ab⟩:=(QD wh s 0 k).1 ae;have:=(ij.1 ab).1;omega
def ajn(g:cD)(t:bP):valid g.n (HS g t):=by have h:=ajm (wh:=true) (s:=ph g.ds g.n (hY t.ns));rw[Qx]at h;exact h
def ED(aC:g.ds.length=g.n):∀ l∈gi g,valid (gi g).length l:=by intro l ay;obtain⟨d,_,rfl⟩:=cA.1 ay;simp only[gi,bE,aC];exact ajn g d.t
def ajo{s:List Bool}{k:Nat}:(k:Int)∈lN true 0 s ↔ ic s k:=by
 rw[QD];unfold ic;constructor
 ·rintro⟨j,aa,ab⟩;have:k=j:=by omega
  subst this;simp[bt,ab]
 ·intro h;refine⟨k,by omega,?_⟩;have ay:=ajh h;simp only[bt,db ay,j']at h;rw[db ay,h]
def gM(L:List (List Int)):List (List Bool):=(List.range L.length).map λi=>oy L i
def nv(R:List (List Bool))(i k:Nat):Bool:=(R.getD i []).getD k false
def km(R:List (List Bool))(i:Nat):Nat->Nat->List Bool->List Int->List Bool×List Int
 |0,_,p,q=>(p,q)| f+1,k,p,q=>bif nv R i k&&nv R k i then km R i f (k+1) (p.set k true) (q++[(k:Int)])else km R i f (k+1) p q
def wM(R:List (List Bool))(n:Nat):Nat->Nat->List Bool->List (List Int)->List (List Int)
 |0,_,_,ps=>ps| f+1,i,p,ps=>bif p.getD i false then wM R n f (i+1) p ps else wM R n f (i+1) (km R i (n-i) i p []).1 (ps++[(km R i (n-i) i p []).2])
def mO(L:List (List Int)):List (List Int):=wM (gM L) L.length L.length 0 (List.replicate L.length false) []
def QE(R:List (List Bool))(i:Nat):∀ (f k:Nat) (p:List Bool) (q:List Int),(km R i f k p q).1.length=p.length/\(km R i f k p q).2.length<=q.length+f
 |0,k,p,q=>by simp[km]
 |f+1,k,p,q=>by
  unfold km;cases nv R i k&&nv R k i with
  |true=>obtain⟨aa,ab⟩:=QE R i f (k+1) (p.set k true) (q++[(k:Int)]);simp only[cb];refine⟨by rw[aa];simp,?_⟩;simp only[b3,c2,fs]at ab;omega
  |false=>obtain⟨aa,ab⟩:=QE R i f (k+1) p q;simp only[b5];exact⟨aa,by omega⟩
def kR(R:List (List Bool))(i k:Nat):Prop:=nv R i k=true/\nv R k i=true
def QF{R:List (List Bool)}{i n:Nat}:∀ (f k:Nat) (p:List Bool) (q:List Int),k+f=n->p.length=n->(∀ a,k<=a->a<n->kR R i a->¬ ic p a) -> (∀ a,ic (km R i f k p q).1 a ↔ ic p a\/(k<=a/\a<n/\kR R i a)) /\ (∀ x,x∈(km R i f k p q).2 ↔ x∈q\/∃ a:Nat,x=(a:Int)/\k<=a/\a<n/\kR R i a) /\ pi (km R i f k p q).1+(km R i f k p q).2.length=pi p+q.length
 |0,k,p,q,ae,aB,ak=>by
  refine⟨λa=>?_,λx=>?_,rfl⟩
  ·constructor
   ·exact .inl
   ·rintro(h | ⟨aa,ab,_⟩)
    ·exact h
    ·omega
  ·constructor
   ·exact .inl
   ·rintro(h | ⟨a,_,aa,ab,_⟩)
    ·exact h
    ·omega
 |f+1,k,p,q,ae,aB,ak=>by
  unfold km;cases hm:nv R i k&&nv R k i with
  |true=>
   have r2:kR R i k:=by simpa[kR]using hm
   have sZ:k<p.length:=by omega
   have ajp:=ak k (b2 _) (by omega) r2;obtain⟨aa,ab,aj⟩:=QF (n:=n) f (k+1) (p.set k true) (q++[(k:Int)]) (by omega) (by simpa using aB) (λa ajq pj HU an=>by
    rcases(EC sZ).1 an with rfl | an;·omega
    ·exact ak a (by omega) pj HU an)
   simp only[cb];refine⟨λa=>?_,λx=>?_,?_⟩
   ·rw[aa,EC sZ];constructor
    ·rintro((rfl | h) | ⟨a8,ba,bR⟩)
     ·exact .inr ⟨b2 _,by omega,r2⟩
     ·exact .inl h
     ·exact .inr ⟨by omega,ba,bR⟩
    ·rintro(h | ⟨a8,ba,bR⟩)
     ·exact .inl (.inr h)
     ·by_cases e:a=k
      ·exact .inl (.inl e)
      ·exact .inr ⟨by omega,ba,bR⟩
   ·rw[ab];simp only[cF,ec];constructor
    ·rintro((h | h) | ⟨a,pk,a8,ba,bR⟩)
     ·exact .inl h
     ·exact .inr ⟨k,h,b2 _,by omega,r2⟩
     ·exact .inr ⟨a,pk,by omega,ba,bR⟩
    ·rintro(h | ⟨a,pk,a8,ba,bR⟩)
     ·exact .inl (.inl h)
     ·by_cases e:a=k
      ·subst e;exact .inl (.inr pk)
      ·exact .inr ⟨a,pk,by omega,ba,bR⟩
   ·have au:=LD p k sZ (by simpa[ic]using ajp);simp only[b3,c2,fs]at aj;omega
  |false=>
   have r2:¬ kR R i k:=by intro h;rw[h.1,h.2]at hm;cases hm
   obtain⟨aa,ab,aj⟩:=QF (n:=n) f (k+1) p q (by omega) aB (λa ajq pj HU an=>ak a (by omega) pj HU an);simp only[b5];refine⟨λa=>?_,λx=>?_,aj⟩
   ·rw[aa];constructor
    ·rintro(h | ⟨a8,ba,bR⟩)
     ·exact .inl h
     ·exact .inr ⟨by omega,ba,bR⟩
    ·rintro(h | ⟨a8,ba,bR⟩)
     ·exact .inl h
     ·by_cases e:a=k
      ·subst e;exact(r2 bR).elim
      ·exact .inr ⟨by omega,ba,bR⟩
   ·rw[ab];constructor
    ·rintro(h | ⟨a,pk,a8,ba,bR⟩)
     ·exact .inl h
     ·exact .inr ⟨a,pk,by omega,ba,bR⟩
    ·rintro(h | ⟨a,pk,a8,ba,bR⟩)
     ·exact .inl h
     ·by_cases e:a=k
      ·subst e;exact(r2 bR).elim
      ·exact .inr ⟨a,pk,by omega,ba,bR⟩
structure X4(R:List (List Bool))(n:Nat):Prop where
 refl:∀ i,i<n->kR R i i
 trans:∀ i j k,kR R i j->kR R j k->kR R i k
def kR.symm{R:List (List Bool)}{i j:Nat}(h:kR R i j):kR R j i:=⟨h.2,h.1⟩
def Comes.trans{i j k:Nat}(aa:Comes L i j)(ab:Comes L j k):Comes L i k:=by
 induction ab with
 |self=>exact aa| next _ ae aF=>exact .next aF ae
def uc(cc:∀ l∈L,valid L.length l){i k:Nat}(hi:i<L.length):nv (gM L) i k=true ↔ Comes L i k:=by
 have h:=(Cr cc hi).iff k;have e:(gM L).getD i []=oy L i:=by simp[gM,bt,hi]
 unfold nv;rw[e];exact h
def QG{i k:Nat}(h:nv (gM L) i k=true):i<L.length:=by
 apply Lb;intro bq;have e:(gM L).getD i []=[]:=by simp[gM,bt,bq]
 unfold nv at h;rw[e]at h;simp at h
def X5(cc:∀ l∈L,valid L.length l):X4 (gM L) L.length:=by refine⟨λi hi=>⟨(uc cc hi).2 .self,(uc cc hi).2 .self⟩,λi j k aa ab=>?_⟩;have cM:=QG aa.1;have d':=QG aa.2;have eh:=QG ab.2;exact⟨(uc cc cM).2 (((uc cc cM).1 aa.1).trans ((uc cc d').1 ab.1)),(uc cc eh).2 (((uc cc eh).1 ab.2).trans ((uc cc d').1 aa.2))⟩
def z8(i:Int)(n:Nat):Bool:=!decide (i<0) && !decide ((n:Int)<=i)
def X6(cc:∀ l∈L,valid L.length l){i:Nat}(hi:i<L.length):(oy L i).length=L.length:=(Cr cc hi).len
def idxOf(q:Int->Bool):List Int->Nat->Int
 |[],_=>-1| k::ks,i=>bif q k then(i:Int)else idxOf q ks (i+1)
def X7(q:Int->Bool):∀ (l:List Int) (i:Nat),decide ((0:Int)<=idxOf q l i)=l.any q
 |[],i=>by simp[idxOf]
 |k::ks,i=>by
  have:=X7 q ks (i+1);unfold idxOf;cases h:q k with
  |true=>simp[h]| false=>simpa[h]using this
def ajr{r:lk}(af:r.ok I)(q:Int->Bool)(aA:∀ k∈r.l,∀ I1,(∀ b o,I b=some o->I1 b=some o)->Spec Tryz.prog f (.int .i64 k::cap.toList) I1 M λv I' M'=>v=.bool (q k)/\(∀ b o,I1 b=some o->I' b=some o)/\M'=M) :
  Spec Tryz.prog 146 [r.val,.func (.func f) #[] cap] I M λv I' M'=>v=.int .i64 (idxOf q r.l 0)/\(∀ b o,I b=some o->I' b=some o)/\M'=M:=by
 refine cg [] a7 Tryz.func146 rfl rfl rfl ?_;intro B az;have hy:=af.n;have yp:=af.a2.cap;refine dg.inv (ι:=Nat×aM) (λx=>{ bj:=[(0,.val r.val),(1,.val (.func (.func f) #[] cap)),(7,.val (.int .i64 r.n)),(8,.val (.int .i64 x.1))],cI:=x.2,de:=M }) (λx=>x.1<=r.n/\(∀ b o,I b=some o->x.2 b=some o)/\idxOf q r.l 0=idxOf q (r.l.drop x.1) x.1) (λx=>r.n-x.1) ?_ ?_
 ·exact⟨(0,I),⟨by simp,λ_ _ h=>h,rfl⟩,.refl,ej,.nil⟩
 ·rintro⟨i,I1⟩⟨hi,cu,ad⟩;simp only at hi cu ad;refine a3.mk (λh=>?_) (λh=>?_)
  ·have a1:i<r.n:=by simpa using h
   have cq:i<r.l.length:=by omega
   obtain⟨aU,bK,bm⟩:=(af.mono cu).a2.one a1 cq;have jn:r.l.drop i=r.l[i]::r.l.drop (i+1):=e1 cq;refine bf.mk aU i bK rfl a1 ?_;refine aR.mk _ (bm _) ?_;refine bd.mk M [] _ (by simp) (aA _ (bi cq) I1 cu) ?_;rintro v dz dm et⟨rfl,-,rfl⟩;refine a3.mk (λab=>?_) (λab=>?_);·refine⟨_,_,.refl,?_,λb o h=>et _ _ (cu _ _ h),by simp⟩;rw[ad,jn,idxOf,ab];rfl
   ·refine bg.mk _ (cL (i:=i) (by omega)) ?_;refine⟨(i+1,dz),⟨⟨by simp only;omega,λb o h=>et _ _ (cu _ _ h),?_⟩,by simp only;omega⟩,.perm (by simp) .refl,ej,.nil⟩;simp only;rw[ad,jn,idxOf,ab];rfl
  ·have cJ:r.n<=i:=by simpa using h
   refine⟨_,_,.refl,?_,cu,rfl⟩;rw[ad,ki (by omega)];rfl
def ajs{r:lk}(af:r.ok I)(q:Int->Bool)(aA:∀ k∈r.l,∀ I1,(∀ b o,I b=some o->I1 b=some o)->Spec Tryz.prog f (.int .i64 k::cap.toList) I1 M λv I' M'=>v=.bool (q k)/\(∀ b o,I1 b=some o->I' b=some o)/\M'=M) :
  Spec Tryz.prog 92 [r.val,.func (.func f) #[] cap] I M λv I' M'=>v=.bool (r.l.any q)/\(∀ b o,I b=some o->I' b=some o)/\M'=M:=by
 refine cg [] a7 Tryz.func92 rfl rfl rfl ?_;intro B az;refine bd.mk M [] _ (by simp) (ajr af q aA) ?_;rintro v dz dm -⟨rfl,et,rfl⟩;refine⟨_,_,.refl,?_,et,by simp⟩;rw[<-X7 q r.l 0]
def jx(al:List Int)(g:cD)(i:Int):Bool:=
 bif z8 i g.n&&decide (dj al g=0)then((gi g).getD i.toNat []).any λk=>(oy (gi g) k.toNat).getD i.toNat false else false
def ajt{x:jM}(ad:x.ok I)(aC:x.n<=1099511627776)(cc:∀ l∈x.ee,valid x.ee.length l){i:Nat}(hi:i<x.n){k:Int}(ae:0<=k/\k<x.n){eP cw:Nat} :
  Spec Tryz.prog 93 [.int .i64 k,ptr eP,ptr cw] I [⟨eP,.cells #[x.val] 134 (0,0)⟩,⟨cw,.cells #[.int .i64 i] 3 (0,0)⟩]
   λv I' M'=>v=.bool ((oy x.ee k.toNat).getD i false)/\(∀ b o,I b=some o->I' b=some o)/\M'=[⟨eP,.cells #[x.val] 134 (0,0)⟩,⟨cw,.cells #[.int .i64 i] 3 (0,0)⟩]:=by
 refine cg [] a7 Tryz.func93 rfl rfl rfl ?_;intro B az;have nu:=ad.n;have gC:x.ee.length=x.n:=by simp[jM.ee,nu]
 obtain⟨k,rfl⟩:=ea ae.1;have cv:k<x.n:=by omega
 have me:=X6 cc (i:=k) (by omega);refine c4.draw a7 rfl rfl rfl ?_;refine aR.mk [x.val] ⟨rfl,_,_,_,.inr ⟨_,.head _,rfl,rfl⟩,rfl,rfl⟩ ?_;refine aR.mk [.int .i64 i] ⟨rfl,_,_,_,.inr ⟨_,.tail _ (.head _),rfl,rfl⟩,rfl,rfl⟩ ?_;refine eR.mk _ (X3 ad aC cc cv) ?_;rintro v dz dm -⟨et,r,rfl,af,fC,rfl⟩;have hy:=af.n;have dL:i<r.n:=by rw[<-hy,fC,me];omega
 obtain⟨aU,bK,bm⟩:=af.a2.one dL (by omega);refine bf.mk aU i bK rfl dL ?_;refine aR.mk _ (bm _) ?_;refine⟨_,_,.refl,?_,et,rfl⟩;have e:(oy x.ee k)[i]?=some (r.l[i]'(by omega)):=by rw[<-fC];exact db (by omega)
 simp only[gz,x',bt,e,j'];rfl
def QH(bp:fW I al)(av:g.ok I)(aC:g.n<=1099511627776)(i:Int):Spec Tryz.prog 46 [g.val,.int .i64 i] I [] λv I' M'=>v=.bool (jx al g i)/\(∀ b o,I b=some o->I' b=some o)/\M'=[]:=by
 refine cg [3,5] a7 Tryz.func46 rfl rfl rfl ?_;intro B az;have fl:=av.n;refine b'.mk λcw r6 aju=>?_;have QI:∀ {I1:aM} {M:List aE},(⟨cw,.cells #[.int .i64 i] 3 (0,0)⟩:aE)∈M->cO I1 M ⟨cw,0,none⟩ 1 [.int .i64 i]:=λh=>⟨rfl,_,_,_,.inr ⟨_,h,rfl,rfl⟩,rfl,rfl⟩;refine bd.mk [] [⟨cw,.cells #[.int .i64 i] 3 (0,0)⟩] _ (.refl _) (XY bp av aC) ?_;rintro v I1 M1 -⟨cu,rfl,⟨hm,rfl⟩|⟨hm,x,rfl,ad,hz⟩⟩
 ·refine b'.mk λeP z5 EA=>?_;refine b8.mk [] [⟨cw,.cells #[.int .i64 i] 3 (0,0)⟩] _ _ rfl rfl (bI rfl) rfl ?_;refine cj.mk (λh=>by cases h) (λ_=>?_);refine⟨_,_,.sub (fk _) .refl,?_,cu,rfl⟩;have pg:decide (dj al g=0)=false:=by simpa using hm
  rw[jx,pg,Ez];rfl
 ·have pg:decide (dj al g=0)=true:=by simpa using hm
  have nu:x.n=g.n:=by have aa:=ad.n;have ab:=congrArg List.length hz;simp only[jM.ee,bE,gi]at ab;omega
  have ah:∀ l∈x.ee,valid x.ee.length l:=by rw[hz];exact ED fl
  refine b'.mk λeP z5 EA=>?_;refine b8.mk [] [⟨cw,.cells #[.int .i64 i] 3 (0,0)⟩] _ _ rfl rfl (bI rfl) rfl ?_;have z9:∀ {I1:aM} {M:List aE},(⟨eP,.cells #[x.val] 134 (0,0)⟩:aE)∈M->cO I1 M ⟨eP,0,none⟩ 1 [x.val]:=λh=>⟨rfl,_,_,_,.inr ⟨_,h,rfl,rfl⟩,rfl,rfl⟩;refine cj.mk (λ_=>?_) (λh=>by cases h);refine aR.mk _ (QI (.tail _ (.head _))) ?_;refine cj.mk (λaa=>?_) (λaa=>?_)
  ·refine aR.mk _ (QI (.tail _ (.head _))) ?_;refine aR.mk [x.val] (z9 (.head _)) ?_;refine a3.mk (λab=>?_) (λab=>?_)
   ·refine⟨_,_,.sub (fk _) .refl,?_,cu,rfl⟩;have ma:decide ((g.n:Int)<=i)=true:=by rw[<-nu];exact ab
    rw[jx,z8,aa,ma];rfl
   ·have ma:decide ((g.n:Int)<=i)=false:=by rw[<-nu];exact ab
    have ajv:0<=i:=by simpa using aa
    have ft:i<g.n:=by simpa using ma
    obtain⟨j,rfl⟩:=ea ajv;have kn:j<x.rows.length:=by have:=ad.n;omega
    obtain⟨Ct,Cu,fE⟩:=ad.a2.one (j:=j) (by omega) kn;have p6:=ad.rows _ (bi kn);refine aR.mk [x.val] (z9 (.head _)) ?_;refine aR.mk _ (QI (.tail _ (.head _))) ?_;refine bf.mk Ct j Cu rfl (by omega) ?_;refine aR.mk _ (fE _) ?_;have ajw:x.ee.getD j []=x.rows[j].l:=by simp[jM.ee,bt,kn]
    have gC:x.ee.length=x.n:=by simp[jM.ee,ad.n]
    have ajx:valid x.ee.length x.rows[j].l:=ah _ (by simp only[jM.ee];exact cA.2 ⟨_,bi kn,rfl⟩);refine bd.mk [⟨eP,.cells #[x.val] 134 (0,0)⟩,⟨cw,.cells #[.int .i64 (j:Nat)] 3 (0,0)⟩] [] _ (by simp;rfl) (ajs p6 (f:=93) (cap:=#[ptr eP,ptr cw]) (λk=>(oy x.ee k.toNat).getD j false) (λk ae dz et=>ajt (ad.mono et) (by omega) ah (i:=j) (by omega) (by have:=ajx k ae;omega))) ?_;rintro v dz dm -⟨rfl,et,rfl⟩;refine⟨_,_,.sub (fk _) .refl,?_,λb o h=>et _ _ (cu _ _ h),rfl⟩;rw[jx,z8,aa,ma,pg,<-hz];simp only[gz,x',ajw];rfl
  ·refine⟨_,_,.sub (fk _) .refl,?_,cu,rfl⟩;rw[jx,z8,aa];rfl
structure z' where
 rows:List ox
 a:Option Addr
 n:Nat
 c:Nat
def z'.val(x:z'):Value:=.slice x.a x.n x.c
structure z'.ok(I:aM)(x:z'):Prop where
 a2:dh I x.a x.n x.c 1 24 (x.rows.map ox.val)
 rows:∀ r∈x.rows,r.ok I
def z'.ok.mono{x:z'}(h:x.ok I)(bz:∀ b o,I b=some o->I' b=some o):x.ok I':=⟨h.a2.mono bz,λr af=>(h.rows r af).mono bz⟩
def ajy(a c:α)(LI hZ:List α):(a::((LI++hZ)++[c])).Perm (LI++(hZ++[c,a])):=by have h:=HR a c (LI++hZ);rwa [dY LI hZ [c,a]]at h
def ajz(a r:α)(Q O:List α):(a::(Q++(O++[r]))).Perm (O++(Q++[r,a])):=by
 have aa:(Q++(O++[r])).Perm (O++Q++[r]):=by rw[<-dY];exact eI.append_right [r]
 have ab:=(aa.cons a).trans (HR a r (O++Q));rwa [dY]at ab
def ajA(g r b:α)(Q:List α):(g::(Q++[r,b])).Perm ([b]++(Q++[g,r])):=by have aa:(Q++[r,b]).Perm (b::(Q++[r])):=(HR b r Q).symm;have ab:(g::(Q++[r])).Perm (Q++[g,r]):=mN.symm;exact((aa.cons g).trans (List.Perm.swap b g _)).trans (ab.cons b)
def HV(al:List Int)(g:cD):List (List Int):=bif decide (dj al g=0)then mO (gi g)else []
def ajB(bp:fW I al)(av:g.ok I)(aC:g.n<=1099511627776):Spec Tryz.prog 131 [g.val] I [] λv I' M'=>(∀ b o,I b=some o->I' b=some o)/\∃ (os:aY) (a2:List lk),v=os.val/\os.ok 1 (a2.map lk.val)/\(∀ r∈a2,r.ok I')/\a2.map (·.l)=HV al g/\M'=os.ar 55:=by
 refine cg [] a7 Tryz.func131 rfl rfl rfl ?_;intro B az;have fl:=av.n;refine bd.mk [] [] _ (.refl _) (XY bp av aC) ?_;rintro v I1 M1 -⟨cu,rfl,⟨hm,rfl⟩|⟨hm,x,rfl,ad,hz⟩⟩
 ·refine a3.mk (λ_=>?_) (λh=>by cases h);refine⟨_,_,.refl,cu,ib,[],rfl,lM 1,by simp,?_,rfl⟩;have pg:decide (dj al g=0)=false:=by simpa using hm
  rw[HV,pg];rfl
 ·have pg:decide (dj al g=0)=true:=by simpa using hm
  have oz:HV al g=mO x.ee:=by rw[HV,pg,hz];rfl
  rw[oz];have Cv:=ad.n;have nu:x.n=g.n:=by have ab:=congrArg List.length hz;simp only[jM.ee,bE,gi]at ab;omega
  have ah:∀ l∈x.ee,valid x.ee.length l:=by rw[hz];exact ED fl
  have gC:x.ee.length=x.n:=by simp[jM.ee,Cv]
  refine a3.mk (λh=>by cases h) (λ_=>?_);refine m0.mk x.n x.n rfl rfl (b2 _) (by show 24*x.n<=_;omega) (by omega) ?_;refine b'.mk λb ag sN=>?_;refine dg.inv (ι:=Nat×List ox×aM) (λy=>{ bj:=[(3,.val x.val),(5,.val (.slice (some ⟨b,0,none⟩) x.n x.n)),(23,.val (.int .i64 x.n)),(24,.val (.int .i64 y.1))],cI:=y.2.2,de:=[⟨b,.cells (y.2.1.map ox.val++List.replicate (x.n-y.1) (Value.slice none 0 0)).toArray 138 (0,0)⟩] }) (λy=>y.1<=x.n/\y.2.1.length=y.1/\(∀ b o,I1 b=some o->y.2.2 b=some o)/\y.2.2 b=none/\(∀ r∈y.2.1,r.ok y.2.2)/\y.2.1.map (·.l)=(List.range y.1).map (λi=>oy x.ee i)) (λy=>x.n-y.1) ?_ ?_;·refine⟨(0,[],I1),⟨by simp,rfl,λ_ _ h=>h,ag,by simp,rfl⟩,?_,ej,.nil⟩;show il _ _ [⟨b,.cells (rowOf [.slice none 0 0] (x.n*1)).toArray 138 (0,0)⟩] _ _;rw[tL,fa];exact .refl
  ·rintro⟨i,a2,dz⟩⟨hi,fC,et,gS,g0,ei⟩;simp only at hi fC et gS g0 ei;refine a3.mk (λh=>?_) (λh=>?_)
   ·have a1:i<x.n:=by simpa using h
    refine bd.zi [] [⟨b,.cells (a2.map ox.val++List.replicate (x.n-i) (Value.slice none 0 0)).toArray 138 (0,0)⟩] _ (.refl _) (X3 (ad.mono et) (by omega) ah (i:=i) a1) ?_;rintro v h9 sL-z6⟨iP,r,rfl,af,ajC,rfl⟩;refine bf.mk ⟨b,0,none⟩ i rfl rfl a1 ?_;refine b8.add [] [] _ _ rfl ?_ rfl ?_;·simp only[oZ,b3,bE,sO];show 0+i*1+1<=_;omega
    refine bg.mk _ (cL (i:=i) (by omega)) ?_;refine⟨(i+1,a2++[r],h9),⟨⟨by simp only;omega,by simp[fC],λb o h=>iP _ _ (et _ _ h),z6 _ (.head _),λrC e6=>?_,?_⟩,by simp only;omega⟩,?_,ej,.nil⟩
    ·simp only[cF,ec]at e6;rcases e6 with e6 | rfl
     ·exact(g0 rC e6).mono iP
     ·exact af
    ·simp only;rw[cP,ei,Co,cP];simp[ajC]
    ·have Cs:List.replicate (x.n-i) (Value.slice none 0 0)=.slice none 0 0::List.replicate (x.n-(i+1)) (.slice none 0 0):=by rw[show x.n-i=(x.n-(i+1))+1 from by omega,HM]
     have e:=XX (a9:=a2.map ox.val) (post:=List.replicate (x.n-(i+1)) (.slice none 0 0)) (z:=.slice none 0 0) (v:=r.val) (k:=0+i*1) (by simp[fC]);rw[Cs];simp only[cP,bX,hx,dY,mF,iF];rw[<-e];exact .refl
   ·have cJ:x.n<=i:=by simpa using h
    have e8:i=x.n:=by omega
    subst e8;have ajD:a2.map (·.l)=gM x.ee:=by rw[ei,gM,gC]
    have QJ:z'.ok (ins dz b (.cells (a2.map ox.val++List.replicate (x.n-x.n) (Value.slice none 0 0)).toArray 138 (0,0))) ⟨a2,some ⟨b,0,none⟩,x.n,x.n⟩:=by refine⟨⟨by simp[fC],⟨b2 _,by simp only;omega⟩,.inr ⟨_,rfl,rfl,_,_,_,mI ..,?_⟩⟩,λr af=>(g0 r af).mono (hW gS)⟩;simp[fC];exact fN (by simp[fC])
    generalize aV:(⟨a2,some ⟨b,0,none⟩,x.n,x.n⟩:z')=R at QJ;have ajE:R.val=.slice (some ⟨b,0,none⟩) x.n x.n:=by rw[<-aV];rfl
    have X8:R.rows=a2:=by rw[<-aV]
    have WD:R.n=x.n:=by rw[<-aV]
    have X9:R.a=some ⟨b,0,none⟩:=by rw[<-aV]
    generalize lI:ins dz b (.cells (a2.map ox.val++List.replicate (x.n-x.n) (Value.slice none 0 0)).toArray 138 (0,0))=dt at QJ;have ajF:∀ b o,dz b=some o->dt b=some o:=by rw[<-lI];exact hW gS
    refine m0.mk x.n x.n rfl rfl (b2 _) (by show 1*x.n<=_;omega) (by omega) ?_;refine b'.mk λfX EE ajG=>?_;refine dg.inv (ι:=Nat×List Bool×aY×List lk×aM) (λy=>{ bj:=[(3,.val x.val),(5,.val R.val),(7,.val y.2.2.1.val),(8,.val (.slice (some ⟨fX,0,none⟩) x.n x.n)),(38,.val (.int .i64 x.n)),(39,.val (.int .i64 y.1))],cI:=y.2.2.2.2,de:=y.2.2.1.ar 55++[iI fX y.2.1] }) (λy=>y.1<=x.n/\y.2.1.length=x.n/\y.2.2.1.ok 1 (y.2.2.2.1.map lk.val)/\(∀ b o,dt b=some o->y.2.2.2.2 b=some o)/\(∀ r∈y.2.2.2.1,r.ok y.2.2.2.2)/\y.2.2.2.1.length<=y.1/\mO x.ee=wM (gM x.ee) x.n (x.n-y.1) y.1 y.2.1 (y.2.2.2.1.map (·.l))) (λy=>x.n-y.1) ?_ ?_
    ·refine⟨(0,List.replicate x.n false,ib,[],dt),⟨by simp,by simp,lM 1,λ_ _ h=>h,by simp,by simp,by simp only[mO,gC];rfl⟩,?_,.cons .refl (.cons (by simp only[ajE];exact .refl) (ej)),.nil⟩;have ajH:rowOf [.bool false] (x.n*1)=(List.replicate x.n false).map Value.bool:=by rw[tL,fa,xY]
     show il _ _ [⟨fX,.cells (rowOf [.bool false] (x.n*1)).toArray 4 (0,0)⟩,_] _ _;rw[ajH];refine .perm (List.Perm.swap _ _ _) (.k3 rfl (by simp) ?_);rw[lI];exact .refl
    ·rintro⟨i,p,os,ws,h9⟩⟨hi,iO,bU,iP,sS,yo,eK⟩;simp only at hi iO bU iP sS yo eK;refine a3.mk (λh=>?_) (λh=>?_)
     ·have a1:i<x.n:=by simpa using h
      have EF:i<p.length:=by omega
      have wN:=QJ.mono iP;have QK:os.n=ws.length:=by have:=bU.len;simp at this;omega
      have o5:p.getD i false=p[i]:=by simp[bt,EF]
      have HW:mO x.ee=bif p.getD i false then wM (gM x.ee) x.n (x.n-(i+1)) (i+1) p (ws.map (·.l))else wM (gM x.ee) x.n (x.n-(i+1)) (i+1) (km (gM x.ee) i (x.n-i) i p []).1 (ws.map (·.l)++[(km (gM x.ee) i (x.n-i) i p []).2]):=by rw[eK,show x.n-i=(x.n-(i+1))+1 from by omega,wM,show(x.n-(i+1))+1=x.n-i from by omega]
      refine bf.mk ⟨fX,0,none⟩ i rfl rfl a1 ?_;refine aR.mk _ (Hm (by simp) EF) ?_;refine a3.mk (λab=>?_) (λab=>?_);·rw[o5,ab]at HW;refine bg.mk _ (cL (i:=i) (by omega)) ?_;exact⟨(i+1,p,os,ws,h9),⟨⟨by simp only;omega,iO,bU,iP,sS,by simp only;omega,HW⟩,by simp only;omega⟩,.refl,oX,.nil⟩
      ·rw[o5,ab,b5]at HW;refine dg.inv (ι:=Nat×List Bool×aY×List Int) (λz=>{ bj:=[(3,.val x.val),(5,.val R.val),(7,.val os.val),(8,.val (.slice (some ⟨fX,0,none⟩) x.n x.n)),(9,.val (.int .i64 i)),(10,.val z.2.2.1.val),(11,.val (.int .i64 z.1)),(38,.val (.int .i64 x.n)),(39,.val (.int .i64 i))],cI:=h9,de:=z.2.2.1.ar 3++(os.ar 55++[iI fX z.2.1]) }) (λz=>z.1<=x.n/\i<=z.1/\z.2.1.length=x.n/\z.2.2.1.ok 1 (z.2.2.2.map (.int .i64 ·))/\(∀ g,z.2.2.1.a=some g->h9 g=none)/\z.2.2.2.length<=z.1/\km (gM x.ee) i (x.n-i) i p []=km (gM x.ee) i (x.n-z.1) z.1 z.2.1 z.2.2.2) (λz=>x.n-z.1) ?_ ?_
       ·exact⟨(i,p,ib,[]),⟨by simp only;omega,b2 _,iO,lM 1,(λg h=>by cases h),dw _,rfl⟩,.refl,kh,.nil⟩
       ·rintro⟨k,s,vn,q⟩⟨ae,LJ,fc,qX,LK,eb,QL⟩;simp only at ae LJ fc qX LK eb QL;have awv:=qX.nt;refine a3.mk (λh=>?_) (λh=>?_)
        ·have cv:k<x.n:=by simpa using h
         have X':∀ {j:Nat} (ai:j<x.n),∃ (kn:j<R.rows.length),(R.rows[j]'kn).ok h9/\(R.rows[j]'kn).n=x.n/\(R.rows[j]'kn).l.length=x.n/\∀ a (a6:a<(R.rows[j]'kn).l.length),nv (gM x.ee) j a=(R.rows[j]'kn).l[a]:=fun {j} ai=>by
          have kn:j<R.rows.length:=by rw[X8];omega
          have bw:=wN.rows _ (bi kn);have qY:(gM x.ee).getD j []=(R.rows[j]'kn).l:=by rw[<-ajD,<-X8];simp[bt,kn]
          have ay:(R.rows[j]'kn).l.length=x.n:=by
           rw[<-qY];have:(gM x.ee).getD j []=oy x.ee j:=by simp[gM,bt,gC,ai]
           rw[this,X6 ah (by omega),gC]
          refine⟨kn,bw,by rw[<-bw.n,ay],ay,λa a6=>?_⟩;unfold nv;rw[qY];simp[bt,a6]
         obtain⟨ajI,ajJ,e8,dL,ajK⟩:=X' a1;obtain⟨HX,ajL,ff,EG,ajM⟩:=X' cv;have oW:∀ {j:Nat} (ai:j<R.n) (iC:j<R.rows.length),∃ aU,R.a=some aU/\∀ M,cO h9 M (aU.add (j*1)) 1 [(R.rows[j]'iC).val]:=λai iC=>wN.a2.one ai iC;obtain⟨ajN,po,QM⟩:=oW (j:=i) (by omega) ajI;obtain⟨gr,fB,eY⟩:=oW (j:=k) (by omega) HX;obtain⟨ci,ajO,ajP⟩:=ajJ.a2.one (j:=k) (by omega) (by omega);obtain⟨ajQ,Cw,ajR⟩:=ajL.a2.one (j:=i) (by omega) (by omega);have Cx:km (gM x.ee) i (x.n-i) i p []=bif nv (gM x.ee) i k&&nv (gM x.ee) k i then km (gM x.ee) i (x.n-(k+1)) (k+1) (s.set k true) (q++[(k:Int)])else km (gM x.ee) i (x.n-(k+1)) (k+1) s q:=by rw[QL,show x.n-k=(x.n-(k+1))+1 from by omega,km]
         rw[ajK k (by omega),ajM i (by omega)]at Cx;refine bf.mk ajN i po rfl (by omega) ?_;refine aR.mk _ (QM _) ?_;refine bf.mk ci k ajO rfl (by omega) ?_;refine aR.mk _ (ajP _) ?_;refine cj.mk (λgf=>?_) (λgf=>?_)
         ·refine bf.mk gr k fB rfl (by omega) ?_;refine aR.mk _ (eY _) ?_;refine bf.mk ajQ i Cw rfl (by omega) ?_;refine aR.mk _ (ajR _) ?_;refine a3.mk (λgn=>?_) (λgn=>?_)
          ·have eZ:k<s.length:=by omega
           have e:=Ek s k eZ true;refine bf.mk ⟨fX,0,none⟩ k rfl rfl cv ?_;refine b8.add (vn.ar 3++os.ar 55) [] (s.map Value.bool).toArray 4 (by simp[iI]) ?_ rfl ?_;·simp only[oZ,bE];show 0+k*1+1<=_;omega
           refine b'.mk λb9 lf vh=>?_;refine bB.Hk a7 rfl (by simp) (e:=3) rfl rfl rfl vn qX rfl (m:=1) rfl (ch:=[.int .i64 k]) (by decide) (c5 (b:=b9) (cs:=[.int .i64 k]) (k:=0) (n:=1) (T:=3) (.head _) (by simp)) rfl (Mr:=os.ar 55++[⟨fX,.cells (ck (s.map Value.bool) (0+k*1) [.bool true]).toArray 4 (0,0)⟩,⟨b9,.cells #[.int .i64 k] 3 (0,0)⟩]) (ajy _ _ _ _) (by simp only[maxLen];omega) (by show(vn.n+1)*8<=_;omega) ?_;intro dM c' hJ LC dJ eO eJ iN;refine bg.mk _ (cL (i:=k) (by omega)) ?_;refine⟨(k+1,s.set k true,⟨some dM,vn.n+1,c',hJ⟩,q++[(k:Int)]),⟨⟨by simp only;omega,by simp only;omega,by simpa using fc,?_,λg av=>by cases av;exact LC,by simp only[b3,c2,fs];omega,?_⟩,by simp only;omega⟩,?_,kh,.nil⟩;·simp only;rw[cP];exact LB qX dJ eO eJ iN
           ·simp only;rw[Cx,gf,gn];rfl
           ·simp only[iI];rw[<-e];simp only[cX,fa];exact .sub (.cons_cons _ (List.Sublist.append_left (.cons_cons _ (fk _)) _)) .refl
          ·refine bg.mk _ (cL (i:=k) (by omega)) ?_;refine⟨(k+1,s,vn,q),⟨⟨by simp only;omega,by simp only;omega,fc,qX,LK,by simp only;omega,?_⟩,by simp only;omega⟩,.refl,kh,.nil⟩;simp only;rw[Cx,gf,gn];rfl
         ·refine bg.mk _ (cL (i:=k) (by omega)) ?_;refine⟨(k+1,s,vn,q),⟨⟨by simp only;omega,by simp only;omega,fc,qX,LK,by simp only;omega,?_⟩,by simp only;omega⟩,.refl,kh,.nil⟩;simp only;rw[Cx,gf];rfl
        ·have cJ:x.n<=k:=by simpa using h
         have HY:km (gM x.ee) i (x.n-i) i p []=(s,q):=by rw[QL,show x.n-k=0 from by omega];rfl
         rw[HY]at HW;refine b'.mk λb9 lf vh=>?_;refine bB.Hk a7 rfl (by simp) (e:=55) rfl rfl rfl os bU rfl (m:=1) rfl (ch:=[vn.val]) (by decide) (c5 (b:=b9) (cs:=[vn.val]) (k:=0) (n:=1) (T:=55) (.head _) (by simp)) rfl (Mr:=vn.ar 3++[iI fX s,(⟨b9,.cells #[vn.val] 55 (0,0)⟩:aE)]) (ajz _ _ _ _) (by simp only[maxLen];omega) (by show(os.n+1)*24<=_;omega) ?_;intro dM c' hJ LC dJ eO eJ iN;refine bg.mk _ (cL (i:=i) (by omega)) ?_;obtain⟨rS,r,h8,kH,mB,iX,HT⟩:=aY.XQ (e:=3) qX (by omega) LK [⟨dM,.cells hJ.toArray 55 (0,0)⟩,iI fX s];refine⟨(i+1,s,⟨some dM,os.n+1,c',hJ⟩,ws++[r],rS),⟨⟨by simp only;omega,fc,?_,λb o h=>kH _ _ (iP _ _ h),λrC e6=>?_,by simp only[b3,c2,fs];omega,?_⟩,by simp only;omega⟩,.perm (ajA _ _ _ _) (.sub (mw [(⟨b9,.cells #[vn.val] 55 (0,0)⟩:aE)] _) h8),oX,.nil⟩;·simp only;rw[cP,bX,hx,<-mB];exact LB bU dJ eO eJ iN
         ·simp only[cF,ec]at e6;rcases e6 with e6 | rfl
          ·exact(sS rC e6).mono kH
          ·exact iX
         ·simp only;rw[cP,bX,hx,HT];exact HW
     ·have cJ:x.n<=i:=by simpa using h
      refine⟨_,_,.sub (ua _ _) .refl,λb o h=>iP _ _ (ajF _ _ (et _ _ (cu _ _ h))),os,ws,rfl,bU,sS,?_,rfl⟩;rw[eK,show x.n-i=0 from by omega];rfl
def r7(W:World):aM:=λb=>W.heap[b]?
def ajS(W:World):eF (r7 W) [] W:=⟨λb o h=>h,(λx ad=>by cases ad),(λx ad=>by cases ad),DU⟩
structure Cy(W lj:World):Prop where
 dI:∀ b,b<W.heap.size->lj.heap[b]?=W.heap[b]?
 sz:W.heap.size<=lj.heap.size
 out:oQ W lj
def ajT{args:List Value}{post:Value->aM->List aE->Prop}(h:wc P f args (r7 W) [] post) :
  Calls P f args.toArray W λe lj=>∃ v,e=.returned v/\(∃ I' M',post v I' M')/\Cy W lj:=by
 refine(h.2 W (ajS W)).mono ?_;rintro e lj⟨v,I',M',rfl,aB,_,eG⟩;exact⟨v,rfl,⟨I',M',aB⟩,λb ag=>eG.dI b ag (λy aH=>by cases aH),eG.sz,eG.out⟩
def Cy.kept(h:Cy W lj)(may:MemPlace->Prop):W.keptBut lj may:=by
 refine⟨h.out.1,h.out.2,λi hi=>?_⟩;rw[h.dI i hi];cases W.heap[i]? with
 |none=>rfl| some o=>cases o<;>simp
def Cy.frozen(h:Cy W lj){a:Addr}(a6:a.block<W.heap.size):lj.frozen? a=W.frozen? a:=by unfold World.frozen?;rw[h.dI _ a6]
variable{H:Type}{enc:TypeId×Value->H}{P:Program}
def ajU{f:Func}{s:ChangeSpec}{apart fresh handsOn again:Bool}{args:Array Value}{ds gs:List (DataW H)}{before pa pv:List MemPlace}(h6:DataW.Whole enc P f.params.toList s.vars apart W args.toList ds gs before)(HZ:∀ (b:Nat) (fV:Nat->Bool) (ak:Bool),DataW.TrodAll enc P lj b fV ak f.resultTypes.toList (v.resultList f.resultTypes.size) (s.fn H (ds++gs)).results [])(nw:∀ fV:Nat->Bool,(∀ p∈before,fV p.block=true)->DataW.TrodAll enc P lj 0 fV true f.params.toList args.toList (s.fn H (ds++gs)).args pa)(Ya:∀ fV:Nat->Bool,(∀ p∈before,fV p.block=true)->DataW.TrodVars enc P lj fV s.vars (s.fn H (ds++gs)).vars pv)(EH:before=pa++pv)(ae:Cy W lj)(bw:∀ (j:Nat) (t:TypeId) (r:Value),f.resultTypes[j]?=some t->(v.resultList f.resultTypes.size)[j]?=some r->Value.okWide P lj .any 0 t r) :
  s.post enc P f apart fresh handsOn again W args v lj:=by
 have hold:∀ p∈before,(λb=>decide (b<W.heap.size)) p.block=true:=λp aB=>by simpa using h6.lt p aB
 have a1:∀ p∈before,p.block<W.heap.size:=λp aB=>h6.lt p aB;refine⟨ds,gs,before,[],pa,pv,h6,HZ _ _ _,nw _ hold,Ya _ hold,World.keptBut_mono (λp aB=>⟨aB,?_⟩) (ae.kept (·∈before)),λ_=>?_⟩
 ·rw[EH,cF]at aB;exact Or.inr aB
 ·obtain⟨_,_,_,_,_,bb,aC⟩:=h6;refine⟨bw,_,_,([]++pa)++pv,⟨[]++pa,pv,ChangeShapes.trodAll_append (nw _ (λ_ _=>rfl)) (HZ _ _ _),Ya _ (λ_ _=>rfl),rfl,?_,?_⟩,?_⟩
  ·intro b off aB;have EI:MemPlace.cell b off∈before:=by rw[EH];simpa using aB
   rw[ae.frozen (a:=⟨b,off,none⟩) (a1 _ EI)];exact bb b off EI
  ·intro a6;have:=aC a6;rw[EH]at this;simpa using this
  ·intro p aB _;rw[EH];simpa using aB
def yr:DataW H->Option Value
 | .lit (.int k z)=>some (.int k z)| .lit (.string l)=>some (.string ⟨l.toArray⟩)| .lit (.bool b)=>some (.bool b)| _=>none
def H0(P:Program)(e:TypeId):Bool:=match P.underlying e with
 |some .bool | some (.int _) | some .string=>true| _=>false
section
variable{w:World}{cS:Nat}{fV:Nat->Bool}{held:Bool}{fb:Nat}{t e:TypeId}{cs:List Value}{d:DataW H}{p:List MemPlace}
def Yb(he:H0 P e=true)(h:DataW.trod enc P w cS fV held fb e cs=some (d,p))(ah:yr d=some v):cs=[v]:=by
 unfold H0 at he;split at he
 ·rename_i hu;obtain⟨b,rfl,ad⟩:=DataW.trod_bool hu h;cases ad;simpa[yr]using ah
 ·rename_i k hu;obtain⟨n,rfl,ad,_⟩:=DataW.trod_int hu h;cases ad;simpa[yr]using ah
 ·rename_i hu;obtain⟨s,rfl,ad,_⟩:=Qs hu h;cases ad;simpa[yr]using ah
 ·cases he
def LL{α β:Type}{f:α->Option β}:∀ {l:List α} {r:List β},l.mapM f=some r->r.length=l.length/\∀ i (h:i<l.length) (bc:i<r.length),f l[i]=some r[i]
 |[],r,h=>by simp at h;subst h;exact⟨rfl,λi h=>by simp at h⟩
 |x::l,r,h=>by
  simp only[GA,Option.bind_eq_bind,KJ,Option.pure_def,j9]at h;obtain⟨b,ag,rC,e6,rfl⟩:=h;obtain⟨aa,ab⟩:=LL e6;refine⟨by simp[aa],λi hi cZ=>?_⟩;cases i with
  |zero=>simpa using ag| succ i=>simpa using ab i (by simpa using hi) (by simpa using cZ)
def Yc{cs vs:List Value}(ay:cs.length=vs.length)(h:∀ i (hi:i<vs.length),(cs.drop i).take 1=[vs[i]]):cs=vs:=by apply lC ay;intro i aa ab;have:=h i ab;rw[e1 aa,qB,rG]at this;simpa using this
def Yd{n:Nat}(ax:P.underlying t=some (.array n e))(he:H0 P e=true)(H2:P.cellsOf e=1)(eW:P.cellsOf t=n){ds:List (DataW H)}(h:DataW.trod enc P w cS fV held fb t cs=some (.agg ds,p))(ah:ds.mapM yr=some vs):cs=vs:=by
 obtain⟨xs,m,rfl,ad,ay,hz,hi⟩:=Qu ax h;have gw:ds=xs.map (·.1):=by have:=congrArg Prod.fst ad;simpa using this
 obtain⟨a8,ba⟩:=LL ah;have s0:vs.length=n:=by rw[a8,gw];simpa using hz
 refine Yc (by rw[ay,eW,s0]) λi cZ=>?_;have aa:=hi i (by omega);rw[H2,fa]at aa;have vo:i<xs.length:=by omega
 rw[db vo]at aa;have ab:=ba i (by rw[gw];simpa using vo) cZ;have aj:ds[i]'(by rw[gw];simpa using vo)=xs[i].1:=by simp[gw]
 rw[aj]at ab;exact Yb he (d:=xs[i].1) (p:=xs[i].2) aa ab
def ajV(ax:P.underlying t=some (.struct cR))(aA:∀ (i:Nat) (f:Field),cR[i]?=some f->H0 P f.type=true/\f.offset=i/\P.cellsOf f.type=1)(eW:P.cellsOf t=cR.size){ds:List (DataW H)}(h:DataW.trod enc P w cS fV held fb t cs=some (.agg ds,p))(ah:ds.mapM yr=some vs):cs=vs:=by
 obtain⟨xs,m,rfl,ad,ay,hz,hi⟩:=DataW.trod_struct ax h;have gw:ds=xs.map (·.1):=by have:=congrArg Prod.fst ad;simpa using this
 obtain⟨a8,ba⟩:=LL ah;have s0:vs.length=cR.size:=by rw[a8,gw];simpa using hz
 refine Yc (by rw[ay,eW,s0]) λi cZ=>?_;have Ye:i<cR.size:=by omega
 obtain⟨en,cE,gD⟩:=aA i cR[i] (OY Ye);have aa:=hi i cR[i] (OY Ye);rw[cE,gD]at aa;have vo:i<xs.length:=by omega
 rw[db vo]at aa;have ab:=ba i (by rw[gw];simpa using vo) cZ;have aj:ds[i]'(by rw[gw];simpa using vo)=xs[i].1:=by simp[gw]
 rw[aj]at ab;exact Yb en (d:=xs[i].1) (p:=xs[i].2) aa ab
def Yf{sz:Nat}:∀ (rows:List (List Value)) (cs:List Value),cs.length=rows.length*sz->(∀ i (hi:i<rows.length),(cs.drop (i*sz)).take sz=rows[i])->cs=rows.flatten
 |[],cs,ay,_=>iq (by simpa using ay)
 |r::rows,cs,ay,h=>by
  have az:=h 0 (by simp);simp only[zw,wu,uW]at az;rw[c2,l8,o2]at ay;have aF:=Yf (sz:=sz) rows (cs.drop sz) (by rw[tD];omega) λi hi=>by have:=h (i+1) (by simpa using hi);rw[G1,show sz+i*sz=(i+1)*sz from by rw[l8];omega];simpa using this
  rw[Qt,<-aF,<-az,rY]
def ajW{n:Nat}(ax:P.underlying t=some (.array n e))(H2:P.cellsOf e=sz)(eW:P.cellsOf t=n*sz){ds:List (DataW H)}(h:DataW.trod enc P w cS fV held fb t cs=some (.agg ds,p))(af:rows.length=ds.length)
  (e8:∀ i (hi:i<ds.length) (cZ:i<rows.length) fb cs p,DataW.trod enc P w cS fV held fb e cs=some (ds[i],p)->cs=rows[i]):cs=rows.flatten:=by
 obtain⟨xs,m,rfl,ad,ay,hz,hi⟩:=Qu ax h;have gw:ds=xs.map (·.1):=by have:=congrArg Prod.fst ad;simpa using this
 have fC:rows.length=n:=by rw[af,gw];simpa using hz
 refine Yf (sz:=sz) rows cs (by rw[ay,eW,fC]) λi cZ=>?_;have aa:=hi i (by omega);rw[H2]at aa;have vo:i<xs.length:=by omega
 rw[db vo]at aa;have aj:ds[i]'(by rw[gw];simpa using vo)=xs[i].1:=by simp[gw]
 exact e8 i (by rw[gw];simpa using vo) cZ m _ xs[i].2 (by rw[aj];exact aa)
def Yg(d:DataW H):Option (List Value):=match d with
 | .agg l=>l.mapM yr| _=>none
def QN{n:Nat}(ax:P.underlying t=some (.array n e))(H2:P.cellsOf e=sz)(eW:P.cellsOf t=n*sz){ds:List (DataW H)}(h:DataW.trod enc P w cS fV held fb t cs=some (.agg ds,p))(af:ds.mapM Yg=some rows)
  (e8:∀ fb cs p l row,DataW.trod enc P w cS fV held fb e cs=some (.agg l,p)->l.mapM yr=some row->cs=row):cs=rows.flatten:=by
 obtain⟨a8,ba⟩:=LL af;refine ajW ax H2 eW h a8 λi hi cZ fb cs p bc=>?_;have ab:=ba i hi cZ;unfold Yg at ab;split at ab
 ·rename_i l ay;rw[ay]at bc;exact e8 _ _ _ _ _ bc ab
 ·cases ab
end
end Go.V
namespace Go.V
open Go Go.Proofs
variable{I I':aM}{M:List aE}{e size c f sz fb:Nat}{al:List Int}{g:cD}{os:aY}{xs aS vs cs:List Value}{v:Value}{α:Type}{t:TypeId}{L:List (List Int)}{z:Bool}{X:cV}{F:Fr}{C:dF}{cap:Array Value}{P:Program}{W lj:World}{cR:Array Field}{rows:List (List Value)}{x y:Operand}{other:Prop}{c7 tN:dH}{pl:List (ByteArray×Int)}
def LM{n:String}{g:Nat}{cs:Array Value}(av:P.globalNamed n=some g)(h:W.var? P n=some cs):∃ T ao,W.heap[g]?=some (.cells cs T ao):=by
 simp only[World.var?,av,Option.bind_some]at h;split at h
 ·rename_i c T ao cW;cases h;exact⟨T,ao,cW⟩
 ·cases h
def hL:List Int:=[0,1,56,2,57,49,28,3,61,58,42,50,38,29,17,4,62,47,59,36,45,43,51,22,53,39,33,30,24,18,12,5,63,55,48,27,60,41,37,16,46,35,44,21,52,32,23,11,54,26,40,15,34,20,31,10,25,14,19,9,13,8,7,6]
def ajX{bk:List (String×DataW Unit)}(h:laidMet Tryz.prog ([("math/bits.deBruijn32tab",YtmncamccjfmbpaaGreatDoor.Rows.laid_math_bits_deBruijn32tab),("math/bits.deBruijn64tab",YtmncamccjfmbpaaGreatDoor.Rows.laid_math_bits_deBruijn64tab),("internal/strconv.uint64pow10",YtmncamccjfmbpaaGreatDoor.Rows.laid_internal_strconv_uint64pow10),("bonsai/tree.counts",YtmncamccjfmbpaaGreatDoor.Rows.laid_bonsai_tree_counts),("bonsai/print.counts",YtmncamccjfmbpaaGreatDoor.Rows.laid_bonsai_print_counts),("bonsai/print.signs",YtmncamccjfmbpaaGreatDoor.Rows.laid_bonsai_print_signs)]++bk) W):fW (r7 W) hL:=by
 obtain⟨ps,cc,_⟩:=h;obtain⟨a8,t1,aww,f1,tT,dJ,p0,Cj,KA,hd,cc,_⟩:=cc;obtain⟨ba,t2,QO,f2,yf,eO,ld,sX,nQ,qU,cc,_⟩:=cc;obtain⟨bR,t3,awx,f3,ajY,eJ,r0,yt,QP,z6,cc,_⟩:=cc;obtain⟨fq,t4,ajZ,f4,p4,iN,Ey,QQ,aj0,aj1,cc,_⟩:=cc;obtain⟨k9,t5,aj2,f5,p5,awy,Yh,aj3,aj4,aj5,cc,_⟩:=cc;obtain⟨H3,t6,aj6,f6,Yi,awz,H4,aj7,aj8,aj9,cc,_⟩:=cc;obtain rfl:=fm ((show Tryz.prog.globalNamed "math/bits.deBruijn64tab" = some 3 by kernel_rfl).symm.trans ld)
 obtain rfl:=fm ((show(Tryz.prog.globals[3]?).map (·.type)=some 377 by kernel_rfl).symm.trans sX);obtain rfl:=fm ((show Tryz.prog.globalNamed "bonsai/tree.counts" = some 0 by kernel_rfl).symm.trans Ey)
 obtain rfl:=fm ((show(Tryz.prog.globals[0]?).map (·.type)=some 232 by kernel_rfl).symm.trans QQ);obtain rfl:=fm ((show Tryz.prog.globalNamed "bonsai/print.counts" = some 2 by kernel_rfl).symm.trans Yh)
 obtain rfl:=fm ((show(Tryz.prog.globals[2]?).map (·.type)=some 346 by kernel_rfl).symm.trans aj3);obtain rfl:=fm ((show Tryz.prog.globalNamed "bonsai/print.signs" = some 1 by kernel_rfl).symm.trans H4)
 obtain rfl:=fm ((show(Tryz.prog.globals[1]?).map (·.type)=some 291 by kernel_rfl).symm.trans aj7);obtain⟨Ch,nx,bT⟩:=LM ld nQ;obtain⟨Qi,Aa,hB⟩:=LM Ey aj0;obtain⟨aka,akb,eP⟩:=LM Yh aj4;obtain⟨akc,akd,b6⟩:=LM H4 aj8;have gn:QO.toList=hL.map (Value.int .u8):=Yd (show Tryz.prog.underlying 377=some (.array 64 5) by kernel_rfl) (by kernel_rfl) (by kernel_rfl) (by kernel_rfl) qU (by kernel_rfl);have H5:ajZ.toList=kJ.map (Value.int .i64):=QN (n:=10) (sz:=2) (show Tryz.prog.underlying 232=some (.array 10 231) by kernel_rfl) (by kernel_rfl) (by kernel_rfl) aj1 (rows:=[[.int .i64 0,.int .i64 0],[.int .i64 0,.int .i64 0],[.int .i64 0,.int .i64 0],[.int .i64 0,.int .i64 0],[.int .i64 2,.int .i64 (-1)],[.int .i64 2,.int .i64 (-1)],[.int .i64 1,.int .i64 1],[.int .i64 1,.int .i64 1],[.int .i64 1,.int .i64 1],[.int .i64 1,.int .i64 1]]) (by kernel_rfl) (λ_ _ _ _ _ aa ab=>Yd (show Tryz.prog.underlying 231=some (.array 2 3) by kernel_rfl) (by kernel_rfl) (by kernel_rfl) (by kernel_rfl) aa ab);have fields:∀ {t:TypeId},(match Tryz.prog.underlying t with
   |some (.struct cR)=>decide (Tryz.prog.cellsOf t=cR.size)&&(List.range cR.size).all λi=>match cR[i]? with
    |some f=>H0 Tryz.prog f.type&&(decide (f.offset=i)&&decide (Tryz.prog.cellsOf f.type=1))| none=>false
   |_=>false)=true->∀ (fb:Nat) (cs:List Value) (p:List MemPlace) (l:List (DataW Unit)) (row:List Value),DataW.trod (λ_=>()) Tryz.prog W 0 (λ_=>true) false fb t cs=some (.agg l,p)->l.mapM yr=some row->cs=row:=by
  intro t an fb cs p l row aa ab;split at an;·rename_i cR hu;simp only[cz,hq,fi,g8]at an;refine ajV hu (λi f aA=>?_) an.1 aa ab;have hi:=an.2 i (l4.1 aA).1;rw[aA]at hi;simpa using hi
  ·cases an
 have LN:aj2.toList=Hy:=QN (n:=3) (sz:=3) (show Tryz.prog.underlying 346=some (.array 3 345) by kernel_rfl) (by kernel_rfl) (by kernel_rfl) aj5 (rows:=[[.int .i64 0,.int .i64 1,.string ⟨#[63]⟩],[.int .i64 0,.int .i64 (-1),.string ⟨#[42]⟩],[.int .i64 1,.int .i64 (-1),.string ⟨#[43]⟩]]) (by kernel_rfl) (fields (by kernel_rfl));have Yj:aj6.toList=vc.map λl=>Value.string (strOf l):=QN (n:=10) (sz:=3) (show Tryz.prog.underlying 291=some (.array 10 290) by kernel_rfl) (by kernel_rfl) (by kernel_rfl) aj9 (rows:=[[.string ⟨#[]⟩,.string ⟨#[]⟩,.string ⟨#[]⟩],[.string ⟨#[]⟩,.string ⟨#[]⟩,.string ⟨#[]⟩],[.string ⟨#[]⟩,.string ⟨#[]⟩,.string ⟨#[]⟩],[.string ⟨#[]⟩,.string ⟨#[]⟩,.string ⟨#[]⟩],[.string ⟨#[]⟩,.string ⟨#[32]⟩,.string ⟨#[]⟩],[.string ⟨#[]⟩,.string ⟨#[32,47,32]⟩,.string ⟨#[]⟩],[.string ⟨#[]⟩,.string ⟨#[]⟩,.string ⟨#[]⟩],[.string ⟨#[38]⟩,.string ⟨#[]⟩,.string ⟨#[]⟩],[.string ⟨#[33]⟩,.string ⟨#[]⟩,.string ⟨#[]⟩],[.string ⟨#[60]⟩,.string ⟨#[]⟩,.string ⟨#[62]⟩]]) (by kernel_rfl) (fields (by kernel_rfl));have arr:∀ {cs:Array Value} {l:List Value},cs.toList=l->cs=l.toArray:=λh=>by apply gY;simpa using h
 refine⟨⟨Qi,Aa,?_⟩,⟨aka,akb,?_⟩,⟨akc,akd,?_⟩,by decide,by decide,Ch,nx,?_⟩
 ·rw[<-arr H5];exact hB
 ·rw[<-arr LN];exact eP
 ·rw[<-arr Yj];exact b6
 ·rw[<-arr gn];exact bT
def EJ(cs:Array Value):Obj->Obj
 | .cells _ t ao=>.cells cs t ao| o=>o
def ake:List Int:=(List.range 20).map λi=>(10:Int)^i
def akf:List Int:=[0,1,28,2,29,14,24,3,30,22,20,15,25,17,4,8,31,27,13,23,21,19,16,7,26,12,18,6,11,5,10,9]
noncomputable def QR(os:Os):World:=
 { World.holding Tryz.prog os ⟨#[],#[],[]⟩with heap:=((((((World.holding Tryz.prog os ⟨#[],#[],[]⟩).heap.modify 0 (EJ (kJ.map (Value.int .i64)).toArray)).modify 2 (EJ Hy.toArray)).modify 1 (EJ (vc.map λl=>Value.string (strOf l)).toArray)).modify 3 (EJ (hL.map (Value.int .u8)).toArray)).modify 5 (EJ (ake.map (Value.int .u64)).toArray)).modify 6 (EJ (akf.map (Value.int .u8)).toArray) }
def own:ownKnob Tryz.prog.godebug=none:=by kernel_rfl
def laidOut:laidOutB Tryz.prog=true:=by kernel_rfl
def Yk{l:List α}{q:α->Bool}(h:l.all q=true){x:α}(ad:x∈l):q x=true:=fi.1 h x ad
def akg{L:List (String×DataW Unit)}(cc:laidMetH Tryz.prog L W)(he:L=[("math/bits.deBruijn32tab",YtmncamccjfmbpaaGreatDoor.Rows.laid_math_bits_deBruijn32tab),("math/bits.deBruijn64tab",YtmncamccjfmbpaaGreatDoor.Rows.laid_math_bits_deBruijn64tab),("internal/strconv.uint64pow10",YtmncamccjfmbpaaGreatDoor.Rows.laid_internal_strconv_uint64pow10),("bonsai/tree.counts",YtmncamccjfmbpaaGreatDoor.Rows.laid_bonsai_tree_counts),("bonsai/print.counts",YtmncamccjfmbpaaGreatDoor.Rows.laid_bonsai_print_counts),("bonsai/print.signs",YtmncamccjfmbpaaGreatDoor.Rows.laid_bonsai_print_signs)]):fW (r7 W) hL:=by
 subst he;exact ajX (bk:=[]) cc
structure wO(I:aM)(d:ap):Prop where
 k:0<=d.k/\d.k<256
 cC:hc d.cC
 s1:hc d.s1
 s2:hc d.s2
 c0:hc d.c0
 lo:iZ d.lo
 hi:iZ d.hi
 a2:dh I d.dE d.aO d.du 1 0 (d.aw.map (.int .i64 ·))
 aw:∀ x∈d.aw,iZ x
 fT:d.t.size<=9223372036854775807
structure EK(I:aM)(t:bP):Prop where
 a2:dh I t.a t.n t.c 9 0 (t.ns.flatMap ap.cells)
 ns:∀ d∈t.ns,wO I d
 bA:iZ t.bA
structure Ab(I:aM)(d:aP):Prop where
 name:d.name.size<=9223372036854775807
 t:EK I d.t
structure s3(I:aM)(g:cD):Prop where
 a2:dh I g.a g.n g.c 3 0 (g.ds.flatMap aP.cells)
 ds:∀ d∈g.ds,Ab I d
def dh.EL{a:Option Addr}{n b iV:Nat}(h:dh I a n c size b vs)(ag:n*iV<=140737488355328):dh I a n c size iV vs:=⟨h.len,⟨h.cap.1,ag⟩,h.rd⟩
structure QS(d:ap):Prop where
 aO:d.aO<2500
structure Yl(d:aP):Prop where
 name:d.name.size<2500
 n:d.t.n<2500
 ns:∀ ca∈d.t.ns,QS ca
structure akh(g:cD):Prop where
 n:g.n<2500
 ds:∀ d∈g.ds,Yl d
def wO.ok{d:ap}(h:wO I d)(au:QS d):d.ok I:=
 ⟨h.k,h.cC,h.s1,h.s2,h.c0,h.fT,h.lo,h.hi,h.a2.EL (by have:=au.aO;omega),h.aw⟩
def Ab.ok{d:aP}(h:Ab I d)(au:Yl d):d.ok I:=
 ⟨by have:=au.name;omega,⟨h.t.a2.EL (by have:=au.n;omega),λca bH=>(h.t.ns ca bH).ok (au.ns ca bH),h.t.bA⟩⟩
def s3.ok(h:s3 I g)(au:akh g):g.ok I:=
 ⟨h.a2.EL (by have:=au.n;omega),λd ak=>(h.ds d ak).ok (au.ds d ak)⟩
def wO.mono{d:ap}(h:wO I d)(bz:∀ b o,I b=some o->I' b=some o):wO I' d:={ h with a2:=h.a2.mono bz }
def Ab.mono{d:aP}(h:Ab I d)(bz:∀ b o,I b=some o->I' b=some o):Ab I' d:=⟨h.name,h.t.a2.mono bz,λca bH=>(h.t.ns ca bH).mono bz,h.t.bA⟩
def s3.mono(h:s3 I g)(bz:∀ b o,I b=some o->I' b=some o):s3 I' g:=⟨h.a2.mono bz,λd ak=>(h.ds d ak).mono bz⟩
def s3.n(h:s3 I g):g.ds.length=g.n:=by have:=h.a2.len;rw[jm _ 3 aP.cT]at this;omega
def EK.n{t:bP}(h:EK I t):t.ns.length=t.n:=by have:=h.a2.len;rw[jm _ 9 ap.cT]at this;omega
def vp{x r:Int}(h:x=r)(af:-9223372036854775808<=r/\r<=9223372036854775807):IntKind.i64.wrap x=r:=by rw[h];exact wrap_i64 af
def aY.Cz{l:List Int}(h:os.ok 1 (l.map (.int .i64 ·)))(a':∀ x∈os.ar e,x∈M){j:Nat}(ai:j<l.length) :
  ∃ aU,(os.a.map λg=>(⟨g,0,none⟩:Addr))=some aU/\cO I M (aU.add (j*1)) 1 [.int .i64 l[j]]:=by
 obtain⟨a,n,c,aS⟩:=os;have ay:=h.nt;simp only at ay;cases a with
 |none=>have:=(h.nil rfl).1;simp only at this;omega
 |some g=>
  obtain⟨aa,ab,aj,aG⟩:=h.cap g rfl;simp only at aa ab aG;refine⟨⟨g,0,none⟩,rfl,?_⟩;rw[eU _ rfl];refine⟨rfl,_,_,_,.inr ⟨⟨g,.cells aS.toArray e (0,0)⟩,a' _ (by simp[aY.ar]),rfl,rfl⟩,?_,rfl⟩;simp only[cX,fa];have iC:j<(l.map (Value.int .i64)).length:=by simpa using ai
  have aJ:(aS.take (n*1))[j]?=some (.int .i64 l[j]):=by rw[aG];simp[ai]
  rw[lu]at aJ;have nq:j<n*1:=by omega
  rw[bN nq]at aJ;have Ym:j<aS.length:=(ij.1 aJ).1;rw[e1 Ym,qB,rG];rw[db Ym]at aJ;rw[fm aJ]
section
variable{H:Type}{enc:TypeId×Value->H}{P:Program}{W:World}{cS:Nat}{fV:Nat->Bool}{held:Bool}
def Yn{α:Type}{p:Nat->α->Prop}:∀ (n:Nat),(∀ i,i<n->∃ d,p i d)->∃ l:List α,l.length=n/\∀ i (h:i<l.length),p i l[i]
 |0,_=>⟨[],rfl,λi h=>by simp at h⟩
 |n+1,h=>by
  obtain⟨l,aa,ab⟩:=Yn n λi hi=>h i (by omega);obtain⟨d,ak⟩:=h n (by omega);refine⟨l++[d],by simp[aa],λi hi=>?_⟩;by_cases a1:i<l.length;·rw[z3 a1];exact ab i a1
  ·have e:i=l.length:=by simp at hi;omega
   subst e;simpa[aa]using ak
def QT{f:α->List Value}(au:0<size)(aA:∀ x,(f x).length=size)(ok:α->Prop){e:TypeId}(ax:P.underlying t=some (.slice e))(an:P.cellsOf e=size)(e8:∀ fb cs x,DataW.trod enc P W cS fV held fb e cs=some x->∃ d,cs=f d/\ok d){x:DataW H×List MemPlace}(h:DataW.trod enc P W cS fV held fb t cs=some x) :
  ∃ (a:Option Addr) (n c:Nat) (l:List α),cs=[.slice a n c]/\dh (r7 W) a n c size 0 (l.flatMap f)/\l.length=n/\(∀ d∈l,ok d)/\(a=none->c=0)/\c<=maxLen:=by
 rcases DataW.trod_slice ax h with⟨rfl,_⟩ | ⟨a,len,cap,awA,bk,m,_,rfl,_,ag,ay,hm,c1,aki,_,_⟩
 ·exact⟨none,0,0,[],rfl,⟨by simp,⟨b2 _,by omega⟩,.inl rfl⟩,rfl,λd ak=>by simp at ak,λ_=>rfl,by unfold maxLen;omega⟩
 have each:∀ i,i<len->∃ d,ok d/\W.cells? cS (a.add (i*size)) size=some (f d):=λi hi=>by have aa:=aki i hi;rw[an,db (by omega)]at aa;obtain⟨cs',ab,aj⟩:=KJ.1 aa;obtain⟨d,rfl,ak⟩:=e8 _ _ _ aj;exact⟨d,ak,ab⟩
 obtain⟨l,gC,EF⟩:=Yn len each;refine⟨some a,len,cap,l,rfl,⟨by rw[jm f size aA,gC],⟨ay,by omega⟩,?_⟩,gC,λd ak=>?_,λh=>by simp at h,hm⟩
 ·by_cases az:len=0
  ·exact .inl az
  right
  have ud:=(EF 0 (by omega)).2;obtain⟨-,-,H6⟩:=World.cells?_some ud;have Yo:=H6 0 au;rw[db (by rw[aA];exact au)]at Yo;have Yp:a.spot=none:=by
   have:=World.cell?_spot Yo;cases dO:a.spot with
   |none=>rfl| some s=>simp[Addr.add,dO]at this
  refine⟨a,rfl,Yp,?_⟩;have Yq:∀ i (hi:i<l.length),∀ k,k<size->W.cell? ⟨a.block,a.off+(i*size+k),none⟩=(f l[i])[k]?:=λi hi k ae=>by obtain⟨-,-,cW⟩:=World.cells?_some (EF i hi).2;have:=cW k ae;rw[eU _ Yp,eU _ rfl]at this;rw[<-this];congr 2;simp only[];omega
  have akj:∃ cs T ao,W.heap[a.block]?=some (.cells cs T ao):=by
   have aa:=Yq 0 (by omega) 0 au;rw[db (by rw[aA];exact au)]at aa;unfold World.cell? at aa;cases cW:W.heap[a.block]? with
   |none=>simp[cW]at aa
   |some o=>
    cases o with
    |cells cs T ao=>exact⟨cs,T,ao,rfl⟩| _=>simp[cW]at aa
  obtain⟨cs,T,ao,cW⟩:=akj;refine⟨cs,T,ao,cW,?_⟩;have me:=jm f size aA l;apply zN;intro j;by_cases ai:j<len*size
  ·have hdiv:j/size<l.length:=by rw[gC];exact Nat.div_lt_of_lt_mul (by rw[Nat.mul_comm];exact ai)
   have LO:=Nat.mod_lt j au;have e:=Nat.div_add_mod j size;rw[Nat.mul_comm]at e;have aa:=Yq (j/size) hdiv (j%size) LO;rw[e]at aa;have ab:=Ej f size aA l (j/size) hdiv;have aj:(l.flatMap f)[j]?=(f l[j/size])[j%size]?:=by rw[<-ab,lu,bN LO,od,e]
   rw[aj,<-aa,lu,bN ai,od];simp[World.cell?,cW]
  ·rw[qA (by rw[hT];omega),qA (by rw[me,gC];omega)]
 ·obtain⟨i,hi,rfl⟩:=jv ak;exact(EF i hi).1
def EM{k:IntKind}{x:DataW H×List MemPlace}(ax:P.underlying t=some (.int k))(h:DataW.trod enc P W cS fV held fb t cs=some x):∃ n,cs=[.int k n]/\(Lit.int k n).wf=true:=by obtain⟨n,aa,_,ab⟩:=DataW.trod_int ax h;exact⟨n,aa,ab⟩
def wf_i64{n:Int}(h:(Lit.int .i64 n).wf=true):iZ n:=by simp[Lit.wf,IntKind.min,IntKind.max,IntKind.signed,IntKind.bits]at h;exact h
def wf_u64{n:Int}(h:(Lit.int .u64 n).wf=true):hc n:=by simp[Lit.wf,IntKind.min,IntKind.max,IntKind.signed,IntKind.bits]at h;unfold hc;omega
def wf_u8{n:Int}(h:(Lit.int .u8 n).wf=true):0<=n/\n<256:=by simp[Lit.wf,IntKind.min,IntKind.max,IntKind.signed,IntKind.bits]at h;omega
end
section
variable{H:Type}{enc:TypeId×Value->H}{W:World}{cS:Nat}{fV:Nat->Bool}{held:Bool}
def akk{x:DataW H×List MemPlace}(h:DataW.trod enc Tryz.prog W cS fV held fb 55 cs=some x) :
  ∃ (a:Option Addr) (n c:Nat) (l:List Int),cs=[.slice a n c]/\dh (r7 W) a n c 1 0 (l.map (.int .i64 ·))/\l.length=n/\∀ k∈l,iZ k:=by
 obtain⟨a,n,c,l,aa,ab,aj,aG,-,-⟩:=QT (f:=λk=>[Value.int .i64 k]) (size:=1) (by decide) (λ_=>rfl) iZ (show Tryz.prog.underlying 55=some (.slice 3) by kernel_rfl) (by kernel_rfl)
  (λfb cs x h=>by
   obtain⟨n,aa,ab⟩:=EM (show Tryz.prog.underlying 3=some (.int .i64) by kernel_rfl) h;exact⟨n,aa,wf_i64 ab⟩) h
 refine⟨a,n,c,l,aa,?_,aj,aG⟩;rwa [<-List.map_eq_flatMap]at ab
def akl{l:List α}(h:l.length=4):∃ a b c d,l=[a,b,c,d]:=by
 match l,h with
 |[a,b,c,d],_=>exact⟨a,b,c,d,rfl⟩
def akm{l:List α}(h:l.length=9):∃ a b c d e f g i j,l=[a,b,c,d,e,f,g,i,j]:=by
 match l,h with
 |[a,b,c,d,e,f,g,i,j],_=>exact⟨a,b,c,d,e,f,g,i,j,rfl⟩
def akn{l:List α}(h:l.length=3):∃ a b c,l=[a,b,c]:=by
 match l,h with
 |[a,b,c],_=>exact⟨a,b,c,rfl⟩
def ako{l:List α}(h:l.length=2):∃ a b,l=[a,b]:=by
 match l,h with
 |[a,b],_=>exact⟨a,b,rfl⟩
def akp{l:List α}(h:l.length=1):∃ a,l=[a]:=by
 match l,h with
 |[a],_=>exact⟨a,rfl⟩
def akq{x:DataW H×List MemPlace}(h:DataW.trod enc Tryz.prog W cS fV held fb 64 cs=some x) :
  ∃ a b c d:Int,cs=[.int .u64 a,.int .u64 b,.int .u64 c,.int .u64 d]/\hc a/\hc b/\hc c/\hc d:=by
 obtain⟨xs,m,_,_,ay,hz,hi⟩:=Qu (show Tryz.prog.underlying 64=some (.array 4 62) by kernel_rfl) h;rw[show Tryz.prog.cellsOf 64=4 by kernel_rfl]at ay;rw[show Tryz.prog.cellsOf 62=1 by kernel_rfl]at hi;have hu:Tryz.prog.underlying 62=some (.int .u64):=by kernel_rfl
 obtain⟨a,b,c,d,rfl⟩:=akl ay;have get:∀ i,(kE:i<4)->∃ n,(([a,b,c,d]:List Value).drop (i*1)).take 1=[.int .u64 n]/\hc n:=λi kE=>by have aa:=hi i kE;rw[db (by omega)]at aa;obtain⟨n,ab,aj⟩:=EM hu aa;exact⟨n,ab,wf_u64 aj⟩
 obtain⟨n0,dd,Ac⟩:=get 0 (by decide);obtain⟨kK,aJ,en⟩:=get 1 (by decide);obtain⟨iL,a4,cE⟩:=get 2 (by decide);obtain⟨LP,cn,gD⟩:=get 3 (by decide);simp at dd aJ a4 cn;subst dd aJ a4 cn;exact⟨_,_,_,_,rfl,Ac,en,cE,gD⟩
def H7{t:Nat}{l:List (Nat×Nat)}(h:(match P.underlying t with
  |some (.struct cR)=>decide (cR.toList.map (λf=>(f.type,f.offset))=l)| _=>false)=true):∃ cR,P.underlying t=some (.struct cR)/\cR.toList.map (λf=>(f.type,f.offset))=l:=by
 split at h
 ·rename_i cR hu;exact⟨cR,hu,dB h⟩
 ·cases h
def LQ{P:Program}{l:List (Nat×Nat)}{q:Nat->Nat->Prop}(aA:cR.toList.map (λf=>(f.type,f.offset))=l)(h:∀ (i:Nat) (f:Field),cR[i]?=some f->q f.type f.offset):∀ (i t o:Nat),l[i]?=some (t,o)->q t o:=by subst aA;intro i t o hi;simp only[jR,sB,Lw]at hi;obtain⟨f,aa,rfl,rfl⟩:=hi;exact h i f (by simpa using aa)
def LR{x:DataW H×List MemPlace}(ax:P.underlying t=some (.struct cR))(h:DataW.trod enc P W cS fV held fb t cs=some x) :
  cs.length=P.cellsOf t/\∀ (i:Nat) (f:Field),cR[i]?=some f->∃ fb y,DataW.trod enc P W cS fV held fb f.type ((cs.drop f.offset).take (P.cellsOf f.type))=some y:=by
 obtain⟨xs,m,_,_,ay,hz,hi⟩:=DataW.trod_struct ax h;refine⟨ay,λi f aA=>?_⟩;have a1:=(l4.1 aA).1;have aa:=hi i f aA;rw[db (by omega)]at aa;exact⟨_,_,aa⟩
def akr{x:DataW H×List MemPlace}(h:DataW.trod enc Tryz.prog W cS fV held fb 66 cs=some x):∃ d:ap,cs=d.cells/\wO (r7 W) d:=by obtain⟨cR,ax,aA⟩:∃ cR,Tryz.prog.underlying 66=some (.struct cR)/\cR.toList.map (λf=>(f.type,f.offset))=[(5,0),(64,1),(9,5),(3,6),(3,7),(55,8)]:=H7 (by kernel_rfl);obtain⟨ay,hi⟩:=LR ax h;have hi:∀ (i t o:Nat),[(5,0),(64,1),(9,5),(3,6),(3,7),(55,8)][i]?=some (t,o)->∃ fb y,DataW.trod enc Tryz.prog W cS fV held fb t ((cs.drop o).take (Tryz.prog.cellsOf t))=some y:=LQ (P:=Tryz.prog) aA hi;rw[show Tryz.prog.cellsOf 66=9 by kernel_rfl]at ay;obtain⟨ud,gf,gn,ow,H5,LN,Yj,awB,awC,rfl⟩:=akm ay;obtain⟨_,_,az⟩:=hi 0 _ _ rfl;obtain⟨_,_,aa⟩:=hi 1 _ _ rfl;obtain⟨_,_,ab⟩:=hi 2 _ _ rfl;obtain⟨_,_,aj⟩:=hi 3 _ _ rfl;obtain⟨_,_,aG⟩:=hi 4 _ _ rfl;obtain⟨_,_,bx⟩:=hi 5 _ _ rfl;rw[show Tryz.prog.cellsOf 5=1 by kernel_rfl]at az;rw[show Tryz.prog.cellsOf 64=4 by kernel_rfl]at aa;rw[show Tryz.prog.cellsOf 9=1 by kernel_rfl]at ab;rw[show Tryz.prog.cellsOf 3=1 by kernel_rfl]at aj aG;rw[show Tryz.prog.cellsOf 55=1 by kernel_rfl]at bx;obtain⟨k,dd,aks⟩:=EM (show Tryz.prog.underlying 5=some (.int .u8) by kernel_rfl) az;obtain⟨a,b,c,d,aJ,h8,kH,mB,iX⟩:=akq aa;obtain⟨s,a4,-,ws⟩:=Qs (show Tryz.prog.underlying 9=some .string by kernel_rfl) ab;obtain⟨lo,cn,wl⟩:=EM (show Tryz.prog.underlying 3=some (.int .i64) by kernel_rfl) aj;obtain⟨cZ,dc,wh⟩:=EM (show Tryz.prog.underlying 3=some (.int .i64) by kernel_rfl) aG;obtain⟨dE,aO,du,aw,jX,ei,ff,sP⟩:=akk bx;simp at dd aJ a4 cn dc jX;obtain⟨QU,QV,akt,aku⟩:=aJ;subst dd QU QV akt aku a4 cn dc jX;exact⟨⟨k,a,b,c,d,s,lo,cZ,dE,aO,du,aw⟩,rfl,wf_u8 aks,h8,kH,mB,iX,wf_i64 wl,wf_i64 wh,ei,sP,by unfold maxLen at ws;omega⟩
def akv{x:DataW H×List MemPlace}(h:DataW.trod enc Tryz.prog W cS fV held fb 31 cs=some x):∃ t:bP,cs=t.cells/\EK (r7 W) t:=by obtain⟨cR,ax,aA⟩:∃ cR,Tryz.prog.underlying 31=some (.struct cR)/\cR.toList.map (λf=>(f.type,f.offset))=[(29,0),(3,1)]:=H7 (by kernel_rfl);obtain⟨ay,hi⟩:=LR ax h;have hi:∀ (i t o:Nat),[(29,0),(3,1)][i]?=some (t,o)->∃ fb y,DataW.trod enc Tryz.prog W cS fV held fb t ((cs.drop o).take (Tryz.prog.cellsOf t))=some y:=LQ (P:=Tryz.prog) aA hi;rw[show Tryz.prog.cellsOf 31=2 by kernel_rfl]at ay;obtain⟨ud,gf,rfl⟩:=ako ay;obtain⟨_,_,az⟩:=hi 0 _ _ rfl;obtain⟨_,_,aa⟩:=hi 1 _ _ rfl;rw[show Tryz.prog.cellsOf 29=1 by kernel_rfl]at az;rw[show Tryz.prog.cellsOf 3=1 by kernel_rfl]at aa;obtain⟨a,n,c,l,dd,ei,aC,bw,-,-⟩:=QT (f:=ap.cells) (size:=9) (by decide) ap.cT (wO (r7 W)) (show Tryz.prog.underlying 29=some (.slice 66) by kernel_rfl) (by kernel_rfl) (λfb cs x h=>akr h) az;obtain⟨r,aJ,wr⟩:=EM (show Tryz.prog.underlying 3=some (.int .i64) by kernel_rfl) aa;simp at dd aJ;subst dd aJ;exact⟨⟨l,a,n,c,r⟩,rfl,ei,bw,wf_i64 wr⟩
def akw{x:DataW H×List MemPlace}(h:DataW.trod enc Tryz.prog W cS fV held fb 35 cs=some x):∃ d:aP,cs=d.cells/\Ab (r7 W) d:=by obtain⟨cR,ax,aA⟩:∃ cR,Tryz.prog.underlying 35=some (.struct cR)/\cR.toList.map (λf=>(f.type,f.offset))=[(9,0),(31,1)]:=H7 (by kernel_rfl);obtain⟨ay,hi⟩:=LR ax h;have hi:∀ (i t o:Nat),[(9,0),(31,1)][i]?=some (t,o)->∃ fb y,DataW.trod enc Tryz.prog W cS fV held fb t ((cs.drop o).take (Tryz.prog.cellsOf t))=some y:=LQ (P:=Tryz.prog) aA hi;rw[show Tryz.prog.cellsOf 35=3 by kernel_rfl]at ay;obtain⟨ud,gf,gn,rfl⟩:=akn ay;obtain⟨_,_,az⟩:=hi 0 _ _ rfl;obtain⟨_,_,aa⟩:=hi 1 _ _ rfl;rw[show Tryz.prog.cellsOf 9=1 by kernel_rfl]at az;rw[show Tryz.prog.cellsOf 31=2 by kernel_rfl]at aa;obtain⟨s,dd,-,ws⟩:=Qs (show Tryz.prog.underlying 9=some .string by kernel_rfl) az;obtain⟨t,aJ,ax⟩:=akv aa;simp[bP.cells]at dd aJ;obtain⟨QU,QV⟩:=aJ;subst dd QU QV;exact⟨⟨s,t⟩,rfl,by unfold maxLen at ws;exact ws,ax⟩
def akx{x:DataW H×List MemPlace}(h:DataW.trod enc Tryz.prog W cS fV held fb 24 cs=some x):∃ g:cD,cs=[.slice g.a g.n g.c]/\s3 (r7 W) g:=by obtain⟨cR,ax,aA⟩:∃ cR,Tryz.prog.underlying 24=some (.struct cR)/\cR.toList.map (λf=>(f.type,f.offset))=[(22,0)]:=H7 (by kernel_rfl);obtain⟨ay,hi⟩:=LR ax h;have hi:∀ (i t o:Nat),[(22,0)][i]?=some (t,o)->∃ fb y,DataW.trod enc Tryz.prog W cS fV held fb t ((cs.drop o).take (Tryz.prog.cellsOf t))=some y:=LQ (P:=Tryz.prog) aA hi;rw[show Tryz.prog.cellsOf 24=1 by kernel_rfl]at ay;obtain⟨ud,rfl⟩:=akp ay;obtain⟨_,_,az⟩:=hi 0 _ _ rfl;rw[show Tryz.prog.cellsOf 22=1 by kernel_rfl]at az;obtain⟨a,n,c,l,dd,ei,aC,bw,-,-⟩:=QT (f:=aP.cells) (size:=3) (by decide) aP.cT (Ab (r7 W)) (show Tryz.prog.underlying 22=some (.slice 35) by kernel_rfl) (by kernel_rfl) (λfb cs x h=>akw h) az;exact⟨⟨l,a,n,c⟩,dd,ei,bw⟩
def aky{w:World}{r:Reach}{cS t:Nat}(ax:P.underlying t=some (.struct cR))(h:Value.okWide P w r cS t v):∃ cs,v=.agg cs:=by obtain⟨cs,aa,-⟩:=Go.WideShapes.okWide_struct ax h;exact⟨cs,aa⟩
def akz{W:World}{cS:Nat}{d:DataW H}{p:List MemPlace}(h:DataW.Trod enc Tryz.prog W 0 (λ_=>true) true 24 v d p)(ah:Value.okWide Tryz.prog W .any cS 24 v):∃ g:cD,v=g.val/\s3 (r7 W) g:=by obtain⟨cR,ax,-⟩:=H7 (P:=Tryz.prog) (t:=24) (l:=[(22,0)]) (by kernel_rfl);obtain⟨cs,rfl⟩:=aky ax ah;obtain⟨fb,aA⟩:=h;obtain⟨g,e,av⟩:=akx aA;refine⟨g,?_,av⟩;have cQ:cs.toList=[.slice g.a g.n g.c]:=e;cases cs;simp only at cQ;subst cQ;rfl
end
def Yr{H:Type}{enc:TypeId×Value->H}{P:Program}(ay:laidOutB P=true){W lj:World}(ae:Cy W lj):∀ {fT:List TypeId} {vs:List Value} {ds:List (DataW H)} {ps:List MemPlace},(∀ t∈fT,P.readableRec t=true/\t<P.types.size) -> DataW.TrodAll enc P W 0 (λ_=>true) true fT vs ds ps->(∀ p∈ps,p.block<W.heap.size)->∀ fV:Nat->Bool,(∀ p∈ps,fV p.block=true)->DataW.TrodAll enc P lj 0 fV true fT vs ds ps
 |[],[],[],_,_,h,_,_,_=>h
 |t::fT,v::vs,d::ds,_,ax,⟨p,q,aa,ab,e⟩,a1,fV,au=>by
  subst e;refine⟨p,q,?_,?_,rfl⟩
  ·refine Go.WideElems.Trod_stays ay (ax t (.head _)).1 (ax t (.head _)).2 aa (λx ad=>?_) (λx ad=>au x (cF.2 (.inl ad)));have cq:=a1 x (cF.2 (.inl ad));cases x with
   |cell b o=>exact World.cell?_of_block (w:=W) (ae.dI b cq)| map b=>exact ae.dI b cq
  ·exact Yr ay ae (λt h=>ax t (.tail _ h)) ab (λx ad=>a1 x (cF.2 (.inr ad))) fV (λx ad=>au x (cF.2 (.inr ad)))
def akA:mapsRowed Tryz.prog=true:=by kernel_rfl
def akB:Tryz.prog.stopsHeard=true:=by kernel_rfl
def akC:Tryz.prog.mayEnter=true:=by kernel_rfl
def QW:hc 0:=⟨by decide,by decide⟩
def i0:iZ 0:=⟨by decide,by decide⟩
def LS(k:Int)(s:ByteArray):ap:=⟨k,0,0,0,0,s,0,0,none,0,0,[]⟩
def LU(d:ap):Bool:=decide (d.t=⟨#[]⟩)&&(decide (d.lo=0)&&decide (d.hi=0))
def akD(d:ap)(n:Int):Bool:=
 bif decide (d.k=0)then LU d&&decide (n=0)else
 bif decide (d.k=1)then LU d&&decide (n=0)else
 bif decide (d.k=2)then decide (d.lo=0)&&(decide (d.hi=0)&&(decide (n=0)&&(decide ((1:Int)<=d.t.size)&&decide ((d.t.size:Int)<=255))))else
 bif decide (d.k=3)then decide (d.lo=0)&&(decide (d.hi=0)&&(decide (n=0)&&jW d.t))else
 bif decide (d.k=4)||decide (d.k=5)then LU d&&decide (2<=n)else
 bif decide (d.k=6)then decide (d.t=⟨#[]⟩)&&(decide (n=1)&&(decide (0<=d.lo)&&(decide (d.lo<=99)&&(decide (d.hi=-1)||(decide (d.lo<=d.hi)&&decide (d.hi<=99))))))else
 bif decide (d.k=7)||decide (d.k=8)then LU d&&decide (n=1)else
 bif decide (d.k=9)then decide (d.lo=0)&&(decide (d.hi=0)&&(decide (n=1)&&jW d.t))else false
def QX{bA:Int}:∀ {s:List Bool} {i j:Nat},j<s.length->(s.getD j false == decide (((i+j:Nat):Int)=bA))=true->rV bA i s=false
 |b::s,i,0,_,h=>by unfold rV;rw[show(b == decide ((i:Int)=bA))=true by simpa using h];rfl
 |b::s,i,j+1,ai,h=>by
  unfold rV;cases b == decide ((i:Int)=bA)with
  |true=>rfl| false=>simp only[b5];refine QX (j:=j) (by simpa using ai) ?_;rw[show i+1+j=i+(j+1) by omega];simpa using h
def Ys{bA:Int}:∀ {s:List Bool} {i:Nat},(∀ j,j<s.length->(s.getD j false == decide (((i+j:Nat):Int)=bA))=false)->rV bA i s=true
 |[],i,h=>rfl| b::s,i,h=>by unfold rV;have az:=h 0 (by simp);rw[show(b == decide ((i:Int)=bA))=false by simpa using az];simp only[b5];refine Ys λj ai=>?_;have:=h (j+1) (by simpa using ai);rw[show i+1+j=i+(j+1) by omega];simpa using this
structure Yt(I:aM)(a:Option Addr)(c:Nat)(k:Int)(s:ByteArray):Prop where
 a2:dh I a 1 c 9 96 (LS k s).cells
def Yt.rd{a:Option Addr}{k:Int}{s:ByteArray}(h:Yt I a c k s):∃ aU,a=some aU/\∀ M,cO I M (aU.add (0*9)) 9 (LS k s).cells:=by have:=dh.row (f:=ap.cells) (l:=[LS k s]) ap.cT (size:=9) (j:=0) (by simpa using h.a2) (by decide) (b2 1);simpa using this
def bB.ca{o:Oper}{K:gm}(h:bB X o F C I M (λF C I M=>(M.map (·.num)).Nodup->(∀ x∈M,I x.num=none)->K F C I M)):bB X o F C I M K:=
 ⟨λa w Q aV=>tq (λbO w'=>λ⟨dr,C',I',M',⟨β,af⟩,ae⟩=>⟨dr,C',I',M',⟨β,af⟩,ae af.holds.ca af.holds.d⟩) (h.1 a w Q aV)⟩
def aY.Ad{foot:List Nat}{b:Nat}(h:os.ok size xs)(ag:os.n*b<=140737488355328)(bz:∀ g,os.a=some g->I g=none/\g ∉ foot)(Mr:List aE) :
  ∃ I',(∀ dz dm,il foot I' Mr dz dm->il foot I (os.ar e++Mr) dz dm)/\(∀ b o,I b=some o->I' b=some o)/\dh I' (os.a.map λg=>⟨g,0,none⟩) os.n os.c size b xs/\(∀ g,os.a≠some g->I' g=I g):=by
 obtain⟨a,n,c,aS⟩:=os;cases a with
 |none=>obtain⟨aa,ab⟩:=h.nil rfl;simp only at aa ab;subst aa;subst ab;exact⟨I,λ_ _ k=>k,λ_ _ h=>h,⟨h.len,⟨b2 _,by simp⟩,.inl rfl⟩,λ_ _=>rfl⟩
 |some g=>obtain⟨aa,ab,aj,aG⟩:=h.cap g rfl;obtain⟨av,akE⟩:=bz g rfl;refine⟨ins I g (.cells aS.toArray e (0,0)),λ_ _ k=>.k3 rfl akE k,hW av,⟨h.len,⟨ab,ag⟩,.inr ⟨⟨g,0,none⟩,rfl,rfl,_,_,_,mI ..,by simpa using aG⟩⟩,λdM kF=>?_⟩;have:dM≠g:=λe=>kF (by rw[e]);unfold ins;simp only[hE this,b5]
def Yu{ys:List Value}(bU:os.ok size xs){g:Nat}(aH:ys.length=size)(aa:aS.length=c*size)(ab:os.n+1<=c)(aj:c<=maxLen)(aG:aS.take ((os.n+1)*size)=xs++ys) :
  aY.ok ⟨some g,os.n+1,c,aS⟩ size (xs++ys):=by
 have ay:=bU.len;refine⟨?_,(λh=>by cases h),λbR r0=>⟨aa,ab,aj,aG⟩⟩;rw[b3,ay,aH];simp only;rw[l8,o2]
abbrev LV:=bP×Int×ByteArray
def LV.ca(x:LV):ap:=LS x.2.1 x.2.2
structure LV.ok(I:aM)(x:LV):Prop where
 t:x.1.ok I
 ns:x.1.ns=[x.ca]
 bA:x.1.bA=0
 fits:akD x.ca 0=true
def ny(ns:List ap):Int->Nat:=lH 0 (λd g=>1+g3 g d.aw) ns
def H8{t:bP}(af:right t=true){j:Nat}(ai:j<t.ns.length):ny t.ns j=1+g3 (ny t.ns) t.ns[j].aw:=
 B8 (λd g dM h=>by rw[Xz h]) af ai
def akF{t:bP}(af:right t=true):ny t.ns t.bA<=t.ns.length:=by
 have:=P0 af (g:=ny t.ns) (c:=λ_=>1) λj ai=>by rw[H8 af ai];exact b2 _
 rwa [Lo,o2]at this
def Yv{i:Nat}:∀ {ks:List Int} {s cf:List Bool},la i ks s=some cf->∀ j,cf.getD j false=true->s.getD j false=true\/((j:Int)∈ks/\j<i)
 |[],s,cf,h,j,ai=>by simp only[la,j9]at h;subst h;exact .inl ai
 |k::ks,s,cf,h,j,ai=>by
  unfold la at h;cases ag:decide (k<0)||(decide ((i:Int)<=k)||s.getD k.toNat false)with
  |true=>rw[ag]at h;cases h
  |false=>
   rw[ag]at h;simp only[b5]at h;simp only[qN,qz]at ag;rcases Yv h j ai with aa | aa
   ·by_cases e:k.toNat=j
    ·right
     refine⟨?_,by omega⟩;have:(j:Int)=k:=by omega
     rw[this];exact .head _
    ·left
     simp only[bt,iu]at aa |-;rwa [bS e]at aa
   ·exact .inr ⟨.tail _ aa.1,aa.2⟩
def Yw:∀ {ds:List ap} {i:Nat} {s cf:List Bool},jI i ds s=some cf->∀ j,cf.getD j false=true->s.getD j false=true\/∃ q,∃ h:q<ds.length,(j:Int)∈ds[q].aw/\j<i+q
 |[],i,s,cf,h,j,ai=>by simp only[jI,j9]at h;subst h;exact .inl ai
 |d::ds,i,s,cf,h,j,ai=>by
  unfold jI at h;cases aA:fits d d.aw.length with
  |false=>rw[aA]at h;cases h
  |true=>
   rw[aA]at h;simp only[cb]at h;split at h
   ·rename_i s1 fz;rcases Yw h j ai with aa | ⟨q,aN,aa,ab⟩
    ·rcases Yv fz j aa with aj | ⟨aj,aG⟩
     ·exact .inl aj
     ·exact .inr ⟨0,by simp,aj,by omega⟩
    ·exact .inr ⟨q+1,by simpa using aN,by simpa using aa,by omega⟩
   ·cases h
def Yx{t:bP}(af:right t=true){j:Nat}(ai:j<t.ns.length)(bs:(j:Int)≠t.bA):∃ p,∃ h:p<t.ns.length,(j:Int)∈t.ns[p].aw/\j<p:=by
 unfold right at af;simp only[cz]at af;obtain⟨_,_,af⟩:=af;split at af
 ·rename_i s au;have fc:=(PZ (g:=λ_=>0) (c:=λ_=>0) au (by simp) (λj ai=>by simp)).1;have hm:s.getD j false=true:=by
   cases ag:s.getD j false with
   |true=>rfl| false=>have:=QX (bA:=t.bA) (s:=s) (i:=0) (j:=j) (by rw[fc];simpa using ai) (by rw[ag,cX];simp[bs]);rw[this]at af;cases af
  rcases Yw au j hm with aa | ⟨q,aN,aa,ab⟩;·simp[bt,ai]at aa
  ·exact⟨q,aN,aa,by omega⟩
 ·cases af
def Yy{g:Int->Nat}:∀ {ks:List Int} {k:Int},k∈ks->g k<=g3 g ks
 |a::ks,k,h=>by
  simp only[g3,bX,hI];rcases eg.1 h with rfl | h;·omega
  ·have:=Yy (g:=g) h;simp only[g3]at this;omega
def QY{t:bP}(af:right t=true):∀ (m j:Nat),j<t.ns.length->t.ns.length-j<=m->ny t.ns j<=t.ns.length
 |0,j,ai,hm=>by omega
 |m+1,j,ai,hm=>by
  by_cases e:(j:Int)=t.bA;·rw[e];exact akF af
  ·obtain⟨p,aB,ae,a1⟩:=Yx af ai e;have aa:=QY af m p aB (by omega);rw[H8 af aB]at aa;have:=Yy (g:=ny t.ns) ae;omega
def H9(g:Int->Nat)(a b:List Int):g3 g (a++b)=g3 g a+g3 g b:=by simp[g3]
def QZ{t:bP}(af:right t=true):∀ {l:List Int},valid t.ns.length l->l.length<=g3 (ny t.ns) l
 |[],_=>by simp
 |a::l,ah=>by have aa:=QZ af (l:=l) λk ae=>ah k (.tail _ ae);have ab:=ah a (.head _);obtain⟨a,rfl⟩:=ea ab.1;have aj:=H8 af (j:=a) (by omega);simp only[g3,bX,hI,c2]at aa |-;have aG:ny t.ns (Int.ofNat a)=ny t.ns a:=rfl;omega
def ue(ns:List ap):Nat->List Int->List Int->List Int
 |0,_,b=>b
 |f+1,todo,b=>match todo.getLast? with
  |none=>b| some n=>ue ns f (todo.dropLast++(nodeAt ns n.toNat).aw) (b++[n])
def Ae(ns:List ap)(node:Int):List Int:=ue ns (ns.length+1) [node] []
def Yz(ns:List ap)(f:Nat)(b:List Int):ue ns f [] b=b:=by cases f<;>rfl
def YA(ns:List ap)(f:Nat)(todo:List Int)(n:Int)(b:List Int):ue ns (f+1) (todo++[n]) b=ue ns f (todo++(nodeAt ns n.toNat).aw) (b++[n]):=by rw[ue];simp only[Qq,Qr]
def ap.a0(d:ap):ap:=⟨d.k,d.cC,d.s1,d.s2,d.c0,d.t,d.lo,d.hi,none,0,0,d.aw⟩
def ap.eQ(d:ap)(l:List Int):ap:=⟨d.k,d.cC,d.s1,d.s2,d.c0,d.t,d.lo,d.hi,none,0,0,l⟩
def CA(ns:List ap)(aX:List Int×List ap)(b:Int):List Int×List ap:=
 (aX.1.set b.toNat aX.2.length,aX.2++[(nodeAt ns b.toNat).eQ ((nodeAt ns b.toNat).aw.map λk=>(aX.1.set b.toNat aX.2.length).getD k.toNat 0)])
def r8(ns:List ap)(node:Int):List ap:=((Ae ns node).reverse.foldl (CA ns) (List.replicate ns.length 0,[])).2
def aY.pop{x:Value}(h:os.ok 1 (xs++[x])):aY.ok ⟨os.a,os.n-1,os.c,os.aS⟩ 1 xs:=by
 have ay:=h.len;simp only[b3,c2,fs,fa]at ay;refine⟨by simp only;omega,λa6=>?_,λg av=>?_⟩
 ·have:=h.nil a6;simp only;omega
 ·obtain⟨aa,ab,aj,aG⟩:=h.cap g av;refine⟨aa,by simp only;omega,aj,?_⟩;simp only;have e:os.n*1=xs.length+1:=by omega
  rw[e]at aG;have:os.aS.take xs.length=(os.aS.take (xs.length+1)).take xs.length:=by rw[BR];congr 1;omega
  rw[show(os.n-1)*1=xs.length by omega,this,aG,zv]
structure akG(t:bP)(node:Int)(x:aY×List Int×aY×List Int×Nat):Prop where
 todo:x.1.ok 1 (x.2.1.map (.int .i64 ·))
 back:x.2.2.1.ok 1 (x.2.2.2.1.map (.int .i64 ·))
 awD:valid t.ns.length x.2.1
 awE:valid t.ns.length x.2.2.2.1
 sum:g3 (ny t.ns) x.2.1+x.2.2.2.1.length=ny t.ns node
 fb:g3 (ny t.ns) x.2.1+1<=x.2.2.2.2
 eq:Ae t.ns node=ue t.ns x.2.2.2.2 x.2.1 x.2.2.2.1
structure YB(I:aM)(t:bP)(rb:List Int)(x:Nat×List Int×aY×List ap×aM):Prop where
 j:x.1<=rb.length
 len:x.2.1.length=t.ns.length
 out:x.2.2.1.ok 9 (x.2.2.2.1.flatMap ap.cells)
 on:x.2.2.2.1.length=x.1
 eq:(rb.take x.1).foldl (CA t.ns) (List.replicate t.ns.length 0,[])=(x.2.1,x.2.2.2.1.map ap.a0)
 ok:∀ d∈x.2.2.2.1,d.ok x.2.2.2.2
 le:∀ b o,I b=some o->x.2.2.2.2 b=some o
 H':∀ c∈x.2.1,0<=c/\c<=rb.length
 YC:∀ d∈x.2.2.2.1,∀ k∈d.aw,0<=k/\k<=rb.length
structure aW where
 z:Bool
 s:Bool
 f:Bool
 deriving DecidableEq
def aW.cells(x:aW):List Value:=[.bool x.z,.bool x.s,.bool x.f]
def aW.val(x:aW):Value:=.agg #[.bool x.z,.bool x.s,.bool x.f]
def aW.cT(x:aW):x.cells.length=3:=rfl
def aW.kS(x:aW):Bool:=x.z||x.s
def akH(x y:aW)(p q:Operand)(w:World):(do eqGuard .neq 270 p q x.val y.val;binOp .neq 270 x.val y.val:Sem Value).run Tryz.prog w=.ok (.bool (!decide (x=y))) w:=by
 obtain⟨a,b,c⟩:=x;obtain⟨d,e,f⟩:=y;cases a<;>cases b<;>cases c<;>cases d<;>cases e<;>cases f<;>kernel_rfl
def gB.YD{p q:aW}{V:Value->Prop}(h:V (.bool (!decide (p=q)))):gB Tryz.prog .neq 270 x y (.val (.agg #[.bool p.z,.bool p.s,.bool p.f])) (.val (.agg #[.bool q.z,.bool q.s,.bool q.f])) V other:=
 .mk _ _ _ rfl rfl (λw=>akH p q x y w) h
def Q0{s f:Bool}{x:aW}(aa:z=x.z)(ab:s=x.s)(aj:f=x.f):Value.agg #[.bool z,.bool s,.bool f]=x.val:=by subst aa ab aj;rfl
def YE{s f:Bool}{x:aW}(aa:z=x.z)(ab:s=x.s)(aj:f=x.f):[Value.bool z,Value.bool s,Value.bool f]=x.cells:=by subst aa ab aj;rfl
def akI{a b:Bool}(h:a=b):zn (.val (.bool a)) (.val (.bool b)):=by subst h;exact .refl
def LW{a b:Bool}(h:a=b):zn (.lit a) (.val (.bool b)):=by subst h;exact .lit
def perm_nil:M.Perm (M++[]):=by simp
def gB.akJ{E:Env}(aQ:cU P E){t:Nat}{aI:dH}(ax:E t=some c7)(dT:c7.bM=.array 4 e)(he:E e=some aI){k:IntKind}(kI:aI.bM=.int k)(av:P.eqGuardType P.depth t=false){fI cM d' eh o6 b1 bT cw:Int}{V:Value->Prop}
  (h:V (.bool (!(fI == o6&&(cM == b1&&(d' == bT&&eh == cw)))))):gB P .neq t x y (.val (.agg #[.int k fI,.int k cM,.int k d',.int k eh])) (.val (.agg #[.int k o6,.int k b1,.int k bT,.int k cw])) V other:=by
 obtain⟨d,fM,fu⟩:=(aQ _ _ ax).fx;obtain⟨qJ,PF,PG⟩:=(aQ _ _ he).fx;obtain⟨inf,z,hi,ft,_⟩:=(aQ _ _ he).inf;have aa:d=.array 4 e:=by rw[dT]at fu;cases d<;>simp_all[fw]
 have ab:qJ=.int k:=by rw[kI]at PG;cases qJ<;>simp_all[fw]
 subst aa;subst ab;have fz:inf.size=1:=by rw[ft];exact(aQ _ _ he).Kt (by rw[kI];rfl)
 refine .mk _ _ _ rfl rfl (λw=>?_) h;simp only[ct,run_eqGuard_agg (hm:=av),bY,binOp,WE fM PF hi fz,c3]
def Q1(x:aW):Spec Tryz.prog 283 [x.val] I M λv I' M'=>v=.bool x.kS/\I'=I/\M'=M:=by
 obtain⟨a,b,c⟩:=x;refine cg [] a7 Tryz.func283 rfl rfl rfl ?_;intro B az;refine cj.mk (λh=>?_) (λh=>?_)
 ·exact⟨_,_,.refl,by rw[show a=false from h];rfl,rfl,rfl⟩
 ·exact⟨_,_,.refl,by rw[show a=true from h];rfl,rfl,rfl⟩
structure mf(I:aM)(M:List aE)(a:Option Addr)(n:Nat)(ks:List aW):Prop where
 n:ks.length=n
 rd:∀ j (h:j<ks.length),∃ aU,a=some aU/\cO I M (aU.add (j*3)) 3 ks[j].cells
def ll(aX:aW×Bool)(k:aW):aW×Bool:=(⟨aX.1.z&&k.z,aX.1.s||k.s,aX.1.f||(aX.2&&k.f)⟩,aX.2&&k.kS)
def hM(ks:List aW):aW×Bool:=ks.foldl ll (⟨true,false,false⟩,true)
def hN(ks:List aW):aW:=⟨(hM ks).1.z,(hM ks).1.s&&(hM ks).2,(hM ks).1.f⟩
def pq(f k:aW):aW:=⟨f.z||(f.f&&k.z),f.s||(f.f&&k.s),f.f&&k.f⟩
def qZ(ks:List aW):aW:=ks.foldl pq ⟨false,false,true⟩
def b4:aW:=⟨false,false,false⟩
def yu(d:ap)(k:aW):aW:=bif decide (d.hi=0)then⟨true,false,false⟩else⟨k.z||(decide (d.lo=0)&&k.f),k.s,decide (0<d.lo)&&k.f⟩
def gW(d:ap)(ks:List aW):aW:=
 bif decide (d.k=0)then⟨true,false,false⟩else
 bif decide (d.k=1)then⟨false,!d.qL,true⟩else
 bif decide (d.k=2)then⟨false,true,true⟩else
 bif decide (d.k=3)then ks.headD b4 else
 bif decide (d.k=4)then hN ks else
 bif decide (d.k=5)then qZ ks else
 bif decide (d.k=6)then yu d (ks.headD b4)else
 bif decide (d.k=7)then⟨(ks.headD b4).kS,false,(ks.headD b4).f⟩else
 bif decide (d.k=8)then⟨(ks.headD b4).f,false,(ks.headD b4).kS⟩else ks.headD b4
section
variable{I:aM}{M:List aE}{d:ap}{a:Option Addr}{n c:Nat}{ks:List aW}
def mf.head(ae:mf I M a n ks)(az:0<n):∃ aU,a=some aU/\cO I M (aU.add (0*3)) 3 (ks.headD b4).cells:=by
 have aa:0<ks.length:=by rw[ae.n];exact az
 obtain⟨aU,ab,aj⟩:=ae.rd 0 aa;refine⟨aU,ab,?_⟩;cases ks with
 |nil=>simp at aa| cons k ks=>exact aj
def akK:Spec Tryz.prog 263 [d.val,.slice a n c] I M λv I' M'=>v=aW.val ⟨true,false,false⟩/\I'=I/\M'=M:=by refine cg [] a7 Tryz.func263 rfl rfl rfl ?_;intro B az;exact⟨_,_,.refl,rfl,rfl,rfl⟩
def akL:Spec Tryz.prog 265 [d.val,.slice a n c] I M λv I' M'=>v=aW.val ⟨false,true,true⟩/\I'=I/\M'=M:=by refine cg [] a7 Tryz.func265 rfl rfl rfl ?_;intro B az;exact⟨_,_,.refl,rfl,rfl,rfl⟩
def YF(ae:mf I M a n ks)(az:0<n):Spec Tryz.prog 266 [d.val,.slice a n c] I M λv I' M'=>v=(ks.headD b4).val/\I'=I/\M'=M:=by refine cg [] a7 Tryz.func266 rfl rfl rfl ?_;intro B iG;obtain⟨aU,bK,bm⟩:=ae.head az;refine bf.mk aU 0 bK rfl az ?_;refine aR.mk _ bm ?_;exact⟨_,_,.refl,rfl,rfl,rfl⟩
def akM(ae:mf I M a n ks)(az:0<n):Spec Tryz.prog 270 [d.val,.slice a n c] I M λv I' M'=>v=aW.val ⟨(ks.headD b4).kS,false,(ks.headD b4).f⟩/\I'=I/\M'=M:=by refine cg [] a7 Tryz.func270 rfl rfl rfl ?_;intro B iG;obtain⟨aU,bK,bm⟩:=ae.head az;refine c4.draw a7 rfl rfl rfl ?_;refine bf.mk aU 0 bK rfl az ?_;refine aR.mk _ bm ?_;refine bf.mk aU 0 bK rfl az ?_;refine aR.mk _ (bm.part (k:=2) (m:=1) (by decide)) ?_;refine eR.o3 M [] _ perm_nil (Q1 (ks.headD b4)) (λv I' M' h x ad=>by rw[h.2.2];exact ad) ?_;rintro v I' M' -⟨rfl,rfl,rfl⟩;rw[ed];exact⟨_,_,.refl,rfl,rfl,rfl⟩
def akN(ae:mf I M a n ks)(az:0<n):Spec Tryz.prog 271 [d.val,.slice a n c] I M λv I' M'=>v=aW.val ⟨(ks.headD b4).f,false,(ks.headD b4).kS⟩/\I'=I/\M'=M:=by refine cg [] a7 Tryz.func271 rfl rfl rfl ?_;intro B iG;obtain⟨aU,bK,bm⟩:=ae.head az;refine c4.draw a7 rfl rfl rfl ?_;refine bf.mk aU 0 bK rfl az ?_;refine aR.mk _ (bm.part (k:=2) (m:=1) (by decide)) ?_;refine bf.mk aU 0 bK rfl az ?_;refine aR.mk _ bm ?_;refine eR.o3 M [] _ perm_nil (Q1 (ks.headD b4)) (λv I' M' h x ad=>by rw[h.2.2];exact ad) ?_;rintro v I' M' -⟨rfl,rfl,rfl⟩;rw[ed];exact⟨_,_,.refl,rfl,rfl,rfl⟩
def akO:Spec Tryz.prog 264 [d.val,.slice a n c] I M λv I' M'=>v=aW.val ⟨false,!d.qL,true⟩/\I'=I/\M'=M:=by refine cg [] a7 Tryz.func264 rfl rfl rfl ?_;intro B az;refine gB.akJ a7 (e:=62) rfl rfl rfl rfl (by kernel_rfl) ?_;exact⟨_,_,.refl,rfl,rfl,rfl⟩
def akP(ae:mf I M a n ks)(az:0<n):Spec Tryz.prog 269 [d.val,.slice a n c] I M λv I' M'=>v=(yu d (ks.headD b4)).val/\I'=I/\M'=M:=by
 refine cg [] a7 Tryz.func269 rfl rfl rfl ?_;intro B iG;obtain⟨aU,bK,bm⟩:=ae.head az;generalize ks.headD b4=k at bm;obtain⟨Q2,Q3,Q4⟩:=k;refine a3.mk (λh=>?_) (λh=>?_)
 ·refine⟨_,_,.refl,Q0 ?_ ?_ ?_,rfl,rfl⟩<;>simp[yu,h]
 refine bf.mk aU 0 bK rfl az ?_;refine aR.mk _ bm ?_
 repeat' refine cj.mk (λh=>?_) (λh=>?_)
 all_goals refine⟨_,_,.refl,Q0 ?_ ?_ ?_,rfl,rfl⟩
 all_goals first | (simp_all[yu];done) | (simp_all[yu];intros;omega)
def akQ(ae:mf I M a n ks)(aC:n<=140737488355328):Spec Tryz.prog 268 [d.val,.slice a n c] I M λv I' M'=>v=(qZ ks).val/\I'=I/\M'=M:=by
 refine cg [] a7 Tryz.func268 rfl rfl rfl ?_;intro B iG;have ff:=ae.n;refine dg.inv (ι:=Nat×aW) (λx=>{ bj:=[(4,.ref 4 0),(5,.ref 5 0),(9,.val (.slice a n c)),(10,.val (.int .i64 n)),(11,.val (.int .i64 x.1))],cl:=[(4,b4.cells),(5,x.2.cells)],cI:=I,de:=M }) (λx=>x.1<=n/\x.2=(ks.take x.1).foldl pq ⟨false,false,true⟩) (λx=>n-x.1) ?_ ?_
 ·exact⟨(0,⟨false,false,true⟩),⟨dw _,rfl⟩,.refl,hv,.cons rfl (.cons rfl .nil)⟩
 rintro⟨i,f⟩⟨hi,aA⟩;simp only at hi aA;refine a3.mk (λh=>?_) (λh=>?_)
 rotate_left
 ·have cJ:n<=i:=by have:=eu h;omega
  refine⟨_,_,.refl,?_,rfl,rfl⟩;rw[fN (by omega)]at aA;rw[qZ,<-aA];rfl
 have a1:i<n:=by have:=dB h;omega
 obtain⟨aU,bK,bm⟩:=ae.rd i (by omega);have dS:∀ g:aW,g=pq f (ks[i]'(by omega))->g=(ks.take (i+1)).foldl pq ⟨false,false,true⟩:=λg av=>by rw[gy (by omega),r4,<-aA,av];rfl
 generalize ks[i]'(by omega)=k at bm dS;obtain⟨Q2,Q3,Q4⟩:=k;obtain⟨z,s,Q5⟩:=f;refine bf.mk aU i bK rfl a1 ?_;refine aR.mk _ bm ?_
 repeat' refine cj.mk (λh=>?_) (λh=>?_)
 all_goals refine bg.mk _ (cL (i:=i) (by omega)) ?_
 all_goals refine⟨(i+1,_),⟨⟨by simp only;omega,dS _ rfl⟩,by simp only;omega⟩,.refl,hv,.cons rfl (.cons ?_ .nil)⟩
 all_goals clear dS aA bm
 all_goals (refine congrArg some (YE ?_ ?_ ?_)<;>simp_all[pq])
def akR(l:List aW)(k:aW):hM (l++[k])=ll (hM l) k:=by simp[hM]
def akS(ae:mf I M a n ks)(aC:n<=140737488355328):Spec Tryz.prog 267 [d.val,.slice a n c] I M λv I' M'=>v=(hN ks).val/\I'=I/\M'=M:=by
 refine cg [] a7 Tryz.func267 rfl rfl rfl ?_;intro B iG;have ff:=ae.n;refine dg.inv (ι:=Nat×aW×Bool) (λx=>{ bj:=[(4,.ref 4 0),(5,.ref 5 0),(6,.val (.bool x.2.2)),(10,.val (.slice a n c)),(11,.val (.int .i64 n)),(12,.val (.int .i64 x.1))],cl:=[(4,b4.cells),(5,x.2.1.cells)],cI:=I,de:=M }) (λx=>x.1<=n/\x.2=hM (ks.take x.1)) (λx=>n-x.1) ?_ ?_
 ·exact⟨(0,⟨true,false,false⟩,true),⟨dw _,rfl⟩,.refl,.cons .refl (.cons .refl (.cons .lit (ht))),.cons rfl (.cons rfl .nil)⟩
 rintro⟨i,f,YG⟩⟨hi,aA⟩;simp only at hi aA;refine a3.mk (λh=>?_) (λh=>?_)
 rotate_left
 ·have cJ:n<=i:=by have:=eu h;omega
  rw[fN (by omega)]at aA;obtain⟨z,s,Q5⟩:=f;have aJ:(hM ks).1=⟨z,s,Q5⟩:=by rw[<-aA]
  have a4:(hM ks).2=YG:=by rw[<-aA]
  refine cj.mk (λab=>?_) (λab=>?_)
  all_goals refine⟨_,_,.refl,Q0 ?_ ?_ ?_,rfl,rfl⟩
  all_goals simp_all[hN]
 have a1:i<n:=by have:=dB h;omega
 obtain⟨aU,bK,bm⟩:=ae.rd i (by omega);have dS:∀ g:aW×Bool,g=ll (f,YG) (ks[i]'(by omega))->g=hM (ks.take (i+1)):=λg av=>by rw[gy (by omega),akR,<-aA,av]
 generalize ks[i]'(by omega)=k at bm dS;obtain⟨Q2,Q3,Q4⟩:=k;obtain⟨z,s,Q5⟩:=f;refine bf.mk aU i bK rfl a1 ?_;refine aR.mk _ bm ?_
 repeat' first
  |refine cj.mk (λh=>?_) (λh=>?_)|(refine bd.mk M [] _ perm_nil (Q1 ⟨Q2,Q3,Q4⟩) ?_;rintro v I' M' -⟨rfl,rfl,rfl⟩;rw[ed])
 all_goals refine bg.mk _ (cL (i:=i) (by omega)) ?_
 all_goals refine⟨(i+1,_),⟨⟨by simp only;omega,dS _ rfl⟩,by simp only;omega⟩,.refl,.cons .refl (.cons .refl (.cons ?_ (ht))),.cons rfl (.cons ?_ .nil)⟩
 all_goals clear dS aA bm
 all_goals first
  |(refine congrArg some (YE ?_ ?_ ?_)<;>simp_all[ll])|(refine akI ?_;simp_all[ll])|(refine LW ?_;simp_all[ll])
end
def cO.mono{a:Addr}{n:Nat}(h:cO I M a n vs)(bz:∀ b o,I b=some o->I' b=some o):cO I' M a n vs:=by obtain⟨aa,cs,T,ao,ab,aj⟩:=h;exact⟨aa,cs,T,ao,ab.imp (bz _ _) id,aj⟩
def cO.sub{I:aM}{M M':List aE}{a:Addr}{n:Nat}{vs:List Value}(h:cO I M a n vs)(a':∀ x∈M,x∈M'):cO I M' a n vs:=by obtain⟨aa,cs,T,ao,ab,aj⟩:=h;refine⟨aa,cs,T,ao,ab.imp id ?_,aj⟩;rintro⟨x,ad,aJ,a4⟩;exact⟨x,a' x ad,aJ,a4⟩
def jN(aX:List ap×List Int)(l:List ap):List ap×List Int:=
 (aX.1++l.map (λx=>x.eQ (x.aw.map λk=>(aX.1.length:Int)+k)),aX.2++[((aX.1.length+l.length:Nat):Int)-1])
def wP(d:ap)(fY:List (List ap)):List ap:=(fY.foldl jN ([],[])).1++[d.eQ (fY.foldl jN ([],[])).2]
section
variable{X:cV}{β:Nat->Nat}{a:Act}{w:World}{F:Fr}{C:dF}{I:aM}{M:List aE}{o:Oper}{Q:Exit->Act->World->Prop}{K:gm}
def YH(aQ:cU X.P X.E){t:Nat}{k:Nat}(ax:X.E t=some c7)(dT:c7.bM=.map k e)(ae:X.E k=some tN)(eZ:tN.bM=.string)(bb:∀ w,(zeroValue e).run X.P w=.ok (.int .i64 0) w){g:Nat}{l:List (ByteArray×Int)}{s:ByteArray}(av:w.heap[g]?=some (jL l))(ok:Bool) :
  (Instr.lookup t (.map (some g)) (.string s) ok).run X.P w=.ok (bif ok then .tuple #[.int .i64 ((eD s l).getD 0),.bool (eD s l).isSome]else .int .i64 ((eD s l).getD 0)) w:=by
 obtain⟨d,fM,fu⟩:=(aQ _ _ ax).fx;have aa:d=.map k e:=by rw[dT]at fu;cases d<;>simp_all[fw]
 subst aa;obtain⟨di,sY,hV⟩:=(aQ _ _ ae).fx;have ab:di=.string:=by rw[eZ]at hV;cases di<;>simp_all[fw]
 subst ab;have av:w.heap[g]?=some (.map (pf l 0).toArray l.length):=av;obtain⟨r,wj,mM⟩:=Lv s l 0 0;have an:(Instr.checkKey (pf l 0).toArray.isEmpty 10000 k (.string s)).run X.P w=.ok () w:=Ep (k:=.string s) sY (by simp[MapKept.IsKey]) _ 9999;have vk:(Instr.findKey k (.string s) (pf l 0)).run X.P w=.ok r w:=Er sY wj;unfold Instr.lookup;simp only[ct,run_underlying fM,bY,En av,c3,an,vk];cases r with
 |none=>
  cases ay:eD s l with
  |none=>cases ok<;>simp[bb]
  |some v=>rw[ay]at mM;simp at mM
 |some p=>
  cases ay:eD s l with
  |none=>rw[ay]at mM;simp at mM
  |some v=>
   rw[ay]at mM;simp only[lx,j9]at mM;cases ok<;>simp[mM]
def bB.YI(aQ:cU X.P X.E){t:Nat}(aK:o.op=.lookup t x y true)(ak:∀ d,o.dst=some d->d<X.n){k:Nat}(ax:X.E t=some c7)(dT:c7.bM=.map k e)(ae:X.E k=some tN)(eZ:tN.bM=.string)(bb:∀ w,(zeroValue e).run X.P w=.ok (.int .i64 0) w){g:Nat}{l:List (ByteArray×Int)}{s:ByteArray}(ad:bF F x=.val (.map (some g)))(aH:bF F y=.val (.string s))(a':ik I M g (jL l))
  (h:K (put o.dst (.val (.tuple #[.int .i64 ((eD s l).getD 0),.bool (eD s l).isSome])) F) C I M):bB X o F C I M K:=by
 refine⟨λa w Q ⟨β,aV⟩=>?_⟩;have fj:=YH aQ ax dT ae eZ bb (a'.heap aV.holds) (s:=s) true;have ex:=df aV.ao ad;have o7:=df aV.ao aH;refine wi aV ak (by rw[aK];simp) ?_ h;unfold execOp;simp only[aK,ex,o7,ct,fj,bY,c3,cb]
def bB.akT(aQ:cU X.P X.E){t:Nat}(aK:o.op=.lookup t x y false)(ak:∀ d,o.dst=some d->d<X.n){k:Nat}(ax:X.E t=some c7)(dT:c7.bM=.map k e)(ae:X.E k=some tN)(eZ:tN.bM=.string)(bb:∀ w,(zeroValue e).run X.P w=.ok (.int .i64 0) w){g:Nat}{l:List (ByteArray×Int)}{s:ByteArray}(ad:bF F x=.val (.map (some g)))(aH:bF F y=.val (.string s))(a':ik I M g (jL l))
  (h:K (put o.dst (.val (.int .i64 ((eD s l).getD 0))) F) C I M):bB X o F C I M K:=by
 refine⟨λa w Q ⟨β,aV⟩=>?_⟩;have fj:=YH aQ ax dT ae eZ bb (a'.heap aV.holds) (s:=s) false;have ex:=df aV.ao ad;have o7:=df aV.ao aH;refine wi aV ak (by rw[aK];simp) ?_ h;unfold execOp;simp only[aK,ex,o7,ct,fj,bY,c3,b5]
end
def oA:List (ByteArray×Int)->Nat->List aP->List (ByteArray×Int)
 |aZ,_,[]=>aZ| aZ,i,d::ds=>oA (bif (eD d.name aZ).isSome then aZ else aZ++[(d.name,(i:Int))]) (i+1) ds
def bD(ds:List aP):List (ByteArray×Int):=oA [] 0 ds
def YJ(av:g.ok I):Spec Tryz.prog 197 [g.val] I [] λv I' M'=>(∀ b o,I b=some o->I' b=some o)/\M'=[]/\∃ h0,v=.map (some h0)/\I' h0=some (jL (bD g.ds)):=by
 refine zt [] a7 Tryz.func197 rfl rfl rfl ?_;intro B az;have fl:=av.n;have jJ:=av.a2.cap;refine bB.makeMap a7 rfl (by simp) rfl rfl rfl λj0=>?_;refine dg.inv (ι:=Nat×List (ByteArray×Int)) (λx=>{ bj:=[(1,.ref 1 0),(3,.val (.map (some j0))),(13,.val (.slice g.a g.n g.c)),(14,.val (.int .i64 g.n)),(15,.val (.int .i64 x.1))],cl:=[(1,[.slice g.a g.n g.c])],cI:=I,de:=[⟨j0,jL x.2⟩] }) (λx=>x.1<=g.n/\bD g.ds=oA x.2 x.1 (g.ds.drop x.1)) (λx=>g.n-x.1) ?_ ?_
 ·exact⟨(0,[]),⟨dw _,rfl⟩,.refl,hv,.cons rfl .nil⟩
 rintro⟨i,aZ⟩⟨hi,aB⟩;simp only at hi aB;refine a3.mk (λh=>?_) (λh=>?_)
 ·have a1:i<g.n:=by have:(i:Int)<(g.n:Int):=dB h;omega
  have cq:i<g.ds.length:=by omega
  obtain⟨aU,bK,bm⟩:=av.a2.row aP.cT a1 cq;rw[e1 cq,oA]at aB;refine bf.mk aU i bK rfl a1 ?_;refine aR.mk _ (bm _) ?_;refine bB.YI a7 rfl (by simp) rfl rfl rfl rfl (λw=>HP w) (l:=aZ) (g:=j0) rfl rfl (.inr ⟨_,.head _,rfl,rfl⟩) ?_;refine a3.mk (λaj=>?_) (λaj=>?_)
  ·have aC:(eD g.ds[i].name aZ).isSome=false:=by simpa using aj
   have ay:eD g.ds[i].name aZ=none:=by simpa using aC
   rw[aC,b5]at aB;refine bB.XO a7 rfl rfl rfl rfl rfl rfl rfl rfl rfl ay (Mr:=[]) (.refl _) ?_;refine bg.mk _ (cL (i:=i) (by omega)) ?_;exact⟨(i+1,_),⟨⟨by simp only;omega,aB⟩,by simp only;omega⟩,.refl,hv,.cons rfl .nil⟩
  ·have aC:(eD g.ds[i].name aZ).isSome=true:=by simpa using aj
   rw[aC,cb]at aB;refine bg.mk _ (cL (i:=i) (by omega)) ?_;exact⟨(i+1,_),⟨⟨by simp only;omega,aB⟩,by simp only;omega⟩,.refl,hv,.cons rfl .nil⟩
 have cJ:g.n<=i:=by have:¬ (i:Int)<(g.n:Int):=eu h;omega
 rw[ki (by omega),oA]at aB;intro fJ;have ag:=fJ.d ⟨j0,jL aZ⟩ (.head _);exact⟨_,_,.k3 rfl (by simp) .refl,hW ag,rfl,j0,rfl,by rw[aB];exact mI ..⟩
def akU:List Nat:=[263,264,265,266,267,268,269,270,271,266]
def Q6:List Value:=[.func (.func 263) #[] #[],.func (.func 264) #[] #[],.func (.func 265) #[] #[],.func (.func 266) #[] #[],.func (.func 267) #[] #[],.func (.func 268) #[] #[],.func (.func 269) #[] #[],.func (.func 270) #[] #[],.func (.func 271) #[] #[],.func (.func 266) #[] #[]]
def akV:Spec Tryz.prog 237 [] I [] λv I' M'=>v=.agg Q6.toArray/\I'=I/\M'=[]:=by refine cg [] a7 Tryz.func237 rfl rfl rfl ?_;intro B az;exact⟨_,_,.refl,rfl,rfl,rfl⟩
def wQ{d:ap}{a:Option Addr}{n:Nat}{ks:List aW}(ae:mf I M a n ks)(aC:n<=140737488355328)(j:Nat)(ai:j<10)(ak:d.k=j)(az:(j=3\/6<=j)->0<n) :
  Spec Tryz.prog (akU.getD j 0) [d.val,.slice a n c] I M λv I' M'=>v=(gW d ks).val/\I'=I/\M'=M:=by
 match j,ai,ak,az with
 |0,_,ak,_=>rw[show gW d ks=⟨true,false,false⟩ by simp[gW,ak]];exact akK (I:=I) (M:=M) (d:=d) (a:=a) (n:=n) (c:=c)| 1,_,ak,_=>rw[show gW d ks=⟨false,!d.qL,true⟩ by simp[gW,ak]];exact akO (I:=I) (M:=M) (d:=d) (a:=a) (n:=n) (c:=c)| 2,_,ak,_=>rw[show gW d ks=⟨false,true,true⟩ by simp[gW,ak]];exact akL (I:=I) (M:=M) (d:=d) (a:=a) (n:=n) (c:=c)| 3,_,ak,az=>rw[show gW d ks=ks.headD b4 by simp[gW,ak]];exact YF (d:=d) (c:=c) ae (az (by omega))| 4,_,ak,_=>rw[show gW d ks=hN ks by simp[gW,ak]];exact akS (d:=d) (c:=c) ae aC| 5,_,ak,_=>rw[show gW d ks=qZ ks by simp[gW,ak]];exact akQ (d:=d) (c:=c) ae aC| 6,_,ak,az=>rw[show gW d ks=yu d (ks.headD b4) by simp[gW,ak]];exact akP (d:=d) (c:=c) ae (az (by omega))| 7,_,ak,az=>rw[show gW d ks=⟨(ks.headD b4).kS,false,(ks.headD b4).f⟩ by simp[gW,ak]];exact akM (d:=d) (c:=c) ae (az (by omega))| 8,_,ak,az=>rw[show gW d ks=⟨(ks.headD b4).f,false,(ks.headD b4).kS⟩ by simp[gW,ak]];exact akN (d:=d) (c:=c) ae (az (by omega))| 9,_,ak,az=>rw[show gW d ks=ks.headD b4 by simp[gW,ak]];exact YF (d:=d) (c:=c) ae (az (by omega))
def fU(b:Nat)(l:List aW):aE:=⟨b,.cells (l.flatMap aW.cells).toArray 270 (0,0)⟩
def CB(l:List aW):(l.flatMap aW.cells).length=l.length*3:=jm _ 3 aW.cT l
def EN{b:Nat}{l:List aW}(a':fU b l∈M){j:Nat}(ai:j<l.length):cO I M ((⟨b,0,none⟩:Addr).add (j*3)) 3 l[j].cells:=by have h:=c5 (I:=I) (cs:=l.flatMap aW.cells) (k:=j*3) (n:=3) a' (by rw[CB];omega);rwa [Ej aW.cells 3 aW.cT l j ai]at h
def Q7(l:List aW)(j:Nat)(ai:j<l.length)(x:aW):ck (l.flatMap aW.cells) (j*3) x.cells=(l.set j x).flatMap aW.cells:=by
 have e:l.flatMap aW.cells=(l.take j).flatMap aW.cells++(l[j].cells++(l.drop (j+1)).flatMap aW.cells):=by
  have aa:l=l.take j++(l[j]::l.drop (j+1)):=by rw[<-e1 ai,rY]
  have ab:=congrArg (λq:List aW=>q.flatMap aW.cells) aa;simp only[hn,jT]at ab;exact ab
 have ay:((l.take j).flatMap aW.cells).length=j*3:=by rw[CB,hT];congr 1;omega
 unfold ck;rw[D8,bN ai,hn,jT,e,dY];congr 1
 ·rw[<-ay,zv]
 ·congr 1;rw[aW.cT,<-ay,<-dY,B6 (by rw[b3,aW.cT])]
def YK(l:List aW)(x:aW):(l++[x]).flatMap aW.cells=l.flatMap aW.cells++x.cells:=by simp
def aY.zero(h:os.ok size xs):aY.ok ⟨os.a,0,os.c,os.aS⟩ size []:=by refine⟨by simp,λa6=>⟨rfl,(h.nil a6).2⟩,λg av=>?_⟩;obtain⟨aa,ab,aj,aG⟩:=h.cap g av;exact⟨aa,dw _,aj,by simp⟩
def aY.YL{l:List aW}(h:os.ok 3 (l.flatMap aW.cells))(a':∀ x∈os.ar e,x∈M):mf I M (os.a.map λg=>⟨g,0,none⟩) os.n l:=by
 have ay:=h.len;rw[CB]at ay;refine⟨by omega,λj ai=>?_⟩;obtain⟨a,n,c,aS⟩:=os;simp only at ay;cases a with
 |none=>have:=(h.nil rfl).1;simp only at this;omega
 |some g=>
  obtain⟨aa,ab,aj,aG⟩:=h.cap g rfl;simp only at aa ab aG;refine⟨⟨g,0,none⟩,rfl,?_⟩;have hm:(⟨g,.cells aS.toArray e (0,0)⟩:aE)∈M:=a' _ (by simp[aY.ar]);have af:=c5 (I:=I) (cs:=aS) (k:=j*3) (n:=3) hm (by omega);have aJ:(aS.drop (j*3)).take 3=((aS.take (n*3)).drop (j*3)).take 3:=by rw[G0,BR];congr 1;omega
  rw[aJ,aG,Ej aW.cells 3 aW.cT l j ai]at af;exact af
def s4(pl:List (ByteArray×Int))(bj aZ:List aW)(d:ap):List aW:=
 d.aw.map (λk=>aZ.getD k.toNat b4)++bif decide (d.k=3)then [bj.getD ((eD d.t pl).getD 0).toNat b4]else []
def ev(pl:List (ByteArray×Int))(bj:List aW):List ap->List aW->List aW
 |[],aZ=>aZ| d::ds,aZ=>ev pl bj ds (aZ++[gW d (s4 pl bj aZ d)])
def Ia(pl:List (ByteArray×Int))(bj:List aW):∀ (ds:List ap) (aZ:List aW),(ev pl bj ds aZ).length=aZ.length+ds.length
 |[],aZ=>rfl| d::ds,aZ=>by rw[ev,Ia];simp;omega
def YM(pl:List (ByteArray×Int))(n:Nat)(ns:List ap):Prop:=∀ d∈ns,d.k=3->∃ i:Nat,eD d.t pl=some (i:Int)/\i<n
def Q8{d:ap}{n:Int}(h:fits d n=true):d.k<10:=by apply Int.lt_of_not_ge;intro cJ;have:(10:Int)<=d.k:=cJ;simp[fits,this]at h
def YN{d:ap}{n:Int}(az:0<=d.k)(h:fits d n=true)(ae:6<=d.k):0<n:=by
 have rU:=Q8 h;have EO:d.k=6\/d.k=7\/d.k=8\/d.k=9:=by omega
 rcases EO with e | e | e | e<;>(simp[fits,e,oj,rT,kJ]at h;omega)
def akW(aZ:List aW)(n i:Nat)(ay:aZ.length=i)(hi:i<n)(x:aW):(aZ++List.replicate (n-i) b4).set i x=(aZ++[x])++List.replicate (n-(i+1)) b4:=by subst ay;rw[HL _ _ (b2 _),p3,show n-aZ.length=(n-(aZ.length+1))+1 by omega,HM,HN];simp
def YO:∀ n:Nat,rowOf b4.cells (n*3)=(List.replicate n b4).flatMap aW.cells:=λn=>by
 apply lC
 ·rw[CB,sO];simp[wg,madeCells]
 intro i aa ab;have aj:∀ x∈(List.replicate n b4).flatMap aW.cells,x=Value.bool false:=λx ad=>by obtain⟨y,aH,ad⟩:=g6.1 ad;have:=Qo aH;subst this;simpa[aW.cells,b4]using ad
 rw[aj _ (bi ab)];have bb:∀ j,j<3->b4.cells[j]! = Value.bool false:=λj ai=>by
  match j,ai with
  |0,_=>rfl| 1,_=>rfl| 2,_=>rfl
 simp only[rowOf,fr,vl];exact bb _ (Nat.mod_lt _ (by decide))
def wR{aZ:List aW}{n i:Nat}(my:aZ.length=i)(a1:i<n)(x:aW):Nat.ble (0+i*3+x.cells.length) ((aZ++List.replicate (n-i) b4).flatMap aW.cells).length=true:=by rw[n5,CB,aW.cT,b3,sO];omega
def YP{M0:List aE}{t:bP}(ax:t.ok I)(af:right t=true){h0:Nat}(hm:I h0=some (jL pl)){lO:Option Addr}{ln lc:Nat}{bj:List aW}(me:mf I M0 lO ln bj)(an:YM pl ln t.ns) :
  Spec Tryz.prog 199 [.map (some h0),.slice lO ln lc,t.val] I M0 λv I' M'=>I'=I/\∃ b,v=.slice (some ⟨b,0,none⟩) t.n t.n/\M'=fU b (ev pl bj t.ns [])::M0:=by
 refine cg [] a7 Tryz.func199 rfl rfl rfl ?_;intro B az;have hK:=ax.n;have jJ:=ax.a2.cap;refine bd.mk [] M0 _ (.refl _) akV ?_;rintro v I1 M1 -⟨rfl,rfl,rfl⟩;refine m0.mk t.n t.n rfl rfl (b2 _) (by show 3*t.n<=_;omega) (by omega) ?_;refine b'.mk λfX EE ajG=>?_;refine dg.inv (ι:=Nat×List aW×aY) (λx=>{ bj:=[(0,.val (.map (some h0))),(1,.val (.slice lO ln lc)),(5,.ref 5 0),(7,.ref 7 0),(8,.val (.slice (some ⟨fX,0,none⟩) t.n t.n)),(9,.val x.2.2.val),(20,.val (.slice t.a t.n t.c)),(21,.val (.int .i64 t.n)),(22,.val (.int .i64 x.1))],cl:=[(5,t.cells),(7,Q6)],cI:=I1,de:=fU fX (x.2.1++List.replicate (t.n-x.1) b4)::(x.2.2.ar 270++M0) }) (λx=>x.1<=t.n/\x.2.1.length=x.1/\ev pl bj t.ns []=ev pl bj (t.ns.drop x.1) x.2.1/\∃ ks,x.2.2.ok 3 ks) (λx=>t.n-x.1) ?_ ?_
 ·refine⟨(0,[],ib),⟨dw _,rfl,rfl,[],lM 3⟩,?_,kh,.cons rfl (.cons rfl .nil)⟩;have e:rowOf b4.cells (t.n*3)=(List.replicate t.n b4).flatMap aW.cells:=YO t.n;simp only[fU,iF,Lx];rw[<-e];exact .refl
 rintro⟨i,aZ,eo⟩⟨hi,my,CC,awF,kQ⟩;simp only at hi my CC kQ;refine a3.mk (λh=>?_) (λh=>?_)
 rotate_left
 ·have cJ:i=t.n:=by have:¬ (i:Int)<(t.n:Int):=eu h;omega
  subst cJ;rw[ki (by omega),ev]at CC;refine⟨I1,fU fX (aZ++List.replicate (t.n-t.n) b4)::M0,.sub (.cons_cons _ (mw _ _)) .refl,rfl,fX,rfl,?_⟩;rw[CC,p3,List.replicate_zero,ed]
 have a1:i<t.n:=by have:(i:Int)<(t.n:Int):=dB h;omega
 have cq:i<t.ns.length:=by omega
 obtain⟨aU,bK,bm⟩:=ax.a2.row ap.cT a1 cq;have gb:=bi cq;have ak:=ax.ns _ gb;have ff:=ak.aO;have r9:=ak.a2.cap;have js:=mG af i cq;have q0:=Es af cq;have YQ:=an _ gb;have YR:ev pl bj t.ns []=ev pl bj (t.ns.drop (i+1)) (aZ++[gW t.ns[i] (s4 pl bj aZ t.ns[i])]):=by rw[CC,e1 cq,ev]
 generalize t.ns[i]=d at bm ak ff r9 js q0 YQ YR;have lb:=ak.k.1;have awG:=Q8 q0;have p6:∀ {M:List aE} {q:Int},fU fX (aZ++List.replicate (t.n-i) b4)∈M->q∈d.aw->cO I1 M ((⟨fX,0,none⟩:Addr).add (q.toNat*3)) 3 (aZ.getD q.toNat b4).cells:=fun {M q} a' aN=>by
  have vq:=js q aN;have eb:q.toNat<aZ.length:=by omega
  have:=EN (I:=I1) a' (j:=q.toNat) (by rw[b3];omega);rw[z3 eb]at this;simpa[bt,eb]using this
 refine bf.mk aU i bK rfl a1 ?_;refine aR.mk _ (bm _) ?_;refine ms.mk 0 0 rfl rfl (b2 _) (dw _) ?_;refine dg.inv (ι:=Nat×aY×List aW) (λx=>{ bj:=[(0,.val (.map (some h0))),(1,.val (.slice lO ln lc)),(5,.ref 5 0),(7,.ref 7 0),(8,.val (.slice (some ⟨fX,0,none⟩) t.n t.n)),(9,.val x.2.1.val),(10,.val (.int .i64 i)),(11,.ref 11 0),(20,.val (.slice t.a t.n t.c)),(21,.val (.int .i64 t.n)),(22,.val (.int .i64 i)),(30,.val (.slice d.dE d.aO d.du)),(31,.val (.int .i64 d.aO)),(32,.val (.int .i64 x.1))],cl:=[(5,t.cells),(7,Q6),(11,d.cells)],cI:=I1,de:=fU fX (aZ++List.replicate (t.n-i) b4)::(x.2.1.ar 270++M0) }) (λx=>x.1<=d.aO/\x.2.1.ok 3 (x.2.2.flatMap aW.cells)/\x.2.2=(d.aw.take x.1).map λk=>aZ.getD k.toNat b4) (λx=>d.aO-x.1) ?_ ?_
 ·exact⟨(0,⟨eo.a,0,eo.c,eo.aS⟩,[]),⟨dw _,aY.zero kQ,rfl⟩,.refl,GV,.cons rfl (.cons rfl (.cons rfl .nil))⟩
 rintro⟨k,cE,gH⟩⟨ae,eS,cv⟩;simp only at ae eS cv;have awH:cE.n=gH.length:=by have:=eS.len;rw[CB]at this;omega
 have EG:gH.length<=k:=by rw[cv,bE];exact B5 _ _
 refine a3.mk (λh=>?_) (λh=>?_)
 ·have eX:k<d.aO:=by have:(k:Int)<(d.aO:Int):=dB h;omega
  have k4:k<d.aw.length:=by omega
  obtain⟨gr,fB,eY⟩:=ak.a2.one eX k4;have aN:=js _ (bi k4);refine bf.mk gr k fB rfl eX ?_;refine aR.mk _ (eY _) ?_;refine bf.mk ⟨fX,0,none⟩ d.aw[k].toNat rfl (by omega) (by omega) ?_;refine aR.mk _ (p6 (.head _) (bi k4)) ?_;refine b'.mk λb9 lf vh=>?_;refine bB.append a7 rfl (by simp) (e:=270) rfl rfl rfl cE eS rfl (m:=1) rfl (ch:=(aZ.getD d.aw[k].toNat b4).cells) (by decide) (c5 (b:=b9) (cs:=(aZ.getD d.aw[k].toNat b4).cells) (k:=0) (n:=3) (T:=270) (.head _) (bI rfl)) rfl (Mr:=⟨b9,.cells (aZ.getD d.aw[k].toNat b4).cells.toArray 270 (0,0)⟩::fU fX (aZ++List.replicate (t.n-i) b4)::M0) (by
   have:=Cn [(⟨b9,.cells (aZ.getD d.aw[k].toNat b4).cells.toArray 270 (0,0)⟩:aE),fU fX (aZ++List.replicate (t.n-i) b4)] (cE.ar 270) M0;exact this) (by simp only[maxLen];omega) (by show(cE.n+1)*3<=_;omega) ?_
  intro ba gn CD hO nx q1 Aa;refine bg.mk _ (cL (i:=k) (by omega)) ?_;refine⟨(k+1,⟨some ba,cE.n+1,gn,CD⟩,gH++[aZ.getD d.aw[k].toNat b4]),⟨⟨by simp only;omega,?_,?_⟩,by simp only;omega⟩,.sub (M1:=[(⟨ba,.cells CD.toArray 270 (0,0)⟩:aE),fU fX (aZ++List.replicate (t.n-i) b4)]++M0) (.cons_cons _ (.cons _ (.refl _))) (.perm (List.Perm.swap _ _ _) .refl),GV,.cons rfl (.cons rfl (.cons rfl .nil))⟩;·simp only;rw[YK];exact Yu eS (aW.cT _) hO nx q1 Aa
  ·simp only;rw[gy k4,cP,<-cv];rfl
 have cJ:d.aO<=k:=by have:¬ (k:Int)<(d.aO:Int):=eu h;omega
 rw[fN (by omega)]at cv;have awI:gH.length=d.aw.length:=by rw[cv,bE]
 have gS:cE.n+1<=140737488355328:=by omega
 clear h ae EG;have g2:∀ x:aW,ck ((aZ++List.replicate (t.n-i) b4).flatMap aW.cells) (0+i*3) x.cells=((aZ++[x])++List.replicate (t.n-(i+1)) b4).flatMap aW.cells:=λx=>by rw[cX,Q7 _ _ (by simp;omega),akW aZ t.n i my a1]
 have hinv:∀ (q2:aY) (wS:List Value),q2.ok 3 wS->((i+1<=t.n/\(aZ++[gW d (s4 pl bj aZ d)]).length=i+1/\ev pl bj t.ns []=ev pl bj (t.ns.drop (i+1)) (aZ++[gW d (s4 pl bj aZ d)])/\∃ ks,q2.ok 3 ks)/\t.n-(i+1)<t.n-i):=λq2 wS ab=>
  ⟨⟨a1,by simp[my],YR,wS,ab⟩,by omega⟩
 by_cases aj:d.k=3
 ·refine a3.mk (λ_=>?_) (λh=>absurd h (by simp[aj]));obtain⟨q,CE,vr⟩:=YQ aj;have Ib:s4 pl bj aZ d=gH++[bj.getD q b4]:=by rw[s4,<-cv,CE,aj];rfl
  have eb:q<bj.length:=by rw[me.n];exact vr
  obtain⟨hf,Ex,fC⟩:=me.rd q eb;have nz:bj.getD q b4=bj[q]:=by simp[bt,eb]
  refine bB.akT a7 rfl (by simp) rfl rfl rfl rfl (λw=>HP w) (l:=pl) (g:=h0) rfl rfl (.inl hm) ?_;rw[CE];refine bf.mk hf q Ex rfl vr ?_;refine aR.mk _ (fC.sub λx ad=>by simp[ad]) ?_;refine b'.mk λb9 lf vh=>?_;refine bB.append a7 rfl (by simp) (e:=270) rfl rfl rfl cE eS rfl (m:=1) rfl (ch:=bj[q].cells) (by decide) (c5 (b:=b9) (cs:=bj[q].cells) (k:=0) (n:=3) (T:=270) (.head _) (bI rfl)) rfl (Mr:=⟨b9,.cells bj[q].cells.toArray 270 (0,0)⟩::fU fX (aZ++List.replicate (t.n-i) b4)::M0) (by
   have:=Cn [(⟨b9,.cells bj[q].cells.toArray 270 (0,0)⟩:aE),fU fX (aZ++List.replicate (t.n-i) b4)] (cE.ar 270) M0;exact this) (by simp only[maxLen];omega) (by show(cE.n+1)*3<=_;omega) ?_
  intro ba gn CD hO nx q1 Aa;have mA:=Yu (g:=ba) eS (aW.cT bj[q]) hO nx q1 Aa;rw[<-YK,<-nz,<-Ib]at mA;have eZ:=aY.YL (I:=I1) (M:=⟨ba,.cells CD.toArray 270 (0,0)⟩::⟨b9,.cells bj[q].cells.toArray 270 (0,0)⟩::fU fX (aZ++List.replicate (t.n-i) b4)::M0) (e:=270) mA (λx ad=>by
   simp only[aY.ar,ec]at ad;subst ad;exact .head _)
  refine c4.draw a7 rfl rfl rfl ?_;obtain⟨di,cC,s1,s2,c0,gp,lo,cZ,uf,ug,uh,ui⟩:=d;simp only at aj;subst aj;refine eH.mk 3 rfl (by decide) ?_;refine eR.o3 _ [] _ perm_nil (wQ (d:=⟨3,cC,s1,s2,c0,gp,lo,cZ,uf,ug,uh,ui⟩) eZ gS 3 (by decide) rfl (λ_=>Nat.succ_pos _)) (λv I' M' h x ad=>by rw[h.2.2];exact ad) ?_;rintro v dz dm -⟨rfl,rfl,rfl⟩;rw[ed];refine bf.mk ⟨fX,0,none⟩ i rfl rfl a1 ?_;refine b8.iJ [(⟨ba,.cells CD.toArray 270 (0,0)⟩:aE),⟨b9,.cells bj[q].cells.toArray 270 (0,0)⟩] M0 ((aZ++List.replicate (t.n-i) b4).flatMap aW.cells) _ rfl (wR my a1 _) rfl _ (g2 _) ?_;refine bg.mk _ (cL (i:=i) (by omega)) ?_;exact⟨(i+1,_,⟨some ba,cE.n+1,gn,CD⟩),hinv _ _ mA,.sub (M1:=[(⟨ba,.cells CD.toArray 270 (0,0)⟩:aE),fU fX _]++M0) (.cons_cons _ (.cons _ (.refl _))) (.perm (List.Perm.swap _ _ _) .refl),kh,.cons rfl (.cons rfl .nil)⟩
 refine a3.mk (λh=>absurd (dB h) aj) (λ_=>?_);have Ib:s4 pl bj aZ d=gH:=by rw[s4,<-cv,dU aj];simp
 rw[Ib]at hinv;have eZ:=aY.YL (I:=I1) (M:=fU fX (aZ++List.replicate (t.n-i) b4)::(cE.ar 270++M0)) (e:=270) eS (λx ad=>by simp[ad]);have m6:6<=d.k->0<cE.n:=λbZ=>by have:=YN lb q0 bZ;omega
 have EO:d.k=0\/d.k=1\/d.k=2\/d.k=4\/d.k=5\/d.k=6\/d.k=7\/d.k=8\/d.k=9:=by omega
 obtain⟨di,cC,s1,s2,c0,gp,lo,cZ,uf,ug,uh,ui⟩:=d;simp only at EO m6 aj;refine c4.draw a7 rfl rfl rfl ?_;rcases EO with rfl | rfl | rfl | rfl | rfl | rfl | rfl | rfl | rfl
 ·refine eH.mk 0 rfl (by decide) ?_;refine eR.o3 _ [] _ perm_nil (wQ (d:=⟨0,cC,s1,s2,c0,gp,lo,cZ,uf,ug,uh,ui⟩) eZ (ym gS) 0 (by decide) rfl (λh=>by omega)) (λv I' M' h x ad=>by rw[h.2.2];exact ad) ?_;rintro v dz dm -⟨rfl,rfl,rfl⟩;rw[ed];refine bf.mk ⟨fX,0,none⟩ i rfl rfl a1 ?_;refine b8.iJ [] (cE.ar 270++M0) ((aZ++List.replicate (t.n-i) b4).flatMap aW.cells) _ rfl (wR my a1 _) rfl _ (g2 _) ?_;refine bg.mk _ (cL (i:=i) (by omega)) ?_;exact⟨(i+1,_,cE),hinv _ _ eS,.refl,kh,.cons rfl (.cons rfl .nil)⟩
 ·refine eH.mk 1 rfl (by decide) ?_;refine eR.o3 _ [] _ perm_nil (wQ (d:=⟨1,cC,s1,s2,c0,gp,lo,cZ,uf,ug,uh,ui⟩) eZ (ym gS) 1 (by decide) rfl (λh=>by omega)) (λv I' M' h x ad=>by rw[h.2.2];exact ad) ?_;rintro v dz dm -⟨rfl,rfl,rfl⟩;rw[ed];refine bf.mk ⟨fX,0,none⟩ i rfl rfl a1 ?_;refine b8.iJ [] (cE.ar 270++M0) ((aZ++List.replicate (t.n-i) b4).flatMap aW.cells) _ rfl (wR my a1 _) rfl _ (g2 _) ?_;refine bg.mk _ (cL (i:=i) (by omega)) ?_;exact⟨(i+1,_,cE),hinv _ _ eS,.refl,kh,.cons rfl (.cons rfl .nil)⟩
 ·refine eH.mk 2 rfl (by decide) ?_;refine eR.o3 _ [] _ perm_nil (wQ (d:=⟨2,cC,s1,s2,c0,gp,lo,cZ,uf,ug,uh,ui⟩) eZ (ym gS) 2 (by decide) rfl (λh=>by omega)) (λv I' M' h x ad=>by rw[h.2.2];exact ad) ?_;rintro v dz dm -⟨rfl,rfl,rfl⟩;rw[ed];refine bf.mk ⟨fX,0,none⟩ i rfl rfl a1 ?_;refine b8.iJ [] (cE.ar 270++M0) ((aZ++List.replicate (t.n-i) b4).flatMap aW.cells) _ rfl (wR my a1 _) rfl _ (g2 _) ?_;refine bg.mk _ (cL (i:=i) (by omega)) ?_;exact⟨(i+1,_,cE),hinv _ _ eS,.refl,kh,.cons rfl (.cons rfl .nil)⟩
 ·refine eH.mk 4 rfl (by decide) ?_;refine eR.o3 _ [] _ perm_nil (wQ (d:=⟨4,cC,s1,s2,c0,gp,lo,cZ,uf,ug,uh,ui⟩) eZ (ym gS) 4 (by decide) rfl (λh=>by omega)) (λv I' M' h x ad=>by rw[h.2.2];exact ad) ?_;rintro v dz dm -⟨rfl,rfl,rfl⟩;rw[ed];refine bf.mk ⟨fX,0,none⟩ i rfl rfl a1 ?_;refine b8.iJ [] (cE.ar 270++M0) ((aZ++List.replicate (t.n-i) b4).flatMap aW.cells) _ rfl (wR my a1 _) rfl _ (g2 _) ?_;refine bg.mk _ (cL (i:=i) (by omega)) ?_;exact⟨(i+1,_,cE),hinv _ _ eS,.refl,kh,.cons rfl (.cons rfl .nil)⟩
 ·refine eH.mk 5 rfl (by decide) ?_;refine eR.o3 _ [] _ perm_nil (wQ (d:=⟨5,cC,s1,s2,c0,gp,lo,cZ,uf,ug,uh,ui⟩) eZ (ym gS) 5 (by decide) rfl (λh=>by omega)) (λv I' M' h x ad=>by rw[h.2.2];exact ad) ?_;rintro v dz dm -⟨rfl,rfl,rfl⟩;rw[ed];refine bf.mk ⟨fX,0,none⟩ i rfl rfl a1 ?_;refine b8.iJ [] (cE.ar 270++M0) ((aZ++List.replicate (t.n-i) b4).flatMap aW.cells) _ rfl (wR my a1 _) rfl _ (g2 _) ?_;refine bg.mk _ (cL (i:=i) (by omega)) ?_;exact⟨(i+1,_,cE),hinv _ _ eS,.refl,kh,.cons rfl (.cons rfl .nil)⟩
 ·refine eH.mk 6 rfl (by decide) ?_;refine eR.o3 _ [] _ perm_nil (wQ (d:=⟨6,cC,s1,s2,c0,gp,lo,cZ,uf,ug,uh,ui⟩) eZ (ym gS) 6 (by decide) rfl (λ_=>m6 (by decide))) (λv I' M' h x ad=>by rw[h.2.2];exact ad) ?_;rintro v dz dm -⟨rfl,rfl,rfl⟩;rw[ed];refine bf.mk ⟨fX,0,none⟩ i rfl rfl a1 ?_;refine b8.iJ [] (cE.ar 270++M0) ((aZ++List.replicate (t.n-i) b4).flatMap aW.cells) _ rfl (wR my a1 _) rfl _ (g2 _) ?_;refine bg.mk _ (cL (i:=i) (by omega)) ?_;exact⟨(i+1,_,cE),hinv _ _ eS,.refl,kh,.cons rfl (.cons rfl .nil)⟩
 ·refine eH.mk 7 rfl (by decide) ?_;refine eR.o3 _ [] _ perm_nil (wQ (d:=⟨7,cC,s1,s2,c0,gp,lo,cZ,uf,ug,uh,ui⟩) eZ (ym gS) 7 (by decide) rfl (λ_=>m6 (by decide))) (λv I' M' h x ad=>by rw[h.2.2];exact ad) ?_;rintro v dz dm -⟨rfl,rfl,rfl⟩;rw[ed];refine bf.mk ⟨fX,0,none⟩ i rfl rfl a1 ?_;refine b8.iJ [] (cE.ar 270++M0) ((aZ++List.replicate (t.n-i) b4).flatMap aW.cells) _ rfl (wR my a1 _) rfl _ (g2 _) ?_;refine bg.mk _ (cL (i:=i) (by omega)) ?_;exact⟨(i+1,_,cE),hinv _ _ eS,.refl,kh,.cons rfl (.cons rfl .nil)⟩
 ·refine eH.mk 8 rfl (by decide) ?_;refine eR.o3 _ [] _ perm_nil (wQ (d:=⟨8,cC,s1,s2,c0,gp,lo,cZ,uf,ug,uh,ui⟩) eZ (ym gS) 8 (by decide) rfl (λ_=>m6 (by decide))) (λv I' M' h x ad=>by rw[h.2.2];exact ad) ?_;rintro v dz dm -⟨rfl,rfl,rfl⟩;rw[ed];refine bf.mk ⟨fX,0,none⟩ i rfl rfl a1 ?_;refine b8.iJ [] (cE.ar 270++M0) ((aZ++List.replicate (t.n-i) b4).flatMap aW.cells) _ rfl (wR my a1 _) rfl _ (g2 _) ?_;refine bg.mk _ (cL (i:=i) (by omega)) ?_;exact⟨(i+1,_,cE),hinv _ _ eS,.refl,kh,.cons rfl (.cons rfl .nil)⟩
 ·refine eH.mk 9 rfl (by decide) ?_;refine eR.o3 _ [] _ perm_nil (wQ (d:=⟨9,cC,s1,s2,c0,gp,lo,cZ,uf,ug,uh,ui⟩) eZ (ym gS) 9 (by decide) rfl (λ_=>m6 (by decide))) (λv I' M' h x ad=>by rw[h.2.2];exact ad) ?_;rintro v dz dm -⟨rfl,rfl,rfl⟩;rw[ed];refine bf.mk ⟨fX,0,none⟩ i rfl rfl a1 ?_;refine b8.iJ [] (cE.ar 270++M0) ((aZ++List.replicate (t.n-i) b4).flatMap aW.cells) _ rfl (wR my a1 _) rfl _ (g2 _) ?_;refine bg.mk _ (cL (i:=i) (by omega)) ?_;exact⟨(i+1,_,cE),hinv _ _ eS,.refl,kh,.cons rfl (.cons rfl .nil)⟩
structure aW.le(a b:aW):Prop where
 z:a.z=true->b.z=true
 s:a.s=true->b.s=true
 f:a.f=true->b.f=true
def aW.le_refl(a:aW):a.le a:=⟨id,id,id⟩
def aW.le.trans{a b c:aW}(h:a.le b)(bc:b.le c):a.le c:=⟨λx=>bc.z (h.z x),λx=>bc.s (h.s x),λx=>bc.f (h.f x)⟩
def aW.le.antisymm{a b:aW}(h:a.le b)(bc:b.le a):a=b:=by
 obtain⟨cM,d',eh⟩:=a;obtain⟨b1,bT,cw⟩:=b;have e:∀ {x y:Bool},(x=true->y=true)->(y=true->x=true)->x=y:=fun {x y} h bc=>by cases x<;>cases y<;>simp_all
 have aJ:cM=b1:=e h.z bc.z;have a4:d'=bT:=e h.s bc.s;have cn:eh=cw:=e h.f bc.f;subst aJ a4 cn;rfl
def aW.q3(a:aW):b4.le a:=⟨(λh=>by cases h),(λh=>by cases h),(λh=>by cases h)⟩
def aW.Q9{a b:aW}(h:a.le b):a.kS=true->b.kS=true:=by intro au;simp only[aW.kS,k6]at au |-;exact au.imp h.z h.s
inductive eE:List aW->List aW->Prop
 |nil:eE [] []| cons {a b l m} (h:aW.le a b) (t:eE l m):eE (a::l) (b::m)
def eE.refl:∀ l,eE l l
 |[]=>.nil| a::l=>.cons a.le_refl (eE.refl l)
def eE.trans:∀ {a b c},eE a b->eE b c->eE a c
 |_,_,_,.nil,.nil=>.nil| _,_,_,.cons h t,.cons bc bo=>.cons (h.trans bc) (t.trans bo)
def eE.antisymm:∀ {a b},eE a b->eE b a->a=b
 |_,_,.nil,_=>rfl| _,_,.cons h t,.cons bc bo=>by rw[h.antisymm bc,t.antisymm bo]
def eE.len:∀ {a b},eE a b->a.length=b.length
 |_,_,.nil=>rfl| _,_,.cons h t=>by simp[t.len]
def eE.append:∀ {a b c d},eE a b->eE c d->eE (a++c) (b++d)
 |_,_,_,_,.nil,h=>h| _,_,_,_,.cons h t,bc=>.cons h (t.append bc)
def eE.getD:∀ {a b},eE a b->∀ i,(a.getD i b4).le (b.getD i b4)
 |_,_,.nil,i=>by simp;exact aW.le_refl _
 |_,_,.cons h t,0=>h| _,_,.cons h t,i+1=>by simpa using t.getD i
def eE.of:∀ {a b:List aW},a.length=b.length->(∀ i,i<a.length->(a.getD i b4).le (b.getD i b4))->eE a b
 |[],[],_,_=>.nil| x::a,y::b,ay,h=>.cons (by simpa using h 0 (by simp)) (eE.of (by simpa using ay) λi hi=>by simpa using h (i+1) (by simpa using hi))
def eE.map{α:Type}{f g:α->aW}:∀ {l:List α},(∀ x∈l,(f x).le (g x))->eE (l.map f) (l.map g)
 |[],_=>.nil| x::l,h=>.cons (h x (.head _)) (eE.map λy aH=>h y (.tail _ aH))
def eE.head{a b:List aW}(h:eE a b):(a.headD b4).le (b.headD b4):=by
 cases h with
 |nil=>exact aW.le_refl _| cons h _=>exact h
def eE.q3:∀ l:List aW,eE (List.replicate l.length b4) l
 |[]=>.nil| a::l=>.cons a.q3 (eE.q3 l)
def YS:∀ {a b:List aW},eE a b->∀ {x y:aW×Bool},x.1.le y.1->(x.2=true->y.2=true)->(a.foldl ll x).1.le (b.foldl ll y).1/\((a.foldl ll x).2=true->(b.foldl ll y).2=true)
 |_,_,.nil,_,_,aa,ab=>⟨aa,ab⟩
 |_,_,.cons h t,x,y,aa,ab=>by
  refine YS t ⟨?_,?_,?_⟩ ?_;·simp only[ll,cz];exact λg=>⟨aa.z g.1,h.z g.2⟩
  ·simp only[ll,k6];exact λg=>g.imp aa.s h.s
  ·simp only[ll,k6,cz];exact λg=>g.imp aa.f λg=>⟨ab g.1,h.f g.2⟩
  ·simp only[ll,cz];exact λg=>⟨ab g.1,aW.Q9 h g.2⟩
def YT:∀ {a b:List aW},eE a b->∀ {x y:aW},x.le y->(a.foldl pq x).le (b.foldl pq y)
 |_,_,.nil,_,_,aa=>aa
 |_,_,.cons h t,x,y,aa=>by
  refine YT t ⟨?_,?_,?_⟩;·simp only[pq,k6,cz];exact λg=>g.imp aa.z λg=>⟨aa.f g.1,h.z g.2⟩
  ·simp only[pq,k6,cz];exact λg=>g.imp aa.s λg=>⟨aa.f g.1,h.s g.2⟩
  ·simp only[pq,cz];exact λg=>⟨aa.f g.1,h.f g.2⟩
def akX(d:ap){a b:aW}(h:a.le b):(yu d a).le (yu d b):=by
 unfold yu;cases decide (d.hi=0)with
 |true=>exact aW.le_refl _
 |false=>
  refine⟨?_,h.s,?_⟩;·simp only[b5,k6,cz];exact λg=>g.imp h.z λg=>⟨g.1,h.f g.2⟩
  ·simp only[b5,cz];exact λg=>⟨g.1,h.f g.2⟩
def akY(d:ap){a b:List aW}(h:eE a b):(gW d a).le (gW d b):=by
 have cW:=h.head;unfold gW;cases decide (d.k=0)with
 |true=>exact aW.le_refl _| false=>
 cases decide (d.k=1)with
 |true=>exact aW.le_refl _| false=>
 cases decide (d.k=2)with
 |true=>exact aW.le_refl _| false=>
 cases decide (d.k=3)with
 |true=>exact cW| false=>
 cases decide (d.k=4)with
 |true=>have au:=YS h (x:=(⟨true,false,false⟩,true)) (y:=(⟨true,false,false⟩,true)) (aW.le_refl _) id;refine⟨au.1.z,?_,au.1.f⟩;simp only[cb,b5,hN,hM,cz];exact λg=>⟨au.1.s g.1,au.2 g.2⟩
 |false=>
 cases decide (d.k=5)with
 |true=>exact YT h (aW.le_refl _)| false=>
 cases decide (d.k=6)with
 |true=>exact akX d cW| false=>
 cases decide (d.k=7)with
 |true=>exact⟨aW.Q9 cW,id,cW.f⟩| false=>
 cases decide (d.k=8)with
 |true=>exact⟨cW.f,id,aW.Q9 cW⟩| false=>exact cW
def akZ{bj Af aZ EP:List aW}(h:eE bj Af)(a6:eE aZ EP)(d:ap):eE (s4 pl bj aZ d) (s4 pl Af EP d):=by
 unfold s4;refine(eE.map λk _=>a6.getD _).append ?_;cases decide (d.k=3)with
 |true=>exact .cons (h.getD _) .nil| false=>exact .nil
def YU{pl:List (ByteArray×Int)}{bj Af:List aW}(h:eE bj Af):∀ (ds:List ap) {aZ EP:List aW},eE aZ EP->eE (ev pl bj ds aZ) (ev pl Af ds EP)
 |[],_,_,a6=>a6| d::ds,_,_,a6=>YU h ds (a6.append (.cons (akY d (akZ h a6 d)) .nil))
def ix(pl:List (ByteArray×Int))(bj:List aW)(d:aP):aW:=(ev pl bj d.t.ns []).getD d.t.bA.toNat b4
def Ic{bj Af:List aW}(h:eE bj Af)(d:aP):(ix pl bj d).le (ix pl Af d):=(YU h d.t.ns .nil).getD _
def n6(pl:List (ByteArray×Int)):Nat->List aP->List aW->List aW
 |_,[],l=>l| i,d::ds,l=>n6 pl (i+1) ds (l.set i (ix pl l d))
structure pt(ds:List aP)(l:List aW):Prop where
 len:l.length=ds.length
 up:∀ i (h:i<ds.length),(l.getD i b4).le (ix (bD ds) l ds[i])
 least:∀ m:List aW,m.length=ds.length->(∀ i (h:i<ds.length),(ix (bD ds) m ds[i]).le (m.getD i b4))->eE l m
def Ie(l:List aW)(i j:Nat)(x:aW)(hi:i<l.length):(l.set i x).getD j b4=if i=j then x else l.getD j b4:=by
 simp only[bt,iu];by_cases e:i=j
 ·subst e;simp[hi]
 ·rw[bS e,bS e]
def pt.start(ds:List aP):pt ds (List.replicate ds.length b4):=by
 refine⟨by simp,λi h=>?_,λm hm _=>by rw[<-hm];exact eE.q3 m⟩;have:(List.replicate ds.length b4).getD i b4=b4:=by simp[bt,h]
 rw[this];exact aW.q3 _
def pt.step{ds:List aP}{l:List aW}(h:pt ds l){i:Nat}(hi:i<ds.length):pt ds (l.set i (ix (bD ds) l ds[i]))/\eE l (l.set i (ix (bD ds) l ds[i])):=by
 have dL:i<l.length:=by rw[h.len];exact hi
 have bq:eE l (l.set i (ix (bD ds) l ds[i])):=eE.of (by simp) λj ai=>by
  rw[Ie _ _ _ _ dL];by_cases e:i=j;·subst e;rw[bN rfl];exact h.up i hi
  ·rw[bS e];exact aW.le_refl _
 refine⟨⟨by simpa using h.len,λj ai=>?_,λm hm an=>?_⟩,bq⟩
 ·rw[Ie _ _ _ _ dL];by_cases e:i=j
  ·subst e;rw[bN rfl];exact Ic bq _
  ·rw[bS e];exact(h.up j ai).trans (Ic bq _)
 ·have YV:=h.least m hm an;refine eE.of (by simp[h.len,hm]) λj ai=>?_;rw[Ie _ _ _ _ dL];by_cases e:i=j
  ·subst e;rw[bN rfl];exact(Ic YV _).trans (an i hi)
  ·rw[bS e];exact YV.getD j
def Q'{ds:List aP}:∀ (bk a9:List aP) {l:List aW},ds=a9++bk->pt ds l->pt ds (n6 (bD ds) a9.length bk l)/\eE l (n6 (bD ds) a9.length bk l) /\ (n6 (bD ds) a9.length bk l=l->∀ i (h:i<ds.length),a9.length<=i->l.getD i b4=ix (bD ds) l ds[i])
 |[],a9,l,gw,h=>⟨h,eE.refl l,λ_ i hi cJ=>by rw[gw,ed]at hi;omega⟩
 |d::bk,a9,l,gw,h=>by
  have hi:a9.length<ds.length:=by rw[gw];simp
  have ak:ds[a9.length]=d:=by simp[gw]
  have dL:a9.length<l.length:=by rw[h.len];exact hi
  obtain⟨s1,s2⟩:=h.step hi;rw[ak]at s1 s2;obtain⟨hO,nx,q1⟩:=Q' bk (a9++[d]) (by rw[gw];simp) s1;rw[b3,c2,fs,cX]at hO nx q1;refine⟨hO,s2.trans nx,λe i iW cJ=>?_⟩;have aJ:l.set a9.length (ix (bD ds) l d)=l:=by refine eE.antisymm ?_ s2;have:n6 (bD ds) a9.length (d::bk) l=n6 (bD ds) (a9.length+1) bk (l.set a9.length (ix (bD ds) l d)):=rfl;rw[this]at e;rw[e]at nx;exact nx
  have a4:n6 (bD ds) (a9.length+1) bk l=l:=by have:n6 (bD ds) a9.length (d::bk) l=n6 (bD ds) (a9.length+1) bk (l.set a9.length (ix (bD ds) l d)):=rfl;rw[this,aJ]at e;exact e
  rw[aJ]at q1;by_cases aB:i=a9.length;·subst aB;have aG:=Ie l a9.length a9.length (ix (bD ds) l d) dL;rw[aJ,bN rfl]at aG;rw[aG,ak]
  ·exact q1 a4 i iW (by omega)
structure j1(ds:List aP)(l:List aW):Prop where
 len:l.length=ds.length
 fix:∀ i (h:i<ds.length),l.getD i b4=ix (bD ds) l ds[i]
 least:∀ m:List aW,m.length=ds.length->(∀ i (h:i<ds.length),(ix (bD ds) m ds[i]).le (m.getD i b4))->eE l m
def pt.done{ds:List aP}{l:List aW}(h:pt ds l)(aA:n6 (bD ds) 0 ds l=l):j1 ds l:=
 ⟨h.len,λi hi=>(Q' ds [] rfl h).2.2 aA i hi (dw _),h.least⟩
def j1.unique{ds:List aP}{l eB:List aW}(h:j1 ds l)(bc:j1 ds eB):l=eB:=
 eE.antisymm (h.least eB bc.len λi hi=>by rw[<-bc.fix i hi];exact aW.le_refl _) (bc.least l h.len λi hi=>by rw[<-h.fix i hi];exact aW.le_refl _)
def EQ(x:aW):Nat:=(bif x.z then 0 else 1)+((bif x.s then 0 else 1)+(bif x.f then 0 else 1))
def Ag(l:List aW):Nat:=(l.map EQ).sum
def ak0{a b:aW}(h:a.le b):EQ b<=EQ a/\(EQ a<=EQ b->a=b):=by
 obtain⟨cM,d',eh⟩:=a;obtain⟨b1,bT,cw⟩:=b;obtain⟨aa,ab,aj⟩:=h;cases cM<;>cases b1<;>cases d'<;>cases bT<;>cases eh<;>cases cw<;>simp_all[EQ]
def YW:∀ {l m:List aW},eE l m->Ag m<=Ag l/\(Ag l<=Ag m->l=m)
 |_,_,.nil=>⟨b2 _,λ_=>rfl⟩| _,_,.cons h t=>by obtain⟨aa,ab⟩:=ak0 h;obtain⟨t1,t2⟩:=YW t;simp only[Ag,bX,hI]at t1 t2 |-;refine⟨by omega,λh=>?_⟩;rw[ab (by omega),t2 (by omega)]
def ak1{l m:List aW}(h:eE l m)(bs:m≠l):Ag m<Ag l:=by obtain⟨aa,ab⟩:=YW h;apply Nat.lt_of_le_of_ne aa;intro e;exact bs (ab (by omega)).symm
def yv(nm:ByteArray):List aP->Nat->Option Int
 |[],_=>none| d::ds,i=>bif decide (nm=d.name)then some (i:Int)else yv nm ds (i+1)
def YX(s n:ByteArray)(v:Int):∀ l:List (ByteArray×Int),eD s (l++[(n,v)])=match eD s l with
  |some x=>some x| none=>bif decide (s=n)then some v else none
 |[]=>rfl
 |p::l=>by
  have aF:=YX s n v l;simp only[mF,eD];cases decide (s=p.1)with
  |true=>rfl| false=>simpa using aF
def YY:∀ (ds:List aP) (aZ:List (ByteArray×Int)) (i:Nat) (nm:ByteArray),eD nm (oA aZ i ds)=match eD nm aZ with
  |some x=>some x| none=>yv nm ds i
 |[],aZ,i,nm=>by rw[oA,yv];cases eD nm aZ<;>rfl
 |d::ds,aZ,i,nm=>by
  rw[oA,YY ds,yv];cases ak:(eD d.name aZ).isSome with
  |true=>
   simp only[cb];cases ay:eD nm aZ with
   |some x=>rfl
   |none=>
    have:decide (nm=d.name)=false:=by rw[qz];intro e;rw[<-e,ay]at ak;cases ak
    rw[this];rfl
  |false=>
   simp only[b5,YX];cases ay:eD nm aZ with
   |some x=>rfl| none=>cases decide (nm=d.name)<;>rfl
def Ra(ds:List aP)(nm:ByteArray):eD nm (bD ds)=yv nm ds 0:=YY ds [] 0 nm
def Rb:∀ {ds:List aP} {i:Nat} {nm:ByteArray} {v:Int},yv nm ds i=some v->∃ j:Nat,v=((i+j:Nat):Int)/\j<ds.length
 |d::ds,i,nm,v,h=>by
  unfold yv at h;cases ak:decide (nm=d.name)with
  |true=>rw[ak]at h;simp only[cb,j9]at h;exact⟨0,by rw[<-h];rfl,by simp⟩| false=>rw[ak]at h;obtain⟨j,aa,ab⟩:=Rb h;exact⟨j+1,by rw[aa];congr 1;omega,by simpa using ab⟩
def wT(pl:List (ByteArray×Int))(ns:List ap):Bool:=ns.all λd=>!decide (d.k=3)||(eD d.t pl).isSome
def YZ{ds:List aP}{ns:List ap}(h:wT (bD ds) ns=true):YM (bD ds) ds.length ns:=by intro d ak ae;have:=fi.1 h d ak;simp only[ae,Ly,tE,uX]at this;obtain⟨v,ah⟩:=Option.isSome_iff_exists.1 this;have kd:=ah;rw[Ra]at kd;obtain⟨j,aa,ab⟩:=Rb kd;rw[cX]at aa;exact⟨j,by rw[ah,aa],ab⟩
def Y0:∀ (ds:List aP) {aZ r:List (ByteArray×Int)} {i:Nat},mc aZ i ds=some r->oA aZ i ds=r
 |[],aZ,r,i,h=>by simp only[mc,j9]at h;exact h
 |d::ds,aZ,r,i,h=>by
  unfold mc at h;cases ak:(eD d.name aZ).isSome with
  |true=>rw[ak]at h;cases h| false=>rw[ak]at h;rw[oA,ak];exact Y0 ds h
def ak2{d:aP}{ca:ap}(aC:ca∈d.t.ns):∀ (ds:List aP) (i:Nat),d∈ds->∃ j,(j,ca)∈qV i ds:=by
 intro ds
 induction ds with
 |nil=>intro i ak;cases ak
 |cons x ds aF=>
  intro i ak;rcases eg.1 ak with e | ak;·subst e;exact⟨i,cF.2 (.inl (cA.2 ⟨ca,aC,rfl⟩))⟩
  ·obtain⟨j,ai⟩:=aF (i+1) ak;exact⟨j,cF.2 (.inr ai)⟩
def ak3(h:dj al g=0):∀ d∈g.ds,wT (bD g.ds) d.t.ns=true:=by
 unfold dj at h;cases aa:decide ((g.n:Int)=0)with
 |true=>rw[aa]at h;cases h| false=>
 cases ab:nr g.ds with
 |false=>rw[aa,ab]at h;cases h| true=>
 cases aj:mL al g with
 |true=>rw[aa,ab,aj]at h;cases h| false=>
 rw[aa,ab,aj]at h;simp only[b5,tE]at h;split at h
 ·cases h
 ·rename_i aZ my;have aB:bD g.ds=aZ:=Y0 g.ds my;cases aG:qW aZ g.ds with
  |false=>rw[aG]at h;cases h| true=>intro d ak;rw[aB,wT,fi];intro ca bH;obtain⟨j,ai⟩:=ak2 bH g.ds 0 ak;exact fi.1 aG _ ai
def ak4(h:dj al g=0):nr g.ds=true:=by
 unfold dj at h;cases aa:decide ((g.n:Int)=0)with
 |true=>rw[aa]at h;cases h| false=>
 cases ab:nr g.ds with
 |false=>rw[aa,ab]at h;cases h| true=>rfl
end Go.V
