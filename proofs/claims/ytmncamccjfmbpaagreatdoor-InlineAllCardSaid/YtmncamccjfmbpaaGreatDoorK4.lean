/- Part 4 of what the proofs of this seat share: the executor, data in memory, walks.
-/
import Derived.Test.YtmncamccjfmbpaaGreatDoorK3
import Derived.ChangeSame
import Derived.ChangeArms
import Derived.OpenShut
import Derived.Deep.DeepHandedRow
import Derived.Lib.LaidTab
import Derived.Test.YtmncamccjfmbpaaGreatDoorRows
import Derived.Test.YtmncamccjfmbpaaGreatDoorCards
import Derived.Test.YtmncamccjfmbpaaGreatDoorTie
import Derived.WalkKit
import Derived.ProofKit
import Derived.WideKeyArgs
import Derived.Below
import Derived.JoinedOf
set_option linter.all false
set_option maxHeartbeats 16000000
set_option maxRecDepth 100000
namespace Go.V
open Go Go.Proofs
def dO:=@of_decide_eq_false
def fw:=@Option.some.inj
def hy:=@List.mem_flatMap
def j9:=@List.getElem_of_mem
def gO:=@List.map_map
def mv:=@List.perm_middle
def tw:=@List.sublist_append_left
def oP:=@List.length_set
def rE:=@List.foldl_append
def zt:=@List.getElem_append_left
def BI:=@List.perm_append_comm_assoc
def v7:=@List.getElem_range
def pI:=@Nat.sub_self
def nE:=@Nat.ble_eq
def xK:=@Nat.le_of_succ_le
def GY:=@List.set_append_right
def BJ:=@List.range_succ
def GZ:=@List.replicate_succ
def G0:=@List.set_cons_zero
def DM:=@Bool.and_false
def O':=@List.eq_of_mem_replicate
def Pa:=@List.length_take_of_le
def Pb:=@List.getLast?_concat
def Pc:=@List.dropLast_concat
def G1:=@Prod.mk.injEq
def Pd:=@DataW.trod_string
def Pe:=@List.flatten_cons
def Pf:=@DataW.trod_array
def Kr:=@Nat.sub_zero
def Ks:=@decide_true
variable{I I':aI}{M:List aD}{e size c f sz e1 cQ:Nat}{aw:List Int}{g:cx}{os:aX}{xs aR cs vs:List Value}{v:Value}{α:Type}{t:TypeId}{L:List (List Int)}{z:Bool}{X:cV}{F:Fr}{C:dB}{cap:Array Value}{P:Program}{W kZ:World}{cN:Array Field}{rows:List (List Value)}{x y:Operand}{other:Prop}{c7 tj:dD}{pl:List (ByteArray×Int)}
def qz:Nat->List aQ->List (Nat×an)
 |_,[]=>[]| i,d::ds=>d.t.ns.map (λn=>(i,n))++qz (i+1) ds
def G2:∀ (ds:List aQ) (i:Nat),tv i ds=(qz i ds).map λp=>[.int .i64 p.1,p.2.val]
 |[],i=>rfl| d::ds,i=>by simp only[tv,qz,cP,gO,G2 ds (i+1)];rfl
def nF(ds:List aQ):Bool:=ds.all λd=>ny d.name&&normal d.t
def lS:List (ByteArray×Int)->Nat->List aQ->Option (List (ByteArray×Int))
 |a6,_,[]=>some a6| a6,i,d::ds=>bif (ev d.name a6).isSome then none else lS (a6++[(d.name,(i:Int))]) (i+1) ds
def zu(a6:List (ByteArray×Int))(n:an):Bool:=!decide (n.k=3)||(ev n.t a6).isSome
def rF(a6:List (ByteArray×Int))(ds:List aQ):Bool:=(qz 0 ds).all λp=>zu a6 p.2
def dm(aw:List Int)(g:cx):Int:=
 bif decide ((g.n:Int)=0)then 4 else bif !nF g.ds then 4 else bif oN aw g then 40 else
 match lS [] 0 g.ds with
 |none=>6| some a6=>bif rF a6 g.ds then 0 else 41
def uW(b:Nat)(e:Int):aD:=⟨b,.cells #[.int .i64 e] 27 (0,0)⟩
def BK{b:Nat}{e:Int}(h:uW b e∈M):cM I M ⟨b,0,none⟩ 1 [.int .i64 e]:=
 ⟨rfl,_,_,_,.inr ⟨_,h,rfl,rfl⟩,rfl,rfl⟩
def G3(w:World):(zeroValue 3).run Tryz.prog w=.ok (.int .i64 0) w:=by
 have h:(Tryz.prog.info? 3).map (λi=>i.zero)=some (some (.int .i64 0)):=by kernel_rfl
 obtain⟨i,aa,ab⟩:=r4.1 h;simp[zeroValue,typeInfo,aa,ab]
def G4(bs:fQ I aw)(au:g.ok I):Spec Tryz.prog 17 [g.val] I [] (λv I' M'=>v=.int .i64 (dm aw g)/\(∀ b o,I b=some o->I' b=some o)/\M'=[]):=by
 refine bZ [2,5] a5 Tryz.func17 rfl rfl rfl ?_;intro B az;have fM:=au.n;have ju:=au.a0.cap;refine bX.mk λb0 gU Kt=>?_;refine aZ.mk (λaa=>?_) (λaa=>?_)
 ·refine b2.mk [] [] _ _ rfl rfl (bJ rfl) rfl ?_;refine aO.mk _ (BK (b:=b0) (e:=4) (.head _)) ?_;refine⟨_,_,.sub (fp _) .refl,?_,λ_ _ h=>h,rfl⟩;rw[dm,aa];rfl
 ·have ot:g.n≠0:=by simp at aa;omega
  refine de.inv (ι:=Nat) (λi=>{ bj:=[(1,.ref 1 0),(2,.val (ptr b0)),(19,.val (.slice g.a g.n g.c)),(20,.val (.int .i64 g.n)),(21,.val (.int .i64 i))],cl:=[(1,[.slice g.a g.n g.c])],cI:=I,c1:=[uW b0 0] }) (λi=>i<=g.n/\nF (g.ds.take i)=true) (λi=>g.n-i) ?_ ?_;·exact⟨0,⟨by simp,rfl⟩,.refl,gf,.cons rfl .nil⟩
  ·rintro i⟨hi,gq⟩;refine aZ.mk (λh=>?_) (λh=>?_)
   ·have aV:i<g.n:=by simpa using h
    have ch:i<g.ds.length:=by omega
    obtain⟨aS,bH,bl⟩:=au.a0.row aQ.cS aV ch;have gr:g.ds[i]∈g.ds:=bx ch;have bad:(ny g.ds[i].name&&normal g.ds[i].t)=false->dm aw g=4:=λag=>by
     have:nF g.ds=false:=by unfold nF;rw[J6];exact⟨_,gr,by simp[ag]⟩
     rw[dm,aa,this];rfl
    refine bf.mk aS i bH rfl aV ?_;refine aO.mk _ (bl _) ?_;refine bc.mk [] [uW b0 0] _ (.refl _) (OC _ g.ds[i].name) ?_;rintro v I' M' -⟨rfl,rfl,rfl⟩;refine cq.mk (λab=>?_) (λab=>?_)
    ·have hm:ny g.ds[i].name=true:=by simpa using ab
     refine bc.mk [] [uW b0 0] _ (.refl _) (ahm bs.c (au.ds _ gr).t) ?_;rintro v I' M' -⟨rfl,rfl,rfl⟩;refine aZ.mk (λak=>?_) (λak=>?_)
     ·have dY:normal g.ds[i].t=false:=by simpa using ak
      refine b2.mk [] [] _ _ rfl rfl (bJ rfl) rfl ?_;refine aO.mk _ (BK (b:=b0) (e:=4) (.head _)) ?_;refine⟨_,_,.sub (fp _) .refl,?_,λ_ _ h=>h,rfl⟩;rw[bad (by rw[hm,dY];rfl)];rfl
     ·have dY:normal g.ds[i].t=true:=by simpa using ak
      refine bg.mk _ (cK (i:=i) (by omega)) ?_;refine⟨i+1,⟨⟨by omega,?_⟩,by omega⟩,.refl,gf,.cons rfl .nil⟩;unfold nF at gq |-;rw[fZ ch,Gw,gq];simp[hm,dY]
    ·have hm:ny g.ds[i].name=false:=by simpa using ab
     refine b2.mk [] [] _ _ rfl rfl (bJ rfl) rfl ?_;refine aO.mk _ (BK (b:=b0) (e:=4) (.head _)) ?_;refine⟨_,_,.sub (fp _) .refl,?_,λ_ _ h=>h,rfl⟩;rw[bad (by rw[hm];rfl)];rfl
   ·have cA:g.n<=i:=by simpa using h
    rw[ft (by omega)]at gq;refine bc.mk [] [uW b0 0] _ (.refl _) (ahp bs au) ?_;rintro v I1 M' -⟨rfl,cn,rfl⟩;refine aZ.mk (λab=>?_) (λab=>?_);·refine b2.mk [] [] _ _ rfl rfl (bJ rfl) rfl ?_;refine aO.mk _ (BK (b:=b0) (e:=40) (.head _)) ?_;refine⟨_,_,.sub (fp _) .refl,?_,cn,rfl⟩;rw[dm,aa,gq,ab];rfl
    ·have ahw:dm aw g=match lS [] 0 g.ds with
       |none=>6| some a6=>bif rF a6 g.ds then 0 else 41:=by
      rw[dm,aa,gq,ab];rfl
     rw[ahw];have pF:=au.mono cn;refine bw.makeMap a5 rfl (by simp) rfl rfl rfl λjL=>?_;refine bX.mk λeQ zv DN=>?_;refine b2.mk [] [⟨jL,jz []⟩,uW b0 0] _ _ rfl rfl (bJ rfl) rfl ?_;refine de.inv (ι:=Nat×List (ByteArray×Int)) (λx=>{ bj:=[(1,.ref 1 0),(2,.val (ptr b0)),(5,.val (ptr eQ)),(43,.val (.slice g.a g.n g.c)),(44,.val (.int .i64 g.n)),(45,.val (.int .i64 x.1))],cl:=[(1,[.slice g.a g.n g.c])],cI:=I1,c1:=[⟨eQ,.cells #[.map (some jL)] 102 (0,0)⟩,⟨jL,jz x.2⟩,uW b0 0] }) (λx=>x.1<=g.n/\lS [] 0 g.ds=lS x.2 x.1 (g.ds.drop x.1)) (λx=>g.n-x.1) ?_ ?_;·exact⟨(0,[]),⟨by simp,rfl⟩,.refl,ov,.cons rfl .nil⟩
     ·rintro⟨i,a6⟩⟨hi,nV⟩;simp only at hi nV;refine aZ.mk (λh=>?_) (λh=>?_)
      ·have aV:i<g.n:=by simpa using h
       have ch:i<g.ds.length:=by omega
       obtain⟨aS,bH,bl⟩:=pF.a0.row aQ.cS aV ch;have ja:g.ds.drop i=g.ds[i]::g.ds.drop (i+1):=eR ch;refine bf.mk aS i bH rfl aV ?_;refine aO.mk _ (bl _) ?_;refine aO.mk [.map (some jL)] ⟨rfl,_,_,_,.inr ⟨_,.head _,rfl,rfl⟩,rfl,rfl⟩ ?_;refine bw.lookup a5 rfl (by simp) rfl rfl rfl rfl (λw=>G3 w) (l:=a6) (g:=jL) rfl rfl (by simp) ?_;refine aZ.mk (λak=>?_) (λak=>?_);·refine b2.mk [⟨eQ,.cells #[.map (some jL)] 102 (0,0)⟩,⟨jL,jz a6⟩] [] _ _ rfl rfl (bJ rfl) rfl ?_;refine aO.mk _ (BK (b:=b0) (e:=6) (.tail _ (.tail _ (.head _)))) ?_;refine⟨_,_,.sub (fp _) .refl,?_,cn,rfl⟩;rw[nV,ja,lS,ak];rfl
       ·have ay:ev g.ds[i].name a6=none:=by simpa using ak
        refine aO.mk [.map (some jL)] ⟨rfl,_,_,_,.inr ⟨_,.head _,rfl,rfl⟩,rfl,rfl⟩ ?_;refine bw.Ws a5 rfl rfl rfl rfl rfl rfl rfl rfl rfl ay (Mr:=[⟨eQ,.cells #[.map (some jL)] 102 (0,0)⟩,uW b0 0]) (List.Perm.swap _ _ _) ?_;refine bg.mk _ (cK (i:=i) (by omega)) ?_;refine⟨(i+1,a6++[(g.ds[i].name,(i:Int))]),⟨⟨by simp only;omega,?_⟩,by simp only;omega⟩,.perm (List.Perm.swap _ _ _) .refl,ov,.cons rfl .nil⟩;simp only;rw[nV,ja,lS,ak];rfl
      ·have Wt:g.n<=i:=by simpa using h
       have fi:lS [] 0 g.ds=some a6:=by rw[nV,jH (by omega),lS]
       rw[fi];refine bc.mk [] [⟨eQ,.cells #[.map (some jL)] 102 (0,0)⟩,⟨jL,jz a6⟩,uW b0 0] _ (.refl _) (ahq g) ?_;rintro v dv df -⟨cG,rfl,DO,en,rfl⟩;have kV:=pF.mono en;have Ku:∀ b o,I b=some o->dv b=some o:=λb o h=>en _ _ (cn _ _ h);refine cY.range a5 rfl rfl rfl .refl (ahr kV DO) (λvs h=>?_) (λk I' M'=>(∀ b o,dv b=some o->I' b=some o)/\((qz 0 g.ds).take k).all (λp=>zu a6 p.2)=true/\M'=[⟨eQ,.cells #[.map (some jL)] 102 (0,0)⟩,⟨jL,jz a6⟩,uW b0 0]) (λex I' M'=>ex=.ret/\(∀ b o,dv b=some o->I' b=some o)/\rF a6 g.ds=false/\M'=[⟨eQ,.cells #[.map (some jL)] 102 (0,0)⟩,⟨jL,jz a6⟩,uW b0 41]) ⟨λ_ _ h=>h,rfl,rfl⟩ ?_ ?_ ?_;·rw[G2]at h;obtain⟨p,_,rfl⟩:=cC.1 h;rfl
       ·rintro k ae I' M' -⟨je,bu,rfl⟩l B az g5;have sC:k<(qz 0 g.ds).length:=by simpa[G2]using ae
        generalize aC:(qz 0 g.ds)[k]=p;have ah:(tv 0 g.ds)[k]=[.int .i64 p.1,p.2.val]:=by simp only[G2,g7,aC]
        rw[ah];have next:zu a6 p.2=true->((qz 0 g.ds).take (k+1)).all (λp=>zu a6 p.2)=true:=λh=>by rw[fZ sC,Gw,bu,aC];simp[h]
        refine aZ.mk (λak=>?_) (λak=>?_)
        ·refine⟨_,_,.refl,je,next ?_,rfl⟩;have oQ:decide (p.2.k=3)=false:=by simpa using ak
         simp[zu,oQ]
        ·have oQ:decide (p.2.k=3)=true:=by simpa using ak
         refine aO.mk [.map (some jL)] ⟨rfl,_,_,_,.inr ⟨_,.head _,rfl,rfl⟩,rfl,rfl⟩ ?_;refine bw.lookup a5 rfl (by simp) rfl rfl rfl rfl (λw=>G3 w) (l:=a6) (g:=jL) rfl rfl (by simp) ?_;refine aZ.mk (λaJ=>?_) (λaJ=>?_)
         ·refine b2.mk [⟨eQ,.cells #[.map (some jL)] 102 (0,0)⟩,⟨jL,jz a6⟩] [] _ _ rfl rfl (bJ rfl) rfl ?_;refine⟨_,_,.refl,rfl,je,?_,rfl⟩;unfold rF;rw[J6];have BL:(ev p.2.t a6).isSome=false:=by simpa using aJ
          exact⟨p,by rw[<-aC];exact bx sC,by simp[zu,oQ,BL]⟩
         ·have BL:(ev p.2.t a6).isSome=true:=by simpa using aJ
          exact⟨_,_,.refl,je,next (by simp[zu,BL]),rfl⟩
       ·rintro I' M' -⟨je,bu,rfl⟩;have Pg:rF a6 g.ds=true:=by unfold rF;rw[ft (by simp[G2])]at bu;exact bu
        refine b2.mk [⟨eQ,.cells #[.map (some jL)] 102 (0,0)⟩,⟨jL,jz a6⟩] [] _ _ rfl rfl (bJ rfl) rfl ?_;refine aO.mk _ (BK (b:=b0) (e:=0) (.tail _ (.tail _ (.head _)))) ?_;refine⟨_,_,.sub (fp _) .refl,?_,λb o h=>je _ _ (Ku _ _ h),rfl⟩;simp only[Pg];rfl
       ·rintro ex I' M' -⟨rfl,je,Pg,rfl⟩;refine⟨by simp,?_⟩;refine aO.mk _ (BK (b:=b0) (e:=41) (.tail _ (.tail _ (.head _)))) ?_;refine⟨_,_,.sub (fp _) .refl,?_,λb o h=>je _ _ (Ku _ _ h),rfl⟩;simp only[Pg];rfl
structure k0 where
 a:Option Addr
 n:Nat
 c:Nat
 l:List Int
def k0.val(r:k0):Value:=.slice r.a r.n r.c
structure k0.ok(I:aI)(r:k0):Prop where
 a0:c3 I r.a r.n r.c 1 8 (r.l.map (.int .i64 ·))
def k0.ok.n{r:k0}(h:r.ok I):r.l.length=r.n:=by have:=h.a0.len;simpa using this
def k0.ok.mono{r:k0}(h:r.ok I)(bt:∀ b o,I b=some o->I' b=some o):r.ok I':=⟨h.a0.mono bt⟩
structure jA where
 rows:List k0
 a:Option Addr
 n:Nat
 c:Nat
def jA.val(x:jA):Value:=.slice x.a x.n x.c
structure jA.ok(I:aI)(x:jA):Prop where
 a0:c3 I x.a x.n x.c 1 24 (x.rows.map k0.val)
 rows:∀ r∈x.rows,r.ok I
def jA.ok.n{x:jA}(h:x.ok I):x.rows.length=x.n:=by have:=h.a0.len;simpa using this
def jA.ok.mono{x:jA}(h:x.ok I)(bt:∀ b o,I b=some o->I' b=some o):x.ok I':=⟨h.a0.mono bt,λr af=>(h.rows r af).mono bt⟩
def jA.ec(x:jA):List (List Int):=x.rows.map (·.l)
def aX.G5{b:Nat}(h:os.ok size xs)(ag:os.n*b<=140737488355328)(bt:∀ g,os.a=some g->I g=none)(Mr:List aD) :
  ∃ I',h7 [] I (os.aq e++Mr) I' Mr/\(∀ b o,I b=some o->I' b=some o)/\c3 I' (os.a.map λg=>⟨g,0,none⟩) os.n os.c size b xs:=by
 obtain⟨a,n,c,aR⟩:=os;cases a with
 |none=>obtain⟨aa,ab⟩:=h.nil rfl;simp only at aa ab;subst aa;subst ab;exact⟨I,.refl,λ_ _ h=>h,h.len,⟨cc _,by simp⟩,.inl rfl⟩
 |some g=>obtain⟨aa,ab,ak,aJ⟩:=h.cap g rfl;have au:=bt g rfl;exact⟨ins I g (.cells aR.toArray e (0,0)),.kN rfl (by simp) .refl,hI au,h.len,⟨ab,ag⟩,.inr ⟨⟨g,0,none⟩,rfl,rfl,_,_,_,mr ..,by simpa using aJ⟩⟩
def aX.Wu{l:List Int}(h:os.ok 1 (l.map (.int .i64 ·)))(ag:os.n*8<=140737488355328)(bt:∀ g,os.a=some g->I g=none)(Mr:List aD) :
  ∃ (I':aI) (r:k0),h7 [] I (os.aq e++Mr) I' Mr/\(∀ b o,I b=some o->I' b=some o)/\os.val=r.val/\r.ok I'/\r.l=l:=by
 obtain⟨I',aa,ab,ak⟩:=aX.G5 (b:=8) h ag bt Mr;exact⟨I',⟨_,_,_,l⟩,aa,ab,rfl,⟨ak⟩,rfl⟩
def hZ:aX:=⟨none,0,0,[]⟩
def lv(size:Nat):hZ.ok size []:=⟨by simp[hZ],λ_=>⟨rfl,rfl⟩,λg h=>by cases h⟩
def Kv(bS:os.ok 1 xs){g:Nat}(aa:aR.length=c*1)(ab:os.n+1<=c)(ak:c<=maxLen)(aJ:aR.take ((os.n+1)*1)=xs++[v]) :
  aX.ok ⟨some g,os.n+1,c,aR⟩ 1 (xs++[v]):=by
 have ay:=bS.len;refine⟨?_,(λh=>by cases h),λbP rA=>⟨aa,ab,ak,aJ⟩⟩;rw[cm,ay];simp
def aX.ok.mX{l:List Int}(h:os.ok 1 (l.map (Value.int .i64))):os.n=l.length:=by have:=h.len;simp at this;omega
def G6(a c:α)(L:List α):(a::(L++[c])).Perm (L++[c,a]):=by have h:=(J4 a (L++[c])).symm;rwa [dT]at h
def lx(wh:Bool):Nat->List Bool->List Int
 |_,[]=>[]| i,b::s=>bif b == wh then(i:Int)::lx wh (i+1) s else lx wh (i+1) s
def Wv(wh b:Bool):∀ (s:List Bool) (i:Nat),lx wh i (s++[b])=lx wh i s++(bif b == wh then [((i+s.length:Nat):Int)]else [])
 |[],i=>by
  show(bif b == wh then((i:Nat):Int)::lx wh (i+1) []else lx wh (i+1) [])=_;cases b == wh<;>simp[lx]
 |c::s,i=>by
  have:=Wv wh b s (i+1);rw[mU,lx,lx,this];cases c == wh<;>simp[C4,Nat.add_left_comm]
def Ww(wh:Bool):∀ (s:List Bool) (i:Nat),(lx wh i s).length<=s.length
 |[],i=>by simp[lx]
 |c::s,i=>by
  have:=Ww wh s (i+1);unfold lx;cases c == wh<;>simp<;>omega
structure n1 where
 a:Option Addr
 n:Nat
 c:Nat
 l:List Bool
def n1.val(r:n1):Value:=.slice r.a r.n r.c
structure n1.ok(I:aI)(r:n1):Prop where
 a0:c3 I r.a r.n r.c 1 1 (r.l.map Value.bool)
def n1.ok.n{r:n1}(h:r.ok I):r.l.length=r.n:=by have:=h.a0.len;simpa using this
def n1.ok.mono{r:n1}(h:r.ok I)(bt:∀ b o,I b=some o->I' b=some o):r.ok I':=⟨h.a0.mono bt⟩
def rG(n:Nat)(s:List Bool)(k:Int):List Bool:=bif decide (0<=k)&&decide (k<n)then s.set k.toNat true else s
def oR(ds:List aQ)(n:Nat)(names:List ByteArray):List Bool:=names.foldl (λs nm=>rG n s (ct nm ds 0)) (List.replicate n false)
def G7(g:cx)(t:bR):List Int:=lx true 0 (oR g.ds g.n (hK t.ns))
def Wx(n:Nat)(s:List Bool)(k:Int):(rG n s k).length=s.length:=by
 unfold rG;cases decide (0<=k)&&decide (k<n)<;>simp
def Ph(ds:List aQ)(n:Nat)(names:List ByteArray):(oR ds n names).length=n:=by
 have:∀ (names:List ByteArray) (s:List Bool),(names.foldl (λs nm=>rG n s (ct nm ds 0)) s).length=s.length:=by
  intro names
  induction names with
  |nil=>intro s;rfl| cons nm names aN=>intro s;rw[jn,aN,Wx]
 rw[oR,this];simp
def ahx(au:g.ok I)(aB:g.n<=1099511627776){t:bR}(av:t.ok I):Spec Tryz.prog 145 [g.val,t.val] I [] λv I' M'=>(∀ b o,I b=some o->I' b=some o)/\∃ x:k0,v=x.val/\x.ok I'/\x.l=G7 g t/\M'=[]:=by
 refine bZ [2,5] a5 Tryz.func145 rfl rfl rfl ?_;intro B az;have fM:=au.n;refine bX.mk λb0 gU Kt=>?_;refine aO.mk [.slice g.a g.n g.c] (c4 (b:=b0) (cs:=[.slice g.a g.n g.c]) (k:=0) (n:=1) (T:=24) (.head _) (by simp)) ?_;refine mG.mk g.n g.n rfl rfl (cc _) (by show 1*g.n<=_;omega) (by omega) ?_;refine bX.mk λb ag sj=>?_;refine bX.mk λeQ zv DN=>?_;refine b2.mk [] [⟨b,.cells (rowOf [.bool false] (g.n*1)).toArray 4 (0,0)⟩,⟨b0,.cells #[.slice g.a g.n g.c] 24 (0,0)⟩] _ _ rfl rfl (bJ rfl) rfl ?_;refine bc.mk [] [⟨eQ,.cells #[.slice (some ⟨b,0,none⟩) g.n g.n] 138 (0,0)⟩,⟨b,.cells (rowOf [.bool false] (g.n*1)).toArray 4 (0,0)⟩,⟨b0,.cells #[.slice g.a g.n g.c] 24 (0,0)⟩] _ (.refl _) (ahs t) ?_;rintro v I1 M1 -⟨ahy,rfl,BH,cn,rfl⟩;have pF:=au.mono cn;have BE:=av.mono cn;refine cY.range a5 rfl rfl rfl .refl (aht BE BH) (λvs h=>?_) (λk I' M'=>(∀ b o,I1 b=some o->I' b=some o)/\M'=[⟨eQ,.cells #[.slice (some ⟨b,0,none⟩) g.n g.n] 138 (0,0)⟩,iw b (oR g.ds g.n ((hK t.ns).take k)),⟨b0,.cells #[.slice g.a g.n g.c] 24 (0,0)⟩]) (λ_ _ _=>False) ⟨λ_ _ h=>h,?_⟩ ?_ ?_ (λ_ _ _ _ h=>h.elim)
 ·obtain⟨c,_,rfl⟩:=cC.1 h;rfl
 ·show _::_::_=_;rw[th,e0];simp[iw,oR]
 ·rintro k ae I' M' -⟨je,rfl⟩l B az g5;have OU:k<(hK t.ns).length:=by simpa using ae
  generalize ad:(hK t.ns)[k]=x;have ah:((hK t.ns).map λs=>[Value.string s])[k]=[.string x]:=by simp[ad]
  rw[ah];have iz:oR g.ds g.n ((hK t.ns).take (k+1))=rG g.n (oR g.ds g.n ((hK t.ns).take k)) (ct x g.ds 0):=by rw[fZ OU,ad];simp[oR,rE]
  have c2:=Ph g.ds g.n ((hK t.ns).take k);generalize ar:oR g.ds g.n ((hK t.ns).take k)=s at *;rw[iz];refine aO.mk [.slice g.a g.n g.c] ⟨rfl,_,_,_,.inr ⟨_,.tail _ (.tail _ (.head _)),rfl,rfl⟩,rfl,rfl⟩ ?_;refine bc.mk [] [⟨eQ,.cells #[.slice (some ⟨b,0,none⟩) g.n g.n] 138 (0,0)⟩,iw b s,⟨b0,.cells #[.slice g.a g.n g.c] 24 (0,0)⟩] _ (.refl _) (GX (pF.mono je) x) ?_;rintro v I' M' -⟨rfl,rfl,rfl⟩;refine cq.mk (λaa=>?_) (λaa=>?_)
  ·refine aO.mk [.slice (some ⟨b,0,none⟩) g.n g.n] ⟨rfl,_,_,_,.inr ⟨_,.head _,rfl,rfl⟩,rfl,rfl⟩ ?_;refine aZ.mk (λab=>?_) (λab=>?_)
   ·have lP:0<=ct x g.ds 0:=by simpa using aa
    have e8:ct x g.ds 0<g.n:=by simpa using ab
    have BM:rG g.n s (ct x g.ds 0)=s.set (ct x g.ds 0).toNat true:=by rw[rG,aa,ab];rfl
    refine aO.mk [.slice (some ⟨b,0,none⟩) g.n g.n] ⟨rfl,_,_,_,.inr ⟨_,.head _,rfl,rfl⟩,rfl,rfl⟩ ?_;refine bf.mk ⟨b,0,none⟩ (ct x g.ds 0).toNat rfl (by omega) (by omega) ?_;refine b2.add [⟨eQ,.cells #[.slice (some ⟨b,0,none⟩) g.n g.n] 138 (0,0)⟩] [⟨b0,.cells #[.slice g.a g.n g.c] 24 (0,0)⟩] _ _ rfl ?_ rfl ?_;·simp only[ow,bF];show 0+(ct x g.ds 0).toNat*1+1<=_;omega
    refine⟨_,_,.refl,je,?_⟩;rw[BM];have e:=Dt s (ct x g.ds 0).toNat (by omega) true;simp only[iw];rw[<-e];simp only[db,e0];rfl
   ·refine⟨_,_,.refl,je,?_⟩;have:rG g.n s (ct x g.ds 0)=s:=by rw[rG,aa,ab];rfl
    rw[this];rfl
  ·refine⟨_,_,.refl,je,?_⟩;have:rG g.n s (ct x g.ds 0)=s:=by rw[rG,aa];rfl
   rw[this];rfl
 ·rintro dv df -⟨en,rfl⟩;have Ku:∀ b o,I b=some o->dv b=some o:=λb o h=>en _ _ (cn _ _ h);have ahz:(hK t.ns).take ((hK t.ns).map λs=>[Value.string s]).length=hK t.ns:=ft (by simp);rw[ahz];have e2:=Ph g.ds g.n (hK t.ns);have d':G7 g t=lx true 0 (oR g.ds g.n (hK t.ns)):=rfl;generalize ar:oR g.ds g.n (hK t.ns)=s at *;refine aO.mk [.slice (some ⟨b,0,none⟩) g.n g.n] ⟨rfl,_,_,_,.inr ⟨_,.head _,rfl,rfl⟩,rfl,rfl⟩ ?_;refine de.inv (ι:=Nat×aX) (λx=>{ bj:=[(8,.val x.2.val),(32,.val (.slice (some ⟨b,0,none⟩) g.n g.n)),(33,.val (.int .i64 g.n)),(34,.val (.int .i64 x.1))],cI:=dv,c1:=x.2.aq 3++[iw b s] }) (λx=>x.1<=g.n/\x.2.ok 1 ((lx true 0 (s.take x.1)).map (.int .i64 ·))/\∀ g,x.2.a=some g->dv g=none) (λx=>g.n-x.1) ?_ ?_
  ·exact⟨(0,hZ),⟨by simp,lv 1,λg h=>by cases h⟩,.sub (.cons _ (.cons_cons _ (fp _))) .refl,eE,.nil⟩
  ·rintro⟨i,os⟩⟨hi,bS,bt⟩;simp only at hi bS bt;have tx:=bS.mX;have hF:=Ww true (s.take i) 0;have uP:=Br i s;refine aZ.mk (λh=>?_) (λh=>?_)
   ·have aV:i<g.n:=by simpa using h
    have ch:i<s.length:=by omega
    have iN:=Wv true s[i] (s.take i) 0;rw[<-fZ ch,Pa (by omega),db]at iN;refine bf.mk ⟨b,0,none⟩ i rfl rfl aV ?_;refine aO.mk _ (Gv (by simp) ch) ?_;refine aZ.mk (λab=>?_) (λab=>?_);·rw[ab]at iN;refine bX.mk λb9 kX uR=>?_;refine bw.Gt a5 rfl (by simp) (e:=3) rfl rfl rfl os bS rfl (m:=1) rfl (b8:=[.int .i64 i]) (by decide) (c4 (b:=b9) (cs:=[.int .i64 i]) (k:=0) (n:=1) (T:=3) (.head _) (by simp)) rfl (Mr:=[iw b s,⟨b9,.cells #[.int .i64 i] 3 (0,0)⟩]) (G6 _ _ _) (by simp only[maxLen];omega) (by show(os.n+1)*8<=_;omega) ?_;intro dJ c' hx Kw dG eI eG iA;refine bg.mk _ (cK (i:=i) (by omega)) ?_;refine⟨(i+1,⟨some dJ,os.n+1,c',hx⟩),⟨⟨by simp only;omega,?_,λg au=>by cases au;exact Kw⟩,by simp only;omega⟩,.sub (.cons_cons _ (.cons_cons _ (fp _))) .refl,eE,.nil⟩;simp only;rw[iN,cP];exact Kv bS dG eI eG iA
    ·rw[ab]at iN;simp only[Bool.false_beq,uu,b',ef]at iN;refine bg.mk _ (cK (i:=i) (by omega)) ?_;refine⟨(i+1,os),⟨⟨by simp only;omega,?_,bt⟩,by simp only;omega⟩,.refl,eE,.nil⟩;simp only;rw[iN];exact bS
   ·have cA:g.n<=i:=by simpa using h
    rw[ft (by omega)]at bS hF tx;obtain⟨I',x,hV,ku,mh,iL,G8⟩:=aX.Wu (e:=3) bS (by omega) bt [];rw[ef]at hV;exact⟨_,_,.sub (tw _ _) hV,λb o h=>ku _ _ (Ku _ _ h),x,mh,iL,G8.trans d'.symm,rfl⟩
def h0(m:List Bool)(k:Nat):Prop:=m.getD k false=true
def jg(m:List Bool)(o:List Int):List Int->List Bool×List Int
 |[]=>(m,o)| k::ks=>bif m.getD k.toNat false then jg m o ks else jg (m.set k.toNat true) (o++[k]) ks
def xL(L:List (List Int)):Nat->List Bool->List Int->List Bool
 |0,m,_=>m
 |f+1,m,o=>match o.getLast? with
  |none=>m| some w=>bif decide (0<(jg m o.dropLast (L.getD w.toNat [])).2.length)then xL L f (jg m o.dropLast (L.getD w.toNat [])).1 (jg m o.dropLast (L.getD w.toNat [])).2 else(jg m o.dropLast (L.getD w.toNat [])).1
def n2(L:List (List Int))(i:Nat):List Bool:=xL L (2*L.length+2) ((List.replicate L.length false).set i true) [(i:Int)]
def oS:List Bool->Nat
 |[]=>0| b::s=>(bif b then 0 else 1)+oS s
def Kx:∀ (m:List Bool) (k:Nat),k<m.length->m.getD k false=false->oS (m.set k true)+1=oS m
 |b::m,0,_,h=>by
  have:b=false:=by simpa using h
  subst this;simp[oS];omega
 |b::m,k+1,ae,h=>by have:=Kx m k (by simpa using ae) (by simpa using h);simp only[List.set_cons_succ,oS];omega
def Wy(m:List Bool):oS m<=m.length:=by
 induction m with
 |nil=>simp[oS]
 |cons b m aN=>
  simp only[oS,dx];cases b<;>simp<;>omega
def DP{m:List Bool}{k a:Nat}(ae:k<m.length):h0 (m.set k true) a ↔ a=k\/h0 m a:=by
 unfold h0;simp only[bz,ia];by_cases e:k=a
 ·subst e;simp[ae]
 ·rw[bU e];constructor
  ·exact .inr
  ·rintro(h | h)
   ·exact(e h.symm).elim
   ·exact h
def valid(n:Nat)(l:List Int):Prop:=∀ k∈l,0<=k/\k<n
structure ahA(m:List Bool)(o ks:List Int)(r:List Bool×List Int):Prop where
 len:r.1.length=m.length
 mono:∀ a,h0 m a->h0 r.1 a
 all:∀ k∈ks,h0 r.1 k.toNat
 only:∀ a,h0 r.1 a->h0 m a\/((a:Int)∈ks/\(a:Int)∈r.2)
 nr:∀ k∈o,k∈r.2
 b8:∀ k∈r.2,k∈o\/(k∈ks/\h0 r.1 k.toNat)
 GQ:2*oS r.1+r.2.length<=2*oS m+o.length
def Pj{n:Nat}:∀ (ks:List Int) (m:List Bool) (o:List Int),m.length=n->valid n ks->ahA m o ks (jg m o ks)
 |[],m,o,_,_=>⟨rfl,λ_ h=>h,λk ae=>by simp at ae,λa h=>.inl h,λk h=>h,λk h=>.inl h,cc _⟩
 |k::ks,m,o,hm,ah=>by
  have ae:=ah k (by simp);have jZ:valid n ks:=λx ad=>ah x (by simp[ad]);have cy:k.toNat<m.length:=by omega
  unfold jg;cases ag:m.getD k.toNat false with
  |true=>
   have h:=Pj ks m o hm jZ;simp only[ca];refine⟨h.len,h.mono,λx ad=>?_,λa a2=>?_,h.nr,λx ad=>?_,h.GQ⟩
   ·rcases ee.1 ad with rfl | ad
    ·exact h.mono _ ag
    ·exact h.all x ad
   ·rcases h.only a a2 with aa | aa
    ·exact .inl aa
    ·exact .inr ⟨by simp[aa.1],aa.2⟩
   ·rcases h.b8 x ad with aa | aa
    ·exact .inl aa
    ·exact .inr ⟨by simp[aa.1],aa.2⟩
  |false=>
   have h:=Pj ks (m.set k.toNat true) (o++[k]) (by simpa using hm) jZ;have ar:=Kx m k.toNat cy ag;have BM:h0 (jg (m.set k.toNat true) (o++[k]) ks).1 k.toNat:=h.mono _ ((DP cy).2 (.inl rfl));have kA:k∈(jg (m.set k.toNat true) (o++[k]) ks).2:=h.nr k (by simp);simp only[b'];refine⟨by rw[h.len];simp,λa a2=>h.mono a ((DP cy).2 (.inr a2)),λx ad=>?_,λa a2=>?_,λx ad=>h.nr x (by simp[ad]),λx ad=>?_,?_⟩
   ·rcases ee.1 ad with rfl | ad
    ·exact BM
    ·exact h.all x ad
   ·rcases h.only a a2 with aa | aa
    ·rcases(DP cy).1 aa with rfl | aa
     ·have e:((k.toNat:Nat):Int)=k:=by omega
      rw[e];exact .inr ⟨by simp,kA⟩
     ·exact .inl aa
    ·exact .inr ⟨by simp[aa.1],aa.2⟩
   ·rcases h.b8 x ad with aa | aa
    ·simp only[cE,ek]at aa;rcases aa with aa | rfl
     ·exact .inl aa
     ·exact .inr ⟨by simp,BM⟩
    ·exact .inr ⟨by simp[aa.1],aa.2⟩
   ·have:=h.GQ;simp only[cm,dx,fL]at this;omega
inductive Comes(L:List (List Int))(i:Nat):Nat->Prop
 |self:Comes L i i| next {a k:Nat} (h:Comes L i a) (ae:(k:Int)∈L.getD a []):Comes L i k
structure v8(L:List (List Int))(i:Nat)(m:List Bool)(o:List Int):Prop where
 len:m.length=L.length
 val:valid L.length o
 Wz:∀ k∈o,h0 m k.toNat
 cl:∀ a,h0 m a->(a:Int)∈o\/∀ k∈L.getD a [],h0 m k.toNat
 Pk:∀ a,h0 m a->Comes L i a
 self:h0 m i
def ahB{m:List Bool}{a:Nat}(h:h0 m a):a<m.length:=by apply J8;intro bp;unfold h0 at h;simp[bz,bp]at h
def v8.step(b4:∀ l∈L,valid L.length l){i:Nat}{m:List Bool}{o:List Int}{w:Int}(h:v8 L i m (o++[w])) :
  v8 L i (jg m o (L.getD w.toNat [])).1 (jg m o (L.getD w.toNat [])).2/\2*oS (jg m o (L.getD w.toNat [])).1+(jg m o (L.getD w.toNat [])).2.length<2*oS m+(o++[w]).length:=by
 have hw:=h.val w (by simp);have xM:w.toNat<L.length:=by omega
 have Ky:L.getD w.toNat []=L[w.toNat]:=by simp[bz,xM]
 have ah:valid L.length (L.getD w.toNat []):=by rw[Ky];exact b4 _ (bx xM)
 have v:=Pj (L.getD w.toNat []) m o h.len ah;have OI:=h.Wz w (by simp);have ahC:=h.Pk _ OI;refine⟨⟨v.len.trans h.len,λk ae=>?_,λk ae=>?_,λa a2=>?_,λa a2=>?_,v.mono _ h.self⟩,?_⟩
 ·rcases v.b8 k ae with aa | aa
  ·exact h.val k (by simp[aa])
  ·exact ah k aa.1
 ·rcases v.b8 k ae with aa | aa
  ·exact v.mono _ (h.Wz k (by simp[aa]))
  ·exact aa.2
 ·rcases v.only a a2 with aa | aa
  ·rcases h.cl a aa with ab | ab
   ·simp only[cE,ek]at ab;rcases ab with ab | ab
    ·exact .inl (v.nr _ ab)
    ·have e:a=w.toNat:=by omega
     subst e;exact .inr v.all
   ·exact .inr λk ae=>v.mono _ (ab k ae)
  ·exact .inl aa.2
 ·rcases v.only a a2 with aa | aa
  ·exact h.Pk a aa
  ·exact .next ahC aa.1
 ·have:=v.GQ;simp only[cm,dx,fL];omega
structure Pl(L:List (List Int))(i:Nat)(m:List Bool):Prop where
 len:m.length=L.length
 iff:∀ a,h0 m a ↔ Comes L i a
def v8.done{i:Nat}{m:List Bool}(b4:∀ l∈L,valid L.length l)(h:v8 L i m []):Pl L i m:=by
 refine⟨h.len,λa=>⟨h.Pk a,λap=>?_⟩⟩
 induction ap with
 |self=>exact h.self
 |next ap ae aN=>
  rcases h.cl _ aN with aa | aa;·simp at aa
  ·simpa using aa _ ae
def v8.start{i:Nat}(hi:i<L.length):v8 L i ((List.replicate L.length false).set i true) [(i:Int)]:=by
 have aB:∀ a,¬ h0 (List.replicate L.length false) a:=λa=>by
  unfold h0;by_cases h:a<L.length<;>simp[bz,h]
 have ar:∀ a,h0 ((List.replicate L.length false).set i true) a ↔ a=i:=λa=>by rw[DP (by simpa using hi)];exact⟨λh=>h.resolve_right (aB a),.inl⟩
 refine⟨by simp,λk ae=>?_,λk ae=>?_,λa a2=>?_,λa a2=>?_,(ar i).2 rfl⟩
 ·simp only[ek]at ae;omega
 ·simp only[ek]at ae;subst ae;simpa using(ar i).2 rfl
 ·rw[(ar a).1 a2];exact .inl (by simp)
 ·rw[(ar a).1 a2];exact .self
def WA{L:List (List Int)}(b4:∀ l∈L,valid L.length l){i:Nat}:∀ (f:Nat) (m:List Bool) (o:List Int),v8 L i m o->o≠[]->2*oS m+o.length<=f->Pl L i (xL L f m o)
 |0,m,o,h,aH,aA=>by exact(aH (iK (by omega))).elim
 |f+1,m,o,h,aH,aA=>by
  obtain⟨o',w,rfl⟩:∃ o' w,o=o'++[w]:=by
   rcases vY o with aa | ⟨r,p,aa⟩;·exact(aH aa).elim
   ·exact⟨r,p,by simpa using aa⟩
  obtain⟨aa,ab⟩:=h.step b4;unfold xL;simp only[Pb,Pc];cases ag:decide (0<(jg m o' (L.getD w.toNat [])).2.length)with
  |true=>simp only[ca];refine WA b4 f _ _ aa (λe=>?_) (by omega);rw[e]at ag;simp at ag| false=>simp only[b'];have e:(jg m o' (L.getD w.toNat [])).2=[]:=iK (by simpa using ag);rw[e]at aa;exact aa.done b4
def G9(b4:∀ l∈L,valid L.length l){i:Nat}(hi:i<L.length):Pl L i (n2 L i):=by refine WA b4 _ _ _ (.start hi) (by simp) ?_;have:=Wy ((List.replicate L.length false).set i true);simp only[oP,sm,dx,fL]at this |-;omega
def WB{a9 post:List Value}{z:Value}{k:Nat}(ae:k=a9.length):ck (a9++z::post) k [v]=a9++v::post:=by
 subst ae;unfold ck;have e:(a9++z::post).drop (a9.length+[v].length)=post:=by rw[show a9++z::post=(a9++[z])++post from by simp];exact Bs (by simp)
 rw[e,qn rfl];simp
def h1(g:cx):List (List Int):=g.ds.map λd=>G7 g d.t
def WC(bs:fQ I aw)(au:g.ok I)(aB:g.n<=1099511627776):Spec Tryz.prog 91 [g.val] I [] λv I' M'=>(∀ b o,I b=some o->I' b=some o)/\M'=[] /\
  ((dm aw g≠0/\v=.tuple #[.slice none 0 0,.bool false])\/(dm aw g=0/\∃ x:jA,v=.tuple #[x.val,.bool true]/\x.ok I'/\x.ec=h1 g)):=by
 refine bZ [] a5 Tryz.func91 rfl rfl rfl ?_;intro B az;have fM:=au.n;refine bc.mk [] [] _ (.refl _) (G4 bs au) ?_;rintro v I1 M1 -⟨rfl,cn,rfl⟩;refine aZ.mk (λh=>?_) (λh=>?_)
 ·exact⟨_,_,.refl,cn,rfl,.inl ⟨by simpa using h,rfl⟩⟩
 ·have Pm:dm aw g=0:=by simpa using h
  refine mG.mk g.n g.n rfl rfl (cc _) (by show 24*g.n<=_;omega) (by omega) ?_;refine bX.mk λb ag sj=>?_;refine de.inv (ι:=Nat×List k0×aI) (λx=>{ bj:=[(1,.ref 1 0),(4,.val (.slice (some ⟨b,0,none⟩) g.n g.n)),(15,.val (.slice g.a g.n g.c)),(16,.val (.int .i64 g.n)),(17,.val (.int .i64 x.1))],cl:=[(1,[.slice g.a g.n g.c])],cI:=x.2.2,c1:=[⟨b,.cells (x.2.1.map k0.val++List.replicate (g.n-x.1) (Value.slice none 0 0)).toArray 55 (0,0)⟩] }) (λx=>x.1<=g.n/\x.2.1.length=x.1/\(∀ b o,I b=some o->x.2.2 b=some o)/\x.2.2 b=none/\(∀ r∈x.2.1,r.ok x.2.2)/\x.2.1.map (·.l)=(g.ds.take x.1).map (λd=>G7 g d.t)) (λx=>g.n-x.1) ?_ ?_;·refine⟨(0,[],I1),⟨by simp,rfl,cn,ag,by simp,rfl⟩,?_,gf,.cons rfl .nil⟩;show h7 _ _ [⟨b,.cells (rowOf [.slice none 0 0] (g.n*1)).toArray 55 (0,0)⟩] _ _;rw[th,e0];exact .refl
  ·rintro⟨i,a0,dv⟩⟨hi,fa,en,gU,gp,er⟩;simp only at hi fa en gU gp er;refine aZ.mk (λh=>?_) (λh=>?_)
   ·have aV:i<g.n:=by simpa using h
    have ch:i<g.ds.length:=by omega
    have kV:=au.mono en;obtain⟨aS,bH,bl⟩:=kV.a0.row aQ.cS aV ch;have gr:g.ds[i]∈g.ds:=bx ch;refine bf.mk aS i bH rfl aV ?_;refine aO.mk _ (bl _) ?_;refine bc.yI [] [⟨b,.cells (a0.map k0.val++List.replicate (g.n-i) (Value.slice none 0 0)).toArray 55 (0,0)⟩] _ (.refl _) (ahx kV aB (kV.ds _ gr).t) ?_;rintro v hW sh-zw⟨iC,x,rfl,ad,hl,rfl⟩;refine bf.mk ⟨b,0,none⟩ i rfl rfl aV ?_;refine b2.add [] [] _ _ rfl ?_ rfl ?_;·simp only[ow,cm,bF,sm];show 0+i*1+1<=_;omega
    refine bg.mk _ (cK (i:=i) (by omega)) ?_;refine⟨(i+1,a0++[x],hW),⟨⟨by simp only;omega,by simp[fa],λb o h=>iC _ _ (en _ _ h),zw _ (.head _),λr af=>?_,?_⟩,by simp only;omega⟩,?_,gf,.cons rfl .nil⟩
    ·simp only[cE,ek]at af;rcases af with af | rfl
     ·exact(gp r af).mono iC
     ·exact ad
    ·simp only;rw[cP,er,fZ ch,cP];simp[hl]
    ·have BN:List.replicate (g.n-i) (Value.slice none 0 0)=.slice none 0 0::List.replicate (g.n-(i+1)) (Value.slice none 0 0):=by rw[show g.n-i=(g.n-(i+1))+1 from by omega,GZ]
     have e:=WB (a9:=a0.map k0.val) (post:=List.replicate (g.n-(i+1)) (Value.slice none 0 0)) (z:=.slice none 0 0) (v:=x.val) (k:=0+i*1) (by simp[fa]);rw[BN];simp only[cP,cb,hr,dT,mU,iq];rw[<-e];exact .refl
   ·have cA:g.n<=i:=by simpa using h
    have fv:i=g.n:=by omega
    subst fv;refine⟨_,_,.kN rfl (by simp) .refl,λb o h=>hI gU _ _ (en _ _ h),rfl,.inr ⟨Pm,⟨a0,some ⟨b,0,none⟩,g.n,g.n⟩,rfl,⟨⟨by simp[fa],⟨cc _,by simp only;omega⟩,.inr ⟨_,rfl,rfl,_,_,_,mr ..,?_⟩⟩,λr af=>(gp r af).mono (hI gU)⟩,?_⟩⟩;·simp[fa];exact ft (by simp[fa])
    ·simp only[jA.ec,er,h1];rw[ft (by omega)]
def WD{c:Code}{K:j0}{t1 t2 t3:Nat}{a b d:dA}(h:∀ G oJ,V X c (fY (fY (fY G t3 d) t2 b) t1 a) oJ I M K)
  (aa:F t1=a) (ab:F t2=b) (ak:F t3=d):V X c F C I M K:=by
 have:=h F C;rwa [DI ak,DI ab,DI aa]at this
abbrev Kz:=Nat×List Bool×aX×List Int×Nat
def WE(I:aI)(x:jA)(y:Kz):vJ:={ bj:=[(0,.val x.val),(5,.val (.slice (some ⟨y.1,0,none⟩) x.n x.n)),(6,.val y.2.2.1.val)],cI:=I,c1:=y.2.2.1.aq 3++[iw y.1 y.2.1] }
structure KA(I:aI)(L:List (List Int))(i:Nat)(y:Kz):Prop where
 aq:I y.1=none
 os:y.2.2.1.ok 1 (y.2.2.2.1.map (.int .i64 ·))
 inv:v8 L i y.2.1 y.2.2.2.1
 ne:y.2.2.2.1≠[]
 GQ:2*oS y.2.1+y.2.2.2.1.length<=y.2.2.2.2
 gE:y.2.2.2.2<=2*L.length+2
 eq:n2 L i=xL L y.2.2.2.2 y.2.1 y.2.2.2.1
def ahD(L:List (List Int))(f:Nat)(m:List Bool)(o:List Int)(w:Int):xL L (f+1) m (o++[w]) =
  bif decide (0<(jg m o (L.getD w.toNat [])).2.length)then xL L f (jg m o (L.getD w.toNat [])).1 (jg m o (L.getD w.toNat [])).2 else(jg m o (L.getD w.toNat [])).1:=by
 rw[xL];simp only[Pb,Pc]
def WG{x:jA}(ad:x.ok I)(aB:x.n<=1099511627776)(b4:∀ l∈x.ec,valid x.ec.length l){i:Nat}(y:Kz)(aE:KA I x.ec i y){p:Nat->Kz->Prop}(aC:∀ z,KA I x.ec i z->z.2.2.2.2<y.2.2.2.2->p 0 z)(B:Nat)(az:World)(G:Fr)(oJ:dB) :
  V ⟨Tryz.prog,qk,[],Tryz.f94.ntmps,B,az,I,[],none⟩ (Kl (DJ (Tryz.f94.body.getD .skip)) 0) (fY (fY (fY G 6 (.val y.2.2.1.val)) 5 (.val (.slice (some ⟨y.1,0,none⟩) x.n x.n))) 0 (.val x.val)) oJ I (y.2.2.1.aq 3++[iw y.1 y.2.1])
   (JV (λl=>pt [] (WE I x) (p l)) (uo ⟨Tryz.prog,qk,[],Tryz.f94.ntmps,B,az,I,[],none⟩ Tryz.f94.results.toList
    (λv I' M'=>(∀ b o,I b=some o->I' b=some o)/\∃ r:n1,v=r.val/\r.ok I'/\r.l=n2 x.ec i/\M'=[]))):=by
 obtain⟨b,m,⟨xG,n,eV,aR⟩,o,f⟩:=y;obtain⟨ag,bS,hinv,bn,rC,ahE,oH⟩:=aE;simp only at ag bS hinv bn rC ahE oH aC |-;have mY:=ad.n;have hF:x.ec.length=x.n:=by simp[jA.ec,mY]
 have jb:m.length=x.n:=hinv.len.trans hF;obtain⟨o',w,rfl⟩:∃ o' w,o=o'++[w]:=by
  rcases vY o with aa | ⟨r,p,aa⟩;·exact(bn aa).elim
  ·exact⟨r,p,by simpa using aa⟩
 have tx:n=o'.length+1:=by have:=bS.mX;simpa using this
 cases xG with
 |none=>have:=(bS.nil rfl).1;simp only at this;omega| some cG=>
 obtain⟨d',mQ,kv,eb⟩:=bS.cap cG rfl;simp only at d' mQ kv eb;have hw:=hinv.val w (by simp);have xM:w.toNat<x.ec.length:=by omega
 have fP:w.toNat<x.rows.length:=by omega
 have WH:w.toNat<x.n:=by omega
 obtain⟨eu,aV⟩:=hinv.step b4;have Ky:x.ec.getD w.toNat []=x.rows[w.toNat].l:=by simp[jA.ec,bz,fP]
 rw[Ky]at eu aV;obtain⟨f,rfl⟩:∃ uH,f=uH+1:=⟨f-1,by simp at rC;omega⟩;have et:n2 x.ec i=bif decide (0<(jg m o' x.rows[w.toNat].l).2.length)then xL x.ec f (jg m o' x.rows[w.toNat].l).1 (jg m o' x.rows[w.toNat].l).2 else(jg m o' x.rows[w.toNat].l).1:=by rw[oH,ahD,Ky]
 have tq:valid x.ec.length x.rows[w.toNat].l:=b4 _ (by simp only[jA.ec];exact cC.2 ⟨_,bx fP,rfl⟩);have pJ:=ad.rows _ (bx fP);have gL:=pJ.n;have xN:=pJ.a0.cap;obtain⟨BO,BP,fz⟩:=ad.a0.one WH fP;have qt:IntKind.i64.wrap ((n:Int)-1)=((n-1:Nat):Int):=by simp only[cm,dx,fL]at rC;rw[wrap_i64 ⟨by omega,by omega⟩];omega
 obtain⟨bi,ms⟩:∃ bi,aR=o'.map (Value.int .i64)++(.int .i64 w::bi):=by refine⟨aR.drop n,?_⟩;have ab:=sp (n*1) aR;rw[eb,e0]at ab;rw[cP,dT]at ab;exact ab.symm
 have Pn:aR.drop (n-1)=.int .i64 w::bi:=by rw[ms];exact Bs (by simp;omega)
 refine bg.mk _ qt ?_;refine bf.mk ⟨cG,0,none⟩ (n-1) rfl rfl (by show n-1<n;omega) ?_;refine aO.mk [.int .i64 w] ?_ ?_
 ·have:=c4 (I:=I) (M:=[⟨cG,.cells aR.toArray 3 (0,0)⟩]++[iw b m]) (b:=cG) (cs:=aR) (T:=3) (.head _) (k:=(n-1)*1) (n:=1) (by omega);rw[e0,Pn]at this;rw[e0];exact this
 refine bg.mk _ qt ?_;refine l7.mk 0 (n-1) rfl rfl (dz _) (by show n-1<=eV;omega) ?_;refine bf.mk BO w.toNat BP (by omega) WH ?_;refine aO.mk _ (fz _) ?_;generalize eW:x.rows[w.toNat]=row at *;have zx:aX.ok ⟨some cG,n-1,eV,aR⟩ 1 (o'.map (.int .i64 ·)):=by refine⟨by simp;omega,(λh=>by cases h),λbP ak=>⟨d',by show n-1<=eV;omega,kv,?_⟩⟩;show aR.take ((n-1)*1)=_;have ab:=sp (n*1) aR;rw[eb,e0]at ab;rw[<-ab,cP,dT,e0];exact qn (by simp;omega)
 simp only[cm,dx,fL]at aV rC;refine de.inv (ι:=Nat×List Bool×aX×List Int) (λz=>{ bj:=[(0,.val x.val),(5,.val (.slice (some ⟨b,0,none⟩) x.n x.n)),(6,.val z.2.2.1.val),(32,.val row.val),(33,.val (.int .i64 row.n)),(34,.val (.int .i64 z.1))],cI:=I,c1:=z.2.2.1.aq 3++[iw b z.2.1] }) (λz=>z.1<=row.n/\z.2.1.length=x.n/\z.2.2.1.ok 1 (z.2.2.2.map (.int .i64 ·))/\2*oS z.2.1+z.2.2.2.length<=2*x.n+2/\jg m o' row.l=jg z.2.1 z.2.2.2 (row.l.drop z.1)) (λz=>row.n-z.1) ?_ ?_
 ·exact⟨(0,m,⟨some cG,n-1,eV,aR⟩,o'),⟨by simp,jb,zx,by simp only;omega,rfl⟩,.refl,ov,.nil⟩
 ·rintro⟨j,s,os,q⟩⟨ai,e2,qA,G',Bg⟩;simp only at ai e2 qA G' Bg;refine aZ.mk (λh=>?_) (λh=>?_)
  ·have eM:j<row.n:=by simpa using h
   have iy:j<row.l.length:=by omega
   obtain⟨gg,fs,e'⟩:=pJ.a0.one eM iy;have lr:row.l.drop j=row.l[j]::row.l.drop (j+1):=eR iy;have jd:=tq _ (bx iy);generalize ae:row.l[j]=k at *;have cy:k.toNat<s.length:=by omega
   have ahF:=qA.mX;refine bf.mk gg j fs rfl eM ?_;refine aO.mk _ (e' _) ?_;refine bf.mk ⟨b,0,none⟩ k.toNat rfl (by omega) (by omega) ?_;refine aO.mk _ (Gv (by simp) cy) ?_;have oC:s.getD k.toNat false=s[k.toNat]:=by simp[bz,cy]
   refine aZ.mk (λab=>?_) (λab=>?_)
   ·have aA:s.getD k.toNat false=false:=by rw[oC];simpa using ab
    have yN:=Kx s k.toNat cy aA;refine bf.mk ⟨b,0,none⟩ k.toNat rfl (by omega) (by omega) ?_;refine b2.add (os.aq 3) [] _ _ rfl ?_ rfl ?_;·simp only[ow,bF];show 0+k.toNat*1+1<=_;omega
    have e:=Dt s k.toNat cy true;refine bX.mk λb9 kX uR=>?_;refine bw.append a5 rfl (by simp) (e:=3) rfl rfl rfl os qA rfl (m:=1) rfl (b8:=[.int .i64 k]) (by decide) (c4 (b:=b9) (cs:=[.int .i64 k]) (k:=0) (n:=1) (T:=3) (.head _) (by simp)) rfl (Mr:=[⟨b,.cells (ck (s.map Value.bool) (0+k.toNat*1) [.bool true]).toArray 4 (0,0)⟩,⟨b9,.cells #[.int .i64 k] 3 (0,0)⟩]) (G6 _ _ _) (by simp only[maxLen];omega) (by show(os.n+1)*8<=_;omega) ?_;intro dJ c' hx dG eI eG iA;refine bg.mk _ (cK (i:=j) (by omega)) ?_;refine⟨(j+1,s.set k.toNat true,⟨some dJ,os.n+1,c',hx⟩,q++[k]),⟨⟨by simp only;omega,by simpa using e2,?_,?_,?_⟩,by simp only;omega⟩,?_,ov,.nil⟩;·simp only;rw[cP];exact Kv qA dG eI eG iA
    ·simp only[cm,dx,fL];omega
    ·simp only;rw[Bg,lr,jg,aA];rfl
    ·simp only[iw];rw[<-e];simp only[db,e0];exact .sub (.cons_cons _ (.cons_cons _ (fp _))) .refl
   ·have aA:s.getD k.toNat false=true:=by rw[oC];simpa using ab
    refine bg.mk _ (cK (i:=j) (by omega)) ?_;refine⟨(j+1,s,os,q),⟨⟨by simp only;omega,e2,qA,G',?_⟩,by simp only;omega⟩,.refl,ov,.nil⟩;simp only;rw[Bg,lr,jg,aA];rfl
  ·have cA:row.n<=j:=by simpa using h
   have ah:jg m o' row.l=(s,q):=by rw[Bg,jH (by omega)];rfl
   rw[ah]at et eu aV;simp only at et eu aV;have ahF:=qA.mX;refine aZ.mk (λab=>?_) (λab=>?_)
   ·have ff:0<q.length:=by simp at ab;omega
    refine⟨(b,s,os,q,f),aC _ ⟨ag,qA,eu,λe=>by simp only at e;rw[e]at ff;simp at ff,by simp only;omega,by simp only;omega,?_⟩ (by simp only;omega),.refl,hG,.nil⟩;simp only;rw[et,show decide (0<q.length)=true from fu ff];rfl
   ·have ff:¬ 0<q.length:=by simp at ab;omega
    have mZ:n2 x.ec i=s:=by rw[et,show decide (0<q.length)=false from eB ff];rfl
    refine⟨_,_,.sub (mb _ _) (.kN rfl (by simp) .refl),hI ag,⟨some ⟨b,0,none⟩,x.n,x.n,s⟩,rfl,⟨⟨by simp[e2],⟨cc _,by simp only;omega⟩,.inr ⟨_,rfl,rfl,_,_,_,mr ..,?_⟩⟩⟩,mZ.symm,rfl⟩;simp[e2];exact ft (by simp[e2])
def WI{x:jA}(ad:x.ok I)(aB:x.n<=1099511627776)(b4:∀ l∈x.ec,valid x.ec.length l){i:Nat}(hi:i<x.n):Spec Tryz.prog 94 [x.val,.int .i64 i] I [] λv I' M'=>(∀ b o,I b=some o->I' b=some o)/\∃ r:n1,v=r.val/\r.ok I'/\r.l=n2 x.ec i/\M'=[]:=by
 refine bZ [] a5 Tryz.func94 rfl rfl rfl ?_;intro B az;have mY:=ad.n;have hF:x.ec.length=x.n:=by simp[jA.ec,mY]
 refine cY.scope a5 rfl (WE I x) (λ_=>0) (KA I x.ec i) (λy=>y.2.2.2.2) (λ_=>Kl (DJ (Tryz.f94.body.getD .skip)) 0) (λ_ _=>⟨by kernel_rfl,by kernel_rfl⟩) ?_ ?_
 ·refine mG.mk x.n x.n rfl rfl (cc _) (by show 1*x.n<=_;omega) (by omega) ?_;refine bX.mk λb ag sj=>?_;refine bf.mk ⟨b,0,none⟩ i rfl rfl hi ?_;have af:rowOf [.bool false] (x.n*1)=(List.replicate x.n false).map Value.bool:=by rw[th,e0,xm]
  refine b2.add [] [] (((List.replicate x.n false).map Value.bool).toArray) 4 (by rw[<-af];rfl) ?_ rfl ?_;·simp only[ow,bF,sm];show 0+i*1+1<=_;omega
  refine bX.mk λb6 BF O6=>?_;have e:=Dt (List.replicate x.n false) i (by simpa using hi) true;have eu:=v8.start (L:=x.ec) (i:=i) (by omega);rw[hF]at eu;have key:=λG oJ=>WG ad aB b4 (i:=i) (b,(List.replicate x.n false).set i true,⟨some b6,1,1,[.int .i64 i]⟩,[(i:Int)],2*x.n+2) ⟨ag,⟨rfl,(λh=>by cases h),λbP _=>⟨rfl,cc _,by simp only[maxLen];omega,rfl⟩⟩,eu,by simp,?_,by simp only;omega,by simp only[n2];rw[hF]⟩ (p:=λl y=>KA I x.ec i y/\0=l) (λz bb _=>⟨bb,rfl⟩) B az G oJ;·refine WD (t1:=0) (t2:=5) (t3:=6) (λG oJ=>?_) rfl rfl rfl;have cJ:=key G oJ;simp only[iw]at cJ;rw[<-e]at cJ;simp only[db,e0];exact cJ
  ·simp only;have:=Wy ((List.replicate x.n false).set i true);simp only[oP,sm,dx,fL]at this |-;omega
 ·intro y aE;exact WD (t1:=0) (t2:=5) (t3:=6) (λG oJ=>WG ad aB b4 y aE (λz bb aV=>⟨⟨bb,rfl⟩,aV⟩) B az G oJ) rfl rfl rfl
def Po(wh:Bool):∀ (s:List Bool) (i:Nat) (k:Int),k∈lx wh i s ↔ ∃ j:Nat,k=((i+j:Nat):Int)/\s[j]?=some wh
 |[],i,k=>by simp[lx]
 |b::s,i,k=>by
  have aN:=Po wh s (i+1) k;unfold lx;have tail:(∃ j:Nat,k=((i+1+j:Nat):Int)/\s[j]?=some wh) ↔ ∃ j:Nat,k=((i+(j+1):Nat):Int)/\(b::s)[j+1]?=some wh:=by
   constructor;·rintro⟨j,aa,ab⟩;exact⟨j,by rw[aa];omega,by simpa using ab⟩
   ·rintro⟨j,aa,ab⟩;exact⟨j,by rw[aa];omega,by simpa using ab⟩
  have split:(∃ j:Nat,k=((i+j:Nat):Int)/\(b::s)[j]?=some wh) ↔ (k=(i:Int)/\b=wh)\/∃ j:Nat,k=((i+(j+1):Nat):Int)/\(b::s)[j+1]?=some wh:=by
   constructor
   ·rintro⟨j,aa,ab⟩;cases j with
    |zero=>exact .inl ⟨by simpa using aa,by simpa using ab⟩| succ j=>exact .inr ⟨j,aa,ab⟩
   ·rintro(⟨aa,ab⟩ | ⟨j,aa,ab⟩)
    ·exact⟨0,by simpa using aa,by simpa using ab⟩
    ·exact⟨j+1,aa,ab⟩
  rw[split];cases ag:b == wh with
  |true=>
   have:b=wh:=by simpa using ag
   simp only[ca,ee,aN,tail];simp[this]
  |false=>
   have:b≠wh:=by simpa using ag
   simp only[b',aN,tail];simp[this]
def ahG{wh:Bool}{s:List Bool}:valid s.length (lx wh 0 s):=λk ae=>by obtain⟨j,aa,ab⟩:=(Po wh s 0 k).1 ae;have:=(h5.1 ab).1;omega
def ahH(g:cx)(t:bR):valid g.n (G7 g t):=by have h:=ahG (wh:=true) (s:=oR g.ds g.n (hK t.ns));rw[Ph]at h;exact h
def KB(aB:g.ds.length=g.n):∀ l∈h1 g,valid (h1 g).length l:=by intro l ay;obtain⟨d,_,rfl⟩:=cC.1 ay;simp only[h1,bF,aB];exact ahH g d.t
def ahI{s:List Bool}{k:Nat}:(k:Int)∈lx true 0 s ↔ h0 s k:=by
 rw[Po];unfold h0;constructor
 ·rintro⟨j,aa,ab⟩;have:k=j:=by omega
  subst this;simp[bz,ab]
 ·intro h;refine⟨k,by omega,?_⟩;have ay:=ahB h;simp only[bz,da ay,jV]at h;rw[da ay,h]
def gF(L:List (List Int)):List (List Bool):=(List.range L.length).map λi=>n2 L i
def m0(R:List (List Bool))(i k:Nat):Bool:=(R.getD i []).getD k false
def j'(R:List (List Bool))(i:Nat):Nat->Nat->List Bool->List Int->List Bool×List Int
 |0,_,p,q=>(p,q)| f+1,k,p,q=>bif m0 R i k&&m0 R k i then j' R i f (k+1) (p.set k true) (q++[(k:Int)])else j' R i f (k+1) p q
def v9(R:List (List Bool))(n:Nat):Nat->Nat->List Bool->List (List Int)->List (List Int)
 |0,_,_,ps=>ps| f+1,i,p,ps=>bif p.getD i false then v9 R n f (i+1) p ps else v9 R n f (i+1) (j' R i (n-i) i p []).1 (ps++[(j' R i (n-i) i p []).2])
def mw(L:List (List Int)):List (List Int):=v9 (gF L) L.length L.length 0 (List.replicate L.length false) []
def Pp(R:List (List Bool))(i:Nat):∀ (f k:Nat) (p:List Bool) (q:List Int),(j' R i f k p q).1.length=p.length/\(j' R i f k p q).2.length<=q.length+f
 |0,k,p,q=>by simp[j']
 |f+1,k,p,q=>by
  unfold j';cases m0 R i k&&m0 R k i with
  |true=>obtain⟨aa,ab⟩:=Pp R i f (k+1) (p.set k true) (q++[(k:Int)]);simp only[ca];refine⟨by rw[aa];simp,?_⟩;simp only[cm,dx,fL]at ab;omega
  |false=>obtain⟨aa,ab⟩:=Pp R i f (k+1) p q;simp only[b'];exact⟨aa,by omega⟩
def kB(R:List (List Bool))(i k:Nat):Prop:=m0 R i k=true/\m0 R k i=true
def Pq{R:List (List Bool)}{i n:Nat}:∀ (f k:Nat) (p:List Bool) (q:List Int),k+f=n->p.length=n->(∀ a,k<=a->a<n->kB R i a->¬ h0 p a) -> (∀ a,h0 (j' R i f k p q).1 a ↔ h0 p a\/(k<=a/\a<n/\kB R i a)) /\ (∀ x,x∈(j' R i f k p q).2 ↔ x∈q\/∃ a:Nat,x=(a:Int)/\k<=a/\a<n/\kB R i a) /\ oS (j' R i f k p q).1+(j' R i f k p q).2.length=oS p+q.length
 |0,k,p,q,ae,aC,aj=>by
  refine⟨λa=>?_,λx=>?_,rfl⟩
  ·constructor
   ·exact .inl
   ·rintro(h | ⟨aa,ab,_⟩)
    ·exact h
    ·omega
  ·constructor
   ·exact .inl
   ·rintro(h | ⟨a,_,aa,ab,_⟩)
    ·exact h
    ·omega
 |f+1,k,p,q,ae,aC,aj=>by
  unfold j';cases hm:m0 R i k&&m0 R k i with
  |true=>
   have rC:kB R i k:=by simpa[kB]using hm
   have sC:k<p.length:=by omega
   have ahJ:=aj k (cc _) (by omega) rC;obtain⟨aa,ab,ak⟩:=Pq (n:=n) f (k+1) (p.set k true) (q++[(k:Int)]) (by omega) (by simpa using aC) (λa ahK oT Ha ap=>by
    rcases(DP sC).1 ap with rfl | ap;·omega
    ·exact aj a (by omega) oT Ha ap)
   simp only[ca];refine⟨λa=>?_,λx=>?_,?_⟩
   ·rw[aa,DP sC];constructor
    ·rintro((rfl | h) | ⟨a8,ba,bP⟩)
     ·exact .inr ⟨cc _,by omega,rC⟩
     ·exact .inl h
     ·exact .inr ⟨by omega,ba,bP⟩
    ·rintro(h | ⟨a8,ba,bP⟩)
     ·exact .inl (.inr h)
     ·by_cases e:a=k
      ·exact .inl (.inl e)
      ·exact .inr ⟨by omega,ba,bP⟩
   ·rw[ab];simp only[cE,ek];constructor
    ·rintro((h | h) | ⟨a,oU,a8,ba,bP⟩)
     ·exact .inl h
     ·exact .inr ⟨k,h,cc _,by omega,rC⟩
     ·exact .inr ⟨a,oU,by omega,ba,bP⟩
    ·rintro(h | ⟨a,oU,a8,ba,bP⟩)
     ·exact .inl (.inl h)
     ·by_cases e:a=k
      ·subst e;exact .inl (.inr oU)
      ·exact .inr ⟨a,oU,by omega,ba,bP⟩
   ·have ar:=Kx p k sC (by simpa[h0]using ahJ);simp only[cm,dx,fL]at ak;omega
  |false=>
   have rC:¬ kB R i k:=by intro h;rw[h.1,h.2]at hm;cases hm
   obtain⟨aa,ab,ak⟩:=Pq (n:=n) f (k+1) p q (by omega) aC (λa ahK oT Ha ap=>aj a (by omega) oT Ha ap);simp only[b'];refine⟨λa=>?_,λx=>?_,ak⟩
   ·rw[aa];constructor
    ·rintro(h | ⟨a8,ba,bP⟩)
     ·exact .inl h
     ·exact .inr ⟨by omega,ba,bP⟩
    ·rintro(h | ⟨a8,ba,bP⟩)
     ·exact .inl h
     ·by_cases e:a=k
      ·subst e;exact(rC bP).elim
      ·exact .inr ⟨by omega,ba,bP⟩
   ·rw[ab];constructor
    ·rintro(h | ⟨a,oU,a8,ba,bP⟩)
     ·exact .inl h
     ·exact .inr ⟨a,oU,by omega,ba,bP⟩
    ·rintro(h | ⟨a,oU,a8,ba,bP⟩)
     ·exact .inl h
     ·by_cases e:a=k
      ·subst e;exact(rC bP).elim
      ·exact .inr ⟨a,oU,by omega,ba,bP⟩
structure WJ(R:List (List Bool))(n:Nat):Prop where
 refl:∀ i,i<n->kB R i i
 trans:∀ i j k,kB R i j->kB R j k->kB R i k
def kB.symm{R:List (List Bool)}{i j:Nat}(h:kB R i j):kB R j i:=⟨h.2,h.1⟩
def Comes.trans{i j k:Nat}(aa:Comes L i j)(ab:Comes L j k):Comes L i k:=by
 induction ab with
 |self=>exact aa| next _ ae aN=>exact .next aN ae
def tz(b4:∀ l∈L,valid L.length l){i k:Nat}(hi:i<L.length):m0 (gF L) i k=true ↔ Comes L i k:=by
 have h:=(G9 b4 hi).iff k;have e:(gF L).getD i []=n2 L i:=by simp[gF,bz,hi]
 unfold m0;rw[e];exact h
def Pr{i k:Nat}(h:m0 (gF L) i k=true):i<L.length:=by
 apply J8;intro bp;have e:(gF L).getD i []=[]:=by simp[gF,bz,bp]
 unfold m0 at h;rw[e]at h;simp at h
def WK(b4:∀ l∈L,valid L.length l):WJ (gF L) L.length:=by refine⟨λi hi=>⟨(tz b4 hi).2 .self,(tz b4 hi).2 .self⟩,λi j k aa ab=>?_⟩;have cL:=Pr aa.1;have dW:=Pr aa.2;have ei:=Pr ab.2;exact⟨(tz b4 cL).2 (((tz b4 cL).1 aa.1).trans ((tz b4 dW).1 ab.1)),(tz b4 ei).2 (((tz b4 ei).1 ab.2).trans ((tz b4 dW).1 aa.2))⟩
def DQ(i:Int)(n:Nat):Bool:=!decide (i<0) && !decide ((n:Int)<=i)
def WL(b4:∀ l∈L,valid L.length l){i:Nat}(hi:i<L.length):(n2 L i).length=L.length:=(G9 b4 hi).len
def idxOf(q:Int->Bool):List Int->Nat->Int
 |[],_=>-1| k::ks,i=>bif q k then(i:Int)else idxOf q ks (i+1)
def WM(q:Int->Bool):∀ (l:List Int) (i:Nat),decide ((0:Int)<=idxOf q l i)=l.any q
 |[],i=>by simp[idxOf]
 |k::ks,i=>by
  have:=WM q ks (i+1);unfold idxOf;cases h:q k with
  |true=>simp[h]| false=>simpa[h]using this
def ahL{r:k0}(af:r.ok I)(q:Int->Bool)(aA:∀ k∈r.l,∀ I1,(∀ b o,I b=some o->I1 b=some o)->Spec Tryz.prog f (.int .i64 k::cap.toList) I1 M λv I' M'=>v=.bool (q k)/\(∀ b o,I1 b=some o->I' b=some o)/\M'=M) :
  Spec Tryz.prog 146 [r.val,.func (.func f) #[] cap] I M λv I' M'=>v=.int .i64 (idxOf q r.l 0)/\(∀ b o,I b=some o->I' b=some o)/\M'=M:=by
 refine bZ [] a5 Tryz.func146 rfl rfl rfl ?_;intro B az;have gL:=af.n;have xN:=af.a0.cap;refine de.inv (ι:=Nat×aI) (λx=>{ bj:=[(0,.val r.val),(1,.val (.func (.func f) #[] cap)),(7,.val (.int .i64 r.n)),(8,.val (.int .i64 x.1))],cI:=x.2,c1:=M }) (λx=>x.1<=r.n/\(∀ b o,I b=some o->x.2 b=some o)/\idxOf q r.l 0=idxOf q (r.l.drop x.1) x.1) (λx=>r.n-x.1) ?_ ?_
 ·exact⟨(0,I),⟨by simp,λ_ _ h=>h,rfl⟩,.refl,eE,.nil⟩
 ·rintro⟨i,I1⟩⟨hi,cn,ad⟩;simp only at hi cn ad;refine aZ.mk (λh=>?_) (λh=>?_)
  ·have aV:i<r.n:=by simpa using h
   have ch:i<r.l.length:=by omega
   obtain⟨aS,bH,bl⟩:=(af.mono cn).a0.one aV ch;have ja:r.l.drop i=r.l[i]::r.l.drop (i+1):=eR ch;refine bf.mk aS i bH rfl aV ?_;refine aO.mk _ (bl _) ?_;refine bc.mk M [] _ (by simp) (aA _ (bx ch) I1 cn) ?_;rintro v dv df en⟨rfl,-,rfl⟩;refine aZ.mk (λab=>?_) (λab=>?_);·refine⟨_,_,.refl,?_,λb o h=>en _ _ (cn _ _ h),by simp⟩;rw[ad,ja,idxOf,ab];rfl
   ·refine bg.mk _ (cK (i:=i) (by omega)) ?_;refine⟨(i+1,dv),⟨⟨by simp only;omega,λb o h=>en _ _ (cn _ _ h),?_⟩,by simp only;omega⟩,.perm (by simp) .refl,eE,.nil⟩;simp only;rw[ad,ja,idxOf,ab];rfl
  ·have cA:r.n<=i:=by simpa using h
   refine⟨_,_,.refl,?_,cn,rfl⟩;rw[ad,jH (by omega)];rfl
def ahM{r:k0}(af:r.ok I)(q:Int->Bool)(aA:∀ k∈r.l,∀ I1,(∀ b o,I b=some o->I1 b=some o)->Spec Tryz.prog f (.int .i64 k::cap.toList) I1 M λv I' M'=>v=.bool (q k)/\(∀ b o,I1 b=some o->I' b=some o)/\M'=M) :
  Spec Tryz.prog 92 [r.val,.func (.func f) #[] cap] I M λv I' M'=>v=.bool (r.l.any q)/\(∀ b o,I b=some o->I' b=some o)/\M'=M:=by
 refine bZ [] a5 Tryz.func92 rfl rfl rfl ?_;intro B az;refine bc.mk M [] _ (by simp) (ahL af q aA) ?_;rintro v dv df -⟨rfl,en,rfl⟩;refine⟨_,_,.refl,?_,en,by simp⟩;rw[<-WM q r.l 0]
def k1(aw:List Int)(g:cx)(i:Int):Bool:=
 bif DQ i g.n&&decide (dm aw g=0)then((h1 g).getD i.toNat []).any λk=>(n2 (h1 g) k.toNat).getD i.toNat false else false
def ahN{x:jA}(ad:x.ok I)(aB:x.n<=1099511627776)(b4:∀ l∈x.ec,valid x.ec.length l){i:Nat}(hi:i<x.n){k:Int}(ae:0<=k/\k<x.n){eQ cD:Nat} :
  Spec Tryz.prog 93 [.int .i64 k,ptr eQ,ptr cD] I [⟨eQ,.cells #[x.val] 134 (0,0)⟩,⟨cD,.cells #[.int .i64 i] 3 (0,0)⟩]
   λv I' M'=>v=.bool ((n2 x.ec k.toNat).getD i false)/\(∀ b o,I b=some o->I' b=some o)/\M'=[⟨eQ,.cells #[x.val] 134 (0,0)⟩,⟨cD,.cells #[.int .i64 i] 3 (0,0)⟩]:=by
 refine bZ [] a5 Tryz.func93 rfl rfl rfl ?_;intro B az;have mY:=ad.n;have hF:x.ec.length=x.n:=by simp[jA.ec,mY]
 obtain⟨k,rfl⟩:=eA ae.1;have cy:k<x.n:=by omega
 have mZ:=WL b4 (i:=k) (by omega);refine cY.draw a5 rfl rfl rfl ?_;refine aO.mk [x.val] ⟨rfl,_,_,_,.inr ⟨_,.head _,rfl,rfl⟩,rfl,rfl⟩ ?_;refine aO.mk [.int .i64 i] ⟨rfl,_,_,_,.inr ⟨_,.tail _ (.head _),rfl,rfl⟩,rfl,rfl⟩ ?_;refine eL.mk _ (WI ad aB b4 cy) ?_;rintro v dv df -⟨en,r,rfl,af,fa,rfl⟩;have gL:=af.n;have dI:i<r.n:=by rw[<-gL,fa,mZ];omega
 obtain⟨aS,bH,bl⟩:=af.a0.one dI (by omega);refine bf.mk aS i bH rfl dI ?_;refine aO.mk _ (bl _) ?_;refine⟨_,_,.refl,?_,en,rfl⟩;have e:(n2 x.ec k)[i]?=some (r.l[i]'(by omega)):=by rw[<-fa];exact da (by omega)
 simp only[gl,xy,bz,e,jV];rfl
def ahO(bs:fQ I aw)(au:g.ok I)(aB:g.n<=1099511627776)(i:Int):Spec Tryz.prog 46 [g.val,.int .i64 i] I [] λv I' M'=>v=.bool (k1 aw g i)/\(∀ b o,I b=some o->I' b=some o)/\M'=[]:=by
 refine bZ [3,5] a5 Tryz.func46 rfl rfl rfl ?_;intro B az;have fM:=au.n;refine bX.mk λcD sD ahP=>?_;have Ps:∀ {I1:aI} {M:List aD},(⟨cD,.cells #[.int .i64 i] 3 (0,0)⟩:aD)∈M->cM I1 M ⟨cD,0,none⟩ 1 [.int .i64 i]:=λh=>⟨rfl,_,_,_,.inr ⟨_,h,rfl,rfl⟩,rfl,rfl⟩;refine bc.mk [] [⟨cD,.cells #[.int .i64 i] 3 (0,0)⟩] _ (.refl _) (WC bs au aB) ?_;rintro v I1 M1 -⟨cn,rfl,⟨hm,rfl⟩|⟨hm,x,rfl,ad,hl⟩⟩
 ·refine bX.mk λeQ zv DN=>?_;refine b2.mk [] [⟨cD,.cells #[.int .i64 i] 3 (0,0)⟩] _ _ rfl rfl (bJ rfl) rfl ?_;refine cq.mk (λh=>by cases h) (λ_=>?_);refine⟨_,_,.sub (fp _) .refl,?_,cn,rfl⟩;have oQ:decide (dm aw g=0)=false:=by simpa using hm
  rw[k1,oQ,DM];rfl
 ·have oQ:decide (dm aw g=0)=true:=by simpa using hm
  have mY:x.n=g.n:=by have aa:=ad.n;have ab:=congrArg List.length hl;simp only[jA.ec,bF,h1]at ab;omega
  have ah:∀ l∈x.ec,valid x.ec.length l:=by rw[hl];exact KB fM
  refine bX.mk λeQ zv DN=>?_;refine b2.mk [] [⟨cD,.cells #[.int .i64 i] 3 (0,0)⟩] _ _ rfl rfl (bJ rfl) rfl ?_;have zy:∀ {I1:aI} {M:List aD},(⟨eQ,.cells #[x.val] 134 (0,0)⟩:aD)∈M->cM I1 M ⟨eQ,0,none⟩ 1 [x.val]:=λh=>⟨rfl,_,_,_,.inr ⟨_,h,rfl,rfl⟩,rfl,rfl⟩;refine cq.mk (λ_=>?_) (λh=>by cases h);refine aO.mk _ (Ps (.tail _ (.head _))) ?_;refine cq.mk (λaa=>?_) (λaa=>?_)
  ·refine aO.mk _ (Ps (.tail _ (.head _))) ?_;refine aO.mk [x.val] (zy (.head _)) ?_;refine aZ.mk (λab=>?_) (λab=>?_)
   ·refine⟨_,_,.sub (fp _) .refl,?_,cn,rfl⟩;have lO:decide ((g.n:Int)<=i)=true:=by rw[<-mY];exact ab
    rw[k1,DQ,aa,lO];rfl
   ·have lO:decide ((g.n:Int)<=i)=false:=by rw[<-mY];exact ab
    have ahQ:0<=i:=by simpa using aa
    have fh:i<g.n:=by simpa using lO
    obtain⟨j,rfl⟩:=eA ahQ;have ka:j<x.rows.length:=by have:=ad.n;omega
    obtain⟨BO,BP,fz⟩:=ad.a0.one (j:=j) (by omega) ka;have pJ:=ad.rows _ (bx ka);refine aO.mk [x.val] (zy (.head _)) ?_;refine aO.mk _ (Ps (.tail _ (.head _))) ?_;refine bf.mk BO j BP rfl (by omega) ?_;refine aO.mk _ (fz _) ?_;have ahR:x.ec.getD j []=x.rows[j].l:=by simp[jA.ec,bz,ka]
    have hF:x.ec.length=x.n:=by simp[jA.ec,ad.n]
    have ahS:valid x.ec.length x.rows[j].l:=ah _ (by simp only[jA.ec];exact cC.2 ⟨_,bx ka,rfl⟩);refine bc.mk [⟨eQ,.cells #[x.val] 134 (0,0)⟩,⟨cD,.cells #[.int .i64 (j:Nat)] 3 (0,0)⟩] [] _ (by simp;rfl) (ahM pJ (f:=93) (cap:=#[ptr eQ,ptr cD]) (λk=>(n2 x.ec k.toNat).getD j false) (λk ae dv en=>ahN (ad.mono en) (by omega) ah (i:=j) (by omega) (by have:=ahS k ae;omega))) ?_;rintro v dv df -⟨rfl,en,rfl⟩;refine⟨_,_,.sub (fp _) .refl,?_,λb o h=>en _ _ (cn _ _ h),rfl⟩;rw[k1,DQ,aa,lO,oQ,<-hl];simp only[gl,xy,ahR];rfl
  ·refine⟨_,_,.sub (fp _) .refl,?_,cn,rfl⟩;rw[k1,DQ,aa];rfl
structure zz where
 rows:List n1
 a:Option Addr
 n:Nat
 c:Nat
def zz.val(x:zz):Value:=.slice x.a x.n x.c
structure zz.ok(I:aI)(x:zz):Prop where
 a0:c3 I x.a x.n x.c 1 24 (x.rows.map n1.val)
 rows:∀ r∈x.rows,r.ok I
def zz.ok.mono{x:zz}(h:x.ok I)(bt:∀ b o,I b=some o->I' b=some o):x.ok I':=⟨h.a0.mono bt,λr af=>(h.rows r af).mono bt⟩
def ahT(a c:α)(KD hL:List α):(a::((KD++hL)++[c])).Perm (KD++(hL++[c,a])):=by have h:=G6 a c (KD++hL);rwa [dT KD hL [c,a]]at h
def ahU(a r:α)(Q O:List α):(a::(Q++(O++[r]))).Perm (O++(Q++[r,a])):=by
 have aa:(Q++(O++[r])).Perm (O++Q++[r]):=by rw[<-dT];exact eF.append_right [r]
 have ab:=(aa.cons a).trans (G6 a r (O++Q));rwa [dT]at ab
def ahV(g r b:α)(Q:List α):(g::(Q++[r,b])).Perm ([b]++(Q++[g,r])):=by have aa:(Q++[r,b]).Perm (b::(Q++[r])):=(G6 b r Q).symm;have ab:(g::(Q++[r])).Perm (Q++[g,r]):=mv.symm;exact((aa.cons g).trans (List.Perm.swap b g _)).trans (ab.cons b)
def Hb(aw:List Int)(g:cx):List (List Int):=bif decide (dm aw g=0)then mw (h1 g)else []
def ahW(bs:fQ I aw)(au:g.ok I)(aB:g.n<=1099511627776):Spec Tryz.prog 131 [g.val] I [] λv I' M'=>(∀ b o,I b=some o->I' b=some o)/\∃ (os:aX) (a0:List k0),v=os.val/\os.ok 1 (a0.map k0.val)/\(∀ r∈a0,r.ok I')/\a0.map (·.l)=Hb aw g/\M'=os.aq 55:=by
 refine bZ [] a5 Tryz.func131 rfl rfl rfl ?_;intro B az;have fM:=au.n;refine bc.mk [] [] _ (.refl _) (WC bs au aB) ?_;rintro v I1 M1 -⟨cn,rfl,⟨hm,rfl⟩|⟨hm,x,rfl,ad,hl⟩⟩
 ·refine aZ.mk (λ_=>?_) (λh=>by cases h);refine⟨_,_,.refl,cn,hZ,[],rfl,lv 1,by simp,?_,rfl⟩;have oQ:decide (dm aw g=0)=false:=by simpa using hm
  rw[Hb,oQ];rfl
 ·have oQ:decide (dm aw g=0)=true:=by simpa using hm
  have KE:Hb aw g=mw x.ec:=by rw[Hb,oQ,hl];rfl
  rw[KE];have xO:=ad.n;have mY:x.n=g.n:=by have ab:=congrArg List.length hl;simp only[jA.ec,bF,h1]at ab;omega
  have ah:∀ l∈x.ec,valid x.ec.length l:=by rw[hl];exact KB fM
  have hF:x.ec.length=x.n:=by simp[jA.ec,xO]
  refine aZ.mk (λh=>by cases h) (λ_=>?_);refine mG.mk x.n x.n rfl rfl (cc _) (by show 24*x.n<=_;omega) (by omega) ?_;refine bX.mk λb ag sj=>?_;refine de.inv (ι:=Nat×List n1×aI) (λy=>{ bj:=[(3,.val x.val),(5,.val (.slice (some ⟨b,0,none⟩) x.n x.n)),(23,.val (.int .i64 x.n)),(24,.val (.int .i64 y.1))],cI:=y.2.2,c1:=[⟨b,.cells (y.2.1.map n1.val++List.replicate (x.n-y.1) (Value.slice none 0 0)).toArray 138 (0,0)⟩] }) (λy=>y.1<=x.n/\y.2.1.length=y.1/\(∀ b o,I1 b=some o->y.2.2 b=some o)/\y.2.2 b=none/\(∀ r∈y.2.1,r.ok y.2.2)/\y.2.1.map (·.l)=(List.range y.1).map (λi=>n2 x.ec i)) (λy=>x.n-y.1) ?_ ?_;·refine⟨(0,[],I1),⟨by simp,rfl,λ_ _ h=>h,ag,by simp,rfl⟩,?_,eE,.nil⟩;show h7 _ _ [⟨b,.cells (rowOf [.slice none 0 0] (x.n*1)).toArray 138 (0,0)⟩] _ _;rw[th,e0];exact .refl
  ·rintro⟨i,a0,dv⟩⟨hi,fa,en,gU,gp,er⟩;simp only at hi fa en gU gp er;refine aZ.mk (λh=>?_) (λh=>?_)
   ·have aV:i<x.n:=by simpa using h
    refine bc.yI [] [⟨b,.cells (a0.map n1.val++List.replicate (x.n-i) (Value.slice none 0 0)).toArray 138 (0,0)⟩] _ (.refl _) (WI (ad.mono en) (by omega) ah (i:=i) aV) ?_;rintro v hW sh-zw⟨iC,r,rfl,af,ahX,rfl⟩;refine bf.mk ⟨b,0,none⟩ i rfl rfl aV ?_;refine b2.add [] [] _ _ rfl ?_ rfl ?_;·simp only[ow,cm,bF,sm];show 0+i*1+1<=_;omega
    refine bg.mk _ (cK (i:=i) (by omega)) ?_;refine⟨(i+1,a0++[r],hW),⟨⟨by simp only;omega,by simp[fa],λb o h=>iC _ _ (en _ _ h),zw _ (.head _),λr' eY=>?_,?_⟩,by simp only;omega⟩,?_,eE,.nil⟩
    ·simp only[cE,ek]at eY;rcases eY with eY | rfl
     ·exact(gp r' eY).mono iC
     ·exact af
    ·simp only;rw[cP,er,BJ,cP];simp[ahX]
    ·have BN:List.replicate (x.n-i) (Value.slice none 0 0)=.slice none 0 0::List.replicate (x.n-(i+1)) (.slice none 0 0):=by rw[show x.n-i=(x.n-(i+1))+1 from by omega,GZ]
     have e:=WB (a9:=a0.map n1.val) (post:=List.replicate (x.n-(i+1)) (.slice none 0 0)) (z:=.slice none 0 0) (v:=r.val) (k:=0+i*1) (by simp[fa]);rw[BN];simp only[cP,cb,hr,dT,mU,iq];rw[<-e];exact .refl
   ·have cA:x.n<=i:=by simpa using h
    have fv:i=x.n:=by omega
    subst fv;have ahY:a0.map (·.l)=gF x.ec:=by rw[er,gF,hF]
    have Pt:zz.ok (ins dv b (.cells (a0.map n1.val++List.replicate (x.n-x.n) (Value.slice none 0 0)).toArray 138 (0,0))) ⟨a0,some ⟨b,0,none⟩,x.n,x.n⟩:=by refine⟨⟨by simp[fa],⟨cc _,by simp only;omega⟩,.inr ⟨_,rfl,rfl,_,_,_,mr ..,?_⟩⟩,λr af=>(gp r af).mono (hI gU)⟩;simp[fa];exact ft (by simp[fa])
    generalize aW:(⟨a0,some ⟨b,0,none⟩,x.n,x.n⟩:zz)=R at Pt;have ahZ:R.val=.slice (some ⟨b,0,none⟩) x.n x.n:=by rw[<-aW];rfl
    have WN:R.rows=a0:=by rw[<-aW]
    have Vi:R.n=x.n:=by rw[<-aW]
    have WO:R.a=some ⟨b,0,none⟩:=by rw[<-aW]
    generalize lu:ins dv b (.cells (a0.map n1.val++List.replicate (x.n-x.n) (Value.slice none 0 0)).toArray 138 (0,0))=dp at Pt;have ah0:∀ b o,dv b=some o->dp b=some o:=by rw[<-lu];exact hI gU
    refine mG.mk x.n x.n rfl rfl (cc _) (by show 1*x.n<=_;omega) (by omega) ?_;refine bX.mk λfR DR ah1=>?_;refine de.inv (ι:=Nat×List Bool×aX×List k0×aI) (λy=>{ bj:=[(3,.val x.val),(5,.val R.val),(7,.val y.2.2.1.val),(8,.val (.slice (some ⟨fR,0,none⟩) x.n x.n)),(38,.val (.int .i64 x.n)),(39,.val (.int .i64 y.1))],cI:=y.2.2.2.2,c1:=y.2.2.1.aq 55++[iw fR y.2.1] }) (λy=>y.1<=x.n/\y.2.1.length=x.n/\y.2.2.1.ok 1 (y.2.2.2.1.map k0.val)/\(∀ b o,dp b=some o->y.2.2.2.2 b=some o)/\(∀ r∈y.2.2.2.1,r.ok y.2.2.2.2)/\y.2.2.2.1.length<=y.1/\mw x.ec=v9 (gF x.ec) x.n (x.n-y.1) y.1 y.2.1 (y.2.2.2.1.map (·.l))) (λy=>x.n-y.1) ?_ ?_
    ·refine⟨(0,List.replicate x.n false,hZ,[],dp),⟨by simp,by simp,lv 1,λ_ _ h=>h,by simp,by simp,by simp only[mw,hF];rfl⟩,?_,.cons .refl (.cons (by simp only[ahZ];exact .refl) (eE)),.nil⟩;have ah2:rowOf [.bool false] (x.n*1)=(List.replicate x.n false).map Value.bool:=by rw[th,e0,xm]
     show h7 _ _ [⟨fR,.cells (rowOf [.bool false] (x.n*1)).toArray 4 (0,0)⟩,_] _ _;rw[ah2];refine .perm (List.Perm.swap _ _ _) (.kN rfl (by simp) ?_);rw[lu];exact .refl
    ·rintro⟨i,p,os,ws,hW⟩⟨hi,jw,bS,iC,ss,xM,et⟩;simp only at hi jw bS iC ss xM et;refine aZ.mk (λh=>?_) (λh=>?_)
     ·have aV:i<x.n:=by simpa using h
      have DS:i<p.length:=by omega
      have v':=Pt.mono iC;have KF:os.n=ws.length:=by have:=bS.len;simp at this;omega
      have oC:p.getD i false=p[i]:=by simp[bz,DS]
      have Hc:mw x.ec=bif p.getD i false then v9 (gF x.ec) x.n (x.n-(i+1)) (i+1) p (ws.map (·.l))else v9 (gF x.ec) x.n (x.n-(i+1)) (i+1) (j' (gF x.ec) i (x.n-i) i p []).1 (ws.map (·.l)++[(j' (gF x.ec) i (x.n-i) i p []).2]):=by rw[et,show x.n-i=(x.n-(i+1))+1 from by omega,v9,show(x.n-(i+1))+1=x.n-i from by omega]
      refine bf.mk ⟨fR,0,none⟩ i rfl rfl aV ?_;refine aO.mk _ (Gv (by simp) DS) ?_;refine aZ.mk (λab=>?_) (λab=>?_);·rw[oC,ab]at Hc;refine bg.mk _ (cK (i:=i) (by omega)) ?_;exact⟨(i+1,p,os,ws,hW),⟨⟨by simp only;omega,jw,bS,iC,ss,by simp only;omega,Hc⟩,by simp only;omega⟩,.refl,ov,.nil⟩
      ·rw[oC,ab,b']at Hc;refine de.inv (ι:=Nat×List Bool×aX×List Int) (λz=>{ bj:=[(3,.val x.val),(5,.val R.val),(7,.val os.val),(8,.val (.slice (some ⟨fR,0,none⟩) x.n x.n)),(9,.val (.int .i64 i)),(10,.val z.2.2.1.val),(11,.val (.int .i64 z.1)),(38,.val (.int .i64 x.n)),(39,.val (.int .i64 i))],cI:=hW,c1:=z.2.2.1.aq 3++(os.aq 55++[iw fR z.2.1]) }) (λz=>z.1<=x.n/\i<=z.1/\z.2.1.length=x.n/\z.2.2.1.ok 1 (z.2.2.2.map (.int .i64 ·))/\(∀ g,z.2.2.1.a=some g->hW g=none)/\z.2.2.2.length<=z.1/\j' (gF x.ec) i (x.n-i) i p []=j' (gF x.ec) i (x.n-z.1) z.1 z.2.1 z.2.2.2) (λz=>x.n-z.1) ?_ ?_
       ·exact⟨(i,p,hZ,[]),⟨by simp only;omega,cc _,jw,lv 1,(λg h=>by cases h),dz _,rfl⟩,.refl,j3,.nil⟩
       ·rintro⟨k,s,uX,q⟩⟨ae,KG,e2,qA,KH,ff,Pu⟩;simp only at ae KG e2 qA KH ff Pu;have auh:=qA.mX;refine aZ.mk (λh=>?_) (λh=>?_)
        ·have cy:k<x.n:=by simpa using h
         have WQ:∀ {j:Nat} (ai:j<x.n),∃ (ka:j<R.rows.length),(R.rows[j]'ka).ok hW/\(R.rows[j]'ka).n=x.n/\(R.rows[j]'ka).l.length=x.n/\∀ a (a2:a<(R.rows[j]'ka).l.length),m0 (gF x.ec) j a=(R.rows[j]'ka).l[a]:=fun {j} ai=>by
          have ka:j<R.rows.length:=by rw[WN];omega
          have bu:=v'.rows _ (bx ka);have qB:(gF x.ec).getD j []=(R.rows[j]'ka).l:=by rw[<-ahY,<-WN];simp[bz,ka]
          have ay:(R.rows[j]'ka).l.length=x.n:=by
           rw[<-qB];have:(gF x.ec).getD j []=n2 x.ec j:=by simp[gF,bz,hF,ai]
           rw[this,WL ah (by omega),hF]
          refine⟨ka,bu,by rw[<-bu.n,ay],ay,λa a2=>?_⟩;unfold m0;rw[qB];simp[bz,a2]
         obtain⟨ah3,ah4,fv,dI,ah5⟩:=WQ aV;obtain⟨Hd,ah6,e8,DT,ah7⟩:=WQ cy;have pq:∀ {j:Nat} (ai:j<R.n) (im:j<R.rows.length),∃ aS,R.a=some aS/\∀ M,cM hW M (aS.add (j*1)) 1 [(R.rows[j]'im).val]:=λai im=>v'.a0.one ai im;obtain⟨ah8,oV,Pv⟩:=pq (j:=i) (by omega) ah3;obtain⟨gg,fs,e'⟩:=pq (j:=k) (by omega) Hd;obtain⟨ci,ah9,aia⟩:=ah4.a0.one (j:=k) (by omega) (by omega);obtain⟨aib,BQ,aic⟩:=ah6.a0.one (j:=i) (by omega) (by omega);have KI:j' (gF x.ec) i (x.n-i) i p []=bif m0 (gF x.ec) i k&&m0 (gF x.ec) k i then j' (gF x.ec) i (x.n-(k+1)) (k+1) (s.set k true) (q++[(k:Int)])else j' (gF x.ec) i (x.n-(k+1)) (k+1) s q:=by rw[Pu,show x.n-k=(x.n-(k+1))+1 from by omega,j']
         rw[ah5 k (by omega),ah7 i (by omega)]at KI;refine bf.mk ah8 i oV rfl (by omega) ?_;refine aO.mk _ (Pv _) ?_;refine bf.mk ci k ah9 rfl (by omega) ?_;refine aO.mk _ (aia _) ?_;refine cq.mk (λgz=>?_) (λgz=>?_)
         ·refine bf.mk gg k fs rfl (by omega) ?_;refine aO.mk _ (e' _) ?_;refine bf.mk aib i BQ rfl (by omega) ?_;refine aO.mk _ (aic _) ?_;refine aZ.mk (λgJ=>?_) (λgJ=>?_)
          ·have eW:k<s.length:=by omega
           have e:=Dt s k eW true;refine bf.mk ⟨fR,0,none⟩ k rfl rfl cy ?_;refine b2.add (uX.aq 3++os.aq 55) [] (s.map Value.bool).toArray 4 (by simp[iw]) ?_ rfl ?_;·simp only[ow,bF];show 0+k*1+1<=_;omega
           refine bX.mk λb9 kX uR=>?_;refine bw.Gt a5 rfl (by simp) (e:=3) rfl rfl rfl uX qA rfl (m:=1) rfl (b8:=[.int .i64 k]) (by decide) (c4 (b:=b9) (cs:=[.int .i64 k]) (k:=0) (n:=1) (T:=3) (.head _) (by simp)) rfl (Mr:=os.aq 55++[⟨fR,.cells (ck (s.map Value.bool) (0+k*1) [.bool true]).toArray 4 (0,0)⟩,⟨b9,.cells #[.int .i64 k] 3 (0,0)⟩]) (ahT _ _ _ _) (by simp only[maxLen];omega) (by show(uX.n+1)*8<=_;omega) ?_;intro dJ c' hx Kw dG eI eG iA;refine bg.mk _ (cK (i:=k) (by omega)) ?_;refine⟨(k+1,s.set k true,⟨some dJ,uX.n+1,c',hx⟩,q++[(k:Int)]),⟨⟨by simp only;omega,by simp only;omega,by simpa using e2,?_,λg au=>by cases au;exact Kw,by simp only[cm,dx,fL];omega,?_⟩,by simp only;omega⟩,?_,j3,.nil⟩;·simp only;rw[cP];exact Kv qA dG eI eG iA
           ·simp only;rw[KI,gz,gJ];rfl
           ·simp only[iw];rw[<-e];simp only[db,e0];exact .sub (.cons_cons _ (List.Sublist.append_left (.cons_cons _ (fp _)) _)) .refl
          ·refine bg.mk _ (cK (i:=k) (by omega)) ?_;refine⟨(k+1,s,uX,q),⟨⟨by simp only;omega,by simp only;omega,e2,qA,KH,by simp only;omega,?_⟩,by simp only;omega⟩,.refl,j3,.nil⟩;simp only;rw[KI,gz,gJ];rfl
         ·refine bg.mk _ (cK (i:=k) (by omega)) ?_;refine⟨(k+1,s,uX,q),⟨⟨by simp only;omega,by simp only;omega,e2,qA,KH,by simp only;omega,?_⟩,by simp only;omega⟩,.refl,j3,.nil⟩;simp only;rw[KI,gz];rfl
        ·have cA:x.n<=k:=by simpa using h
         have He:j' (gF x.ec) i (x.n-i) i p []=(s,q):=by rw[Pu,show x.n-k=0 from by omega];rfl
         rw[He]at Hc;refine bX.mk λb9 kX uR=>?_;refine bw.Gt a5 rfl (by simp) (e:=55) rfl rfl rfl os bS rfl (m:=1) rfl (b8:=[uX.val]) (by decide) (c4 (b:=b9) (cs:=[uX.val]) (k:=0) (n:=1) (T:=55) (.head _) (by simp)) rfl (Mr:=uX.aq 3++[iw fR s,(⟨b9,.cells #[uX.val] 55 (0,0)⟩:aD)]) (ahU _ _ _ _) (by simp only[maxLen];omega) (by show(os.n+1)*24<=_;omega) ?_;intro dJ c' hx Kw dG eI eG iA;refine bg.mk _ (cK (i:=i) (by omega)) ?_;obtain⟨rr,r,hV,ku,mh,iL,G8⟩:=aX.Wu (e:=3) qA (by omega) KH [⟨dJ,.cells hx.toArray 55 (0,0)⟩,iw fR s];refine⟨(i+1,s,⟨some dJ,os.n+1,c',hx⟩,ws++[r],rr),⟨⟨by simp only;omega,e2,?_,λb o h=>ku _ _ (iC _ _ h),λr' eY=>?_,by simp only[cm,dx,fL];omega,?_⟩,by simp only;omega⟩,.perm (ahV _ _ _ _) (.sub (mb [(⟨b9,.cells #[uX.val] 55 (0,0)⟩:aD)] _) hV),ov,.nil⟩;·simp only;rw[cP,cb,hr,<-mh];exact Kv bS dG eI eG iA
         ·simp only[cE,ek]at eY;rcases eY with eY | rfl
          ·exact(ss r' eY).mono ku
          ·exact iL
         ·simp only;rw[cP,cb,hr,G8];exact Hc
     ·have cA:x.n<=i:=by simpa using h
      refine⟨_,_,.sub (tw _ _) .refl,λb o h=>iC _ _ (ah0 _ _ (en _ _ (cn _ _ h))),os,ws,rfl,bS,ss,?_,rfl⟩;rw[et,show x.n-i=0 from by omega];rfl
def rH(W:World):aI:=λb=>W.heap[b]?
def aid(W:World):ey (rH W) [] W:=⟨λb o h=>h,(λx ad=>by cases ad),(λx ad=>by cases ad),yH⟩
structure BR(W kZ:World):Prop where
 dE:∀ b,b<W.heap.size->kZ.heap[b]?=W.heap[b]?
 sz:W.heap.size<=kZ.heap.size
 out:oh W kZ
def aie{args:List Value}{post:Value->aI->List aD->Prop}(h:vD P f args (rH W) [] post) :
  Calls P f args.toArray W λe kZ=>∃ v,e=.returned v/\(∃ I' M',post v I' M')/\BR W kZ:=by
 refine(h.2 W (aid W)).mono ?_;rintro e kZ⟨v,I',M',rfl,aC,_,dX⟩;exact⟨v,rfl,⟨I',M',aC⟩,λb ag=>dX.dE b ag (λy aE=>by cases aE),dX.sz,dX.out⟩
def BR.kept(h:BR W kZ)(may:MemPlace->Prop):W.keptBut kZ may:=by
 refine⟨h.out.1,h.out.2,λi hi=>?_⟩;rw[h.dE i hi];cases W.heap[i]? with
 |none=>rfl| some o=>cases o<;>simp
def BR.frozen(h:BR W kZ){a:Addr}(a2:a.block<W.heap.size):kZ.frozen? a=W.frozen? a:=by unfold World.frozen?;rw[h.dE _ a2]
variable{H:Type}{enc:TypeId×Value->H}{P:Program}
def aif{f:Func}{s:ChangeSpec}{apart fresh handsOn again:Bool}{args:Array Value}{ds gs:List (DataW H)}{before pa pv:List MemPlace}(hT:DataW.Whole enc P f.params.toList s.vars apart W args.toList ds gs before)(Hf:∀ (b:Nat) (fO:Nat->Bool) (aj:Bool),DataW.TrodAll enc P kZ b fO aj f.resultTypes.toList (v.resultList f.resultTypes.size) (s.fn H (ds++gs)).results [])(m1:∀ fO:Nat->Bool,(∀ p∈before,fO p.block=true)->DataW.TrodAll enc P kZ 0 fO true f.params.toList args.toList (s.fn H (ds++gs)).args pa)(WR:∀ fO:Nat->Bool,(∀ p∈before,fO p.block=true)->DataW.TrodVars enc P kZ fO s.vars (s.fn H (ds++gs)).vars pv)(DU:before=pa++pv)(ae:BR W kZ)(bu:∀ (j:Nat) (t:TypeId) (r:Value),f.resultTypes[j]?=some t->(v.resultList f.resultTypes.size)[j]?=some r->Value.okWide P kZ .any 0 t r) :
  s.post enc P f apart fresh handsOn again W args v kZ:=by
 have hold:∀ p∈before,(λb=>decide (b<W.heap.size)) p.block=true:=λp aC=>by simpa using hT.lt p aC
 have aV:∀ p∈before,p.block<W.heap.size:=λp aC=>hT.lt p aC;refine⟨ds,gs,before,[],pa,pv,hT,Hf _ _ _,m1 _ hold,WR _ hold,World.keptBut_mono (λp aC=>⟨aC,?_⟩) (ae.kept (·∈before)),λ_=>?_⟩
 ·rw[DU,cE]at aC;exact Or.inr aC
 ·obtain⟨_,_,_,_,_,bb,aB⟩:=hT;refine⟨bu,_,_,([]++pa)++pv,⟨[]++pa,pv,ChangeShapes.trodAll_append (m1 _ (λ_ _=>rfl)) (Hf _ _ _),WR _ (λ_ _=>rfl),rfl,?_,?_⟩,?_⟩
  ·intro b off aC;have DV:MemPlace.cell b off∈before:=by rw[DU];simpa using aC
   rw[ae.frozen (a:=⟨b,off,none⟩) (aV _ DV)];exact bb b off DV
  ·intro a2;have:=aB a2;rw[DU]at this;simpa using this
  ·intro p aC _;rw[DU];simpa using aC
def xP:DataW H->Option Value
 | .lit (.int k z)=>some (.int k z)| .lit (.string l)=>some (.string ⟨l.toArray⟩)| .lit (.bool b)=>some (.bool b)| _=>none
def Hg(P:Program)(e:TypeId):Bool:=match P.underlying e with
 |some .bool | some (.int _) | some .string=>true| _=>false
section
variable{w:World}{cQ:Nat}{fO:Nat->Bool}{held:Bool}{e1:Nat}{t e:TypeId}{cs:List Value}{d:DataW H}{p:List MemPlace}
def WS(he:Hg P e=true)(h:DataW.trod enc P w cQ fO held e1 e cs=some (d,p))(ah:xP d=some v):cs=[v]:=by
 unfold Hg at he;split at he
 ·rename_i hu;obtain⟨b,rfl,ad⟩:=DataW.trod_bool hu h;cases ad;simpa[xP]using ah
 ·rename_i k hu;obtain⟨n,rfl,ad,_⟩:=DataW.trod_int hu h;cases ad;simpa[xP]using ah
 ·rename_i hu;obtain⟨s,rfl,ad,_⟩:=Pd hu h;cases ad;simpa[xP]using ah
 ·cases he
def KJ{α β:Type}{f:α->Option β}:∀ {l:List α} {r:List β},l.mapM f=some r->r.length=l.length/\∀ i (h:i<l.length) (bd:i<r.length),f l[i]=some r[i]
 |[],r,h=>by simp at h;subst h;exact⟨rfl,λi h=>by simp at h⟩
 |x::l,r,h=>by
  simp only[FJ,Option.bind_eq_bind,JI,Option.pure_def,kk]at h;obtain⟨b,ag,r',eY,rfl⟩:=h;obtain⟨aa,ab⟩:=KJ eY;refine⟨by simp[aa],λi hi cX=>?_⟩;cases i with
  |zero=>simpa using ag| succ i=>simpa using ab i (by simpa using hi) (by simpa using cX)
def WT(ay:cs.length=vs.length)(h:∀ i (hi:i<vs.length),(cs.drop i).take 1=[vs[i]]):cs=vs:=by apply nU ay;intro i aa ab;have:=h i ab;rw[eR aa,qb,re]at this;simpa using this
def WU{n:Nat}(av:P.underlying t=some (.array n e))(he:Hg P e=true)(Hh:P.cellsOf e=1)(eb:P.cellsOf t=n){ds:List (DataW H)}(h:DataW.trod enc P w cQ fO held e1 t cs=some (.agg ds,p))(ah:ds.mapM xP=some vs):cs=vs:=by
 obtain⟨xs,m,rfl,ad,ay,hl,hi⟩:=Pf av h;have gi:ds=xs.map (·.1):=by have:=congrArg Prod.fst ad;simpa using this
 obtain⟨a8,ba⟩:=KJ ah;have sE:vs.length=n:=by rw[a8,gi];simpa using hl
 refine WT (by rw[ay,eb,sE]) λi cX=>?_;have aa:=hi i (by omega);rw[Hh,e0]at aa;have uY:i<xs.length:=by omega
 rw[da uY]at aa;have ab:=ba i (by rw[gi];simpa using uY) cX;have ak:ds[i]'(by rw[gi];simpa using uY)=xs[i].1:=by simp[gi]
 rw[ak]at ab;exact WS he (d:=xs[i].1) (p:=xs[i].2) aa ab
def aih(av:P.underlying t=some (.struct cN))(aA:∀ (i:Nat) (f:Field),cN[i]?=some f->Hg P f.type=true/\f.offset=i/\P.cellsOf f.type=1)(eb:P.cellsOf t=cN.size){ds:List (DataW H)}(h:DataW.trod enc P w cQ fO held e1 t cs=some (.agg ds,p))(ah:ds.mapM xP=some vs):cs=vs:=by
 obtain⟨xs,m,rfl,ad,ay,hl,hi⟩:=DataW.trod_struct av h;have gi:ds=xs.map (·.1):=by have:=congrArg Prod.fst ad;simpa using this
 obtain⟨a8,ba⟩:=KJ ah;have sE:vs.length=cN.size:=by rw[a8,gi];simpa using hl
 refine WT (by rw[ay,eb,sE]) λi cX=>?_;have WV:i<cN.size:=by omega
 obtain⟨ez,cJ,hc⟩:=aA i cN[i] (NI WV);have aa:=hi i cN[i] (NI WV);rw[cJ,hc]at aa;have uY:i<xs.length:=by omega
 rw[da uY]at aa;have ab:=ba i (by rw[gi];simpa using uY) cX;have ak:ds[i]'(by rw[gi];simpa using uY)=xs[i].1:=by simp[gi]
 rw[ak]at ab;exact WS ez (d:=xs[i].1) (p:=xs[i].2) aa ab
def WW{sz:Nat}:∀ (rows:List (List Value)) (cs:List Value),cs.length=rows.length*sz->(∀ i (hi:i<rows.length),(cs.drop (i*sz)).take sz=rows[i])->cs=rows.flatten
 |[],cs,ay,_=>iK (by simpa using ay)
 |r::rows,cs,ay,h=>by
  have az:=h 0 (by simp);simp only[yZ,vM,uq]at az;rw[dx,lL,oy]at ay;have aN:=WW (sz:=sz) rows (cs.drop sz) (by rw[tb];omega) λi hi=>by have:=h (i+1) (by simpa using hi);rw[Di,show sz+i*sz=(i+1)*sz from by rw[lL];omega];simpa using this
  rw[Pe,<-aN,<-az,sp]
def aii{n:Nat}(av:P.underlying t=some (.array n e))(Hh:P.cellsOf e=sz)(eb:P.cellsOf t=n*sz){ds:List (DataW H)}(h:DataW.trod enc P w cQ fO held e1 t cs=some (.agg ds,p))(af:rows.length=ds.length)
  (fv:∀ i (hi:i<ds.length) (cX:i<rows.length) e1 cs p,DataW.trod enc P w cQ fO held e1 e cs=some (ds[i],p)->cs=rows[i]):cs=rows.flatten:=by
 obtain⟨xs,m,rfl,ad,ay,hl,hi⟩:=Pf av h;have gi:ds=xs.map (·.1):=by have:=congrArg Prod.fst ad;simpa using this
 have fa:rows.length=n:=by rw[af,gi];simpa using hl
 refine WW (sz:=sz) rows cs (by rw[ay,eb,fa]) λi cX=>?_;have aa:=hi i (by omega);rw[Hh]at aa;have uY:i<xs.length:=by omega
 rw[da uY]at aa;have ak:ds[i]'(by rw[gi];simpa using uY)=xs[i].1:=by simp[gi]
 exact fv i (by rw[gi];simpa using uY) cX m _ xs[i].2 (by rw[ak];exact aa)
def WX(d:DataW H):Option (List Value):=match d with
 | .agg l=>l.mapM xP| _=>none
def Pw{n:Nat}(av:P.underlying t=some (.array n e))(Hh:P.cellsOf e=sz)(eb:P.cellsOf t=n*sz){ds:List (DataW H)}(h:DataW.trod enc P w cQ fO held e1 t cs=some (.agg ds,p))(af:ds.mapM WX=some rows)
  (fv:∀ e1 cs p l row,DataW.trod enc P w cQ fO held e1 e cs=some (.agg l,p)->l.mapM xP=some row->cs=row):cs=rows.flatten:=by
 obtain⟨a8,ba⟩:=KJ af;refine aii av Hh eb h a8 λi hi cX e1 cs p bd=>?_;have ab:=ba i hi cX;unfold WX at ab;split at ab
 ·rename_i l ay;rw[ay]at bd;exact fv _ _ _ _ _ bd ab
 ·cases ab
end
end Go.V
namespace Go.V
open Go Go.Proofs
variable{I I':aI}{M:List aD}{e size c f sz e1 cQ:Nat}{aw:List Int}{g:cx}{os:aX}{xs aR cs vs:List Value}{v:Value}{α:Type}{t:TypeId}{L:List (List Int)}{z:Bool}{X:cV}{F:Fr}{C:dB}{cap:Array Value}{P:Program}{W kZ:World}{cN:Array Field}{rows:List (List Value)}{x y:Operand}{other:Prop}{c7 tj:dD}{pl:List (ByteArray×Int)}
def KK{n:String}{g:Nat}{cs:Array Value}(au:P.globalNamed n=some g)(h:W.var? P n=some cs):∃ T al,W.heap[g]?=some (.cells cs T al):=by
 simp only[World.var?,au,Option.bind_some]at h;split at h
 ·rename_i c T al cv;cases h;exact⟨T,al,cv⟩
 ·cases h
def eJ:List Int:=[0,1,56,2,57,49,28,3,61,58,42,50,38,29,17,4,62,47,59,36,45,43,51,22,53,39,33,30,24,18,12,5,63,55,48,27,60,41,37,16,46,35,44,21,52,32,23,11,54,26,40,15,34,20,31,10,25,14,19,9,13,8,7,6]
def aij{bi:List (String×DataW Unit)}(h:laidMet Tryz.prog ([("math/bits.deBruijn32tab",YtmncamccjfmbpaaGreatDoor.Rows.laid_math_bits_deBruijn32tab),("math/bits.deBruijn64tab",YtmncamccjfmbpaaGreatDoor.Rows.laid_math_bits_deBruijn64tab),("internal/strconv.uint64pow10",YtmncamccjfmbpaaGreatDoor.Rows.laid_internal_strconv_uint64pow10),("bonsai/tree.counts",YtmncamccjfmbpaaGreatDoor.Rows.laid_bonsai_tree_counts),("bonsai/print.counts",YtmncamccjfmbpaaGreatDoor.Rows.laid_bonsai_print_counts),("bonsai/print.signs",YtmncamccjfmbpaaGreatDoor.Rows.laid_bonsai_print_signs)]++bi) W):fQ (rH W) eJ:=by
 obtain⟨ps,b4,_⟩:=h;obtain⟨a8,t1,aui,f1,Bv,dG,pF,BE,JA,g8,b4,_⟩:=b4;obtain⟨ba,t2,Px,f2,DD,eI,kV,sy,np,qy,b4,_⟩:=b4;obtain⟨bP,t3,auj,f3,auk,eG,rA,xQ,Py,zw,b4,_⟩:=b4;obtain⟨fr,t4,aik,f4,p4,iA,DL,Pz,ail,aim,b4,_⟩:=b4;obtain⟨lk,t5,ain,f5,p5,aul,WY,aio,aip,aiq,b4,_⟩:=b4;obtain⟨KL,t6,air,f6,aum,aun,Hi,ais,ait,aiu,b4,_⟩:=b4;obtain rfl:=fw ((show Tryz.prog.globalNamed "math/bits.deBruijn64tab" = some 3 by kernel_rfl).symm.trans kV)
 obtain rfl:=fw ((show(Tryz.prog.globals[3]?).map (·.type)=some 377 by kernel_rfl).symm.trans sy);obtain rfl:=fw ((show Tryz.prog.globalNamed "bonsai/tree.counts" = some 0 by kernel_rfl).symm.trans DL)
 obtain rfl:=fw ((show(Tryz.prog.globals[0]?).map (·.type)=some 232 by kernel_rfl).symm.trans Pz);obtain rfl:=fw ((show Tryz.prog.globalNamed "bonsai/print.counts" = some 2 by kernel_rfl).symm.trans WY)
 obtain rfl:=fw ((show(Tryz.prog.globals[2]?).map (·.type)=some 346 by kernel_rfl).symm.trans aio);obtain rfl:=fw ((show Tryz.prog.globalNamed "bonsai/print.signs" = some 1 by kernel_rfl).symm.trans Hi)
 obtain rfl:=fw ((show(Tryz.prog.globals[1]?).map (·.type)=some 291 by kernel_rfl).symm.trans ais);obtain⟨BC,n3,b0⟩:=KK kV np;obtain⟨O5,zA,hM⟩:=KK DL ail;obtain⟨aiv,aiw,eQ⟩:=KK WY aip;obtain⟨aix,aiy,b6⟩:=KK Hi ait;have gJ:Px.toList=eJ.map (Value.int .u8):=WU (show Tryz.prog.underlying 377=some (.array 64 5) by kernel_rfl) (by kernel_rfl) (by kernel_rfl) (by kernel_rfl) qy (by kernel_rfl);have KM:aik.toList=lq.map (Value.int .i64):=Pw (n:=10) (sz:=2) (show Tryz.prog.underlying 232=some (.array 10 231) by kernel_rfl) (by kernel_rfl) (by kernel_rfl) aim (rows:=[[.int .i64 0,.int .i64 0],[.int .i64 0,.int .i64 0],[.int .i64 0,.int .i64 0],[.int .i64 0,.int .i64 0],[.int .i64 2,.int .i64 (-1)],[.int .i64 2,.int .i64 (-1)],[.int .i64 1,.int .i64 1],[.int .i64 1,.int .i64 1],[.int .i64 1,.int .i64 1],[.int .i64 1,.int .i64 1]]) (by kernel_rfl) (λ_ _ _ _ _ aa ab=>WU (show Tryz.prog.underlying 231=some (.array 2 3) by kernel_rfl) (by kernel_rfl) (by kernel_rfl) (by kernel_rfl) aa ab);have fields:∀ {t:TypeId},(match Tryz.prog.underlying t with
   |some (.struct cN)=>decide (Tryz.prog.cellsOf t=cN.size)&&(List.range cN.size).all λi=>match cN[i]? with
    |some f=>Hg Tryz.prog f.type&&(decide (f.offset=i)&&decide (Tryz.prog.cellsOf f.type=1))| none=>false
   |_=>false)=true->∀ (e1:Nat) (cs:List Value) (p:List MemPlace) (l:List (DataW Unit)) (row:List Value),DataW.trod (λ_=>()) Tryz.prog W 0 (λ_=>true) false e1 t cs=some (.agg l,p)->l.mapM xP=some row->cs=row:=by
  intro t ap e1 cs p l row aa ab;split at ap;·rename_i cN hu;simp only[cB,hR,fx,g']at ap;refine aih hu (λi f aA=>?_) ap.1 aa ab;have hi:=ap.2 i (lJ.1 aA).1;rw[aA]at hi;simpa using hi
  ·cases ap
 have KN:ain.toList=GK:=Pw (n:=3) (sz:=3) (show Tryz.prog.underlying 346=some (.array 3 345) by kernel_rfl) (by kernel_rfl) (by kernel_rfl) aiq (rows:=[[.int .i64 0,.int .i64 1,.string ⟨#[63]⟩],[.int .i64 0,.int .i64 (-1),.string ⟨#[42]⟩],[.int .i64 1,.int .i64 (-1),.string ⟨#[43]⟩]]) (by kernel_rfl) (fields (by kernel_rfl));have WZ:air.toList=uL.map λl=>Value.string (strOf l):=Pw (n:=10) (sz:=3) (show Tryz.prog.underlying 291=some (.array 10 290) by kernel_rfl) (by kernel_rfl) (by kernel_rfl) aiu (rows:=[[.string ⟨#[]⟩,.string ⟨#[]⟩,.string ⟨#[]⟩],[.string ⟨#[]⟩,.string ⟨#[]⟩,.string ⟨#[]⟩],[.string ⟨#[]⟩,.string ⟨#[]⟩,.string ⟨#[]⟩],[.string ⟨#[]⟩,.string ⟨#[]⟩,.string ⟨#[]⟩],[.string ⟨#[]⟩,.string ⟨#[32]⟩,.string ⟨#[]⟩],[.string ⟨#[]⟩,.string ⟨#[32,47,32]⟩,.string ⟨#[]⟩],[.string ⟨#[]⟩,.string ⟨#[]⟩,.string ⟨#[]⟩],[.string ⟨#[38]⟩,.string ⟨#[]⟩,.string ⟨#[]⟩],[.string ⟨#[33]⟩,.string ⟨#[]⟩,.string ⟨#[]⟩],[.string ⟨#[60]⟩,.string ⟨#[]⟩,.string ⟨#[62]⟩]]) (by kernel_rfl) (fields (by kernel_rfl));have arr:∀ {cs:Array Value} {l:List Value},cs.toList=l->cs=l.toArray:=λh=>by apply gS;simpa using h
 refine⟨⟨O5,zA,?_⟩,⟨aiv,aiw,?_⟩,⟨aix,aiy,?_⟩,by decide,by decide,BC,n3,?_⟩
 ·rw[<-arr KM];exact hM
 ·rw[<-arr KN];exact eQ
 ·rw[<-arr WZ];exact b6
 ·rw[<-arr gJ];exact b0
def DW(cs:Array Value):Obj->Obj
 | .cells _ t al=>.cells cs t al| o=>o
def aiz:List Int:=(List.range 20).map λi=>(10:Int)^i
def aiA:List Int:=[0,1,28,2,29,14,24,3,30,22,20,15,25,17,4,8,31,27,13,23,21,19,16,7,26,12,18,6,11,5,10,9]
noncomputable def PA(os:Os):World:=
 { World.holding Tryz.prog os ⟨#[],#[],[]⟩with heap:=((((((World.holding Tryz.prog os ⟨#[],#[],[]⟩).heap.modify 0 (DW (lq.map (Value.int .i64)).toArray)).modify 2 (DW GK.toArray)).modify 1 (DW (uL.map λl=>Value.string (strOf l)).toArray)).modify 3 (DW (eJ.map (Value.int .u8)).toArray)).modify 5 (DW (aiz.map (Value.int .u64)).toArray)).modify 6 (DW (aiA.map (Value.int .u8)).toArray) }
def own:ownKnob Tryz.prog.godebug=none:=by kernel_rfl
def laidOut:laidOutB Tryz.prog=true:=by kernel_rfl
def W0{l:List α}{q:α->Bool}(h:l.all q=true){x:α}(ad:x∈l):q x=true:=fx.1 h x ad
def aiB{L:List (String×DataW Unit)}(b4:laidMetH Tryz.prog L W)(he:L=[("math/bits.deBruijn32tab",YtmncamccjfmbpaaGreatDoor.Rows.laid_math_bits_deBruijn32tab),("math/bits.deBruijn64tab",YtmncamccjfmbpaaGreatDoor.Rows.laid_math_bits_deBruijn64tab),("internal/strconv.uint64pow10",YtmncamccjfmbpaaGreatDoor.Rows.laid_internal_strconv_uint64pow10),("bonsai/tree.counts",YtmncamccjfmbpaaGreatDoor.Rows.laid_bonsai_tree_counts),("bonsai/print.counts",YtmncamccjfmbpaaGreatDoor.Rows.laid_bonsai_print_counts),("bonsai/print.signs",YtmncamccjfmbpaaGreatDoor.Rows.laid_bonsai_print_signs)]):fQ (rH W) eJ:=by
 subst he;exact aij (bi:=[]) b4
structure wa(I:aI)(d:an):Prop where
 k:0<=d.k/\d.k<256
 cz:g6 d.cz
 s1:g6 d.s1
 s2:g6 d.s2
 cZ:g6 d.cZ
 lo:iM d.lo
 hi:iM d.hi
 a0:c3 I d.dy d.aL d.dq 1 0 (d.ax.map (.int .i64 ·))
 ax:∀ x∈d.ax,iM x
 fJ:d.t.size<=9223372036854775807
structure DX(I:aI)(t:bR):Prop where
 a0:c3 I t.a t.n t.c 9 0 (t.ns.flatMap an.cells)
 ns:∀ d∈t.ns,wa I d
 bA:iM t.bA
structure zB(I:aI)(d:aQ):Prop where
 name:d.name.size<=9223372036854775807
 t:DX I d.t
structure sF(I:aI)(g:cx):Prop where
 a0:c3 I g.a g.n g.c 3 0 (g.ds.flatMap aQ.cells)
 ds:∀ d∈g.ds,zB I d
def c3.DY{a:Option Addr}{n b iI:Nat}(h:c3 I a n c size b vs)(ag:n*iI<=140737488355328):c3 I a n c size iI vs:=⟨h.len,⟨h.cap.1,ag⟩,h.rd⟩
structure PB(d:an):Prop where
 aL:d.aL<2500
structure W1(d:aQ):Prop where
 name:d.name.size<2500
 n:d.t.n<2500
 ns:∀ cd∈d.t.ns,PB cd
structure aiC(g:cx):Prop where
 n:g.n<2500
 ds:∀ d∈g.ds,W1 d
def wa.ok{d:an}(h:wa I d)(ar:PB d):d.ok I:=
 ⟨h.k,h.cz,h.s1,h.s2,h.cZ,h.fJ,h.lo,h.hi,h.a0.DY (by have:=ar.aL;omega),h.ax⟩
def zB.ok{d:aQ}(h:zB I d)(ar:W1 d):d.ok I:=
 ⟨by have:=ar.name;omega,⟨h.t.a0.DY (by have:=ar.n;omega),λcd bI=>(h.t.ns cd bI).ok (ar.ns cd bI),h.t.bA⟩⟩
def sF.ok(h:sF I g)(ar:aiC g):g.ok I:=
 ⟨h.a0.DY (by have:=ar.n;omega),λd aj=>(h.ds d aj).ok (ar.ds d aj)⟩
def wa.mono{d:an}(h:wa I d)(bt:∀ b o,I b=some o->I' b=some o):wa I' d:={ h with a0:=h.a0.mono bt }
def zB.mono{d:aQ}(h:zB I d)(bt:∀ b o,I b=some o->I' b=some o):zB I' d:=⟨h.name,h.t.a0.mono bt,λcd bI=>(h.t.ns cd bI).mono bt,h.t.bA⟩
def sF.mono(h:sF I g)(bt:∀ b o,I b=some o->I' b=some o):sF I' g:=⟨h.a0.mono bt,λd aj=>(h.ds d aj).mono bt⟩
def sF.n(h:sF I g):g.ds.length=g.n:=by have:=h.a0.len;rw[iv _ 3 aQ.cS]at this;omega
def DX.n{t:bR}(h:DX I t):t.ns.length=t.n:=by have:=h.a0.len;rw[iv _ 9 an.cS]at this;omega
def zC{x r:Int}(h:x=r)(af:-9223372036854775808<=r/\r<=9223372036854775807):IntKind.i64.wrap x=r:=by rw[h];exact wrap_i64 af
def aX.BS{l:List Int}(h:os.ok 1 (l.map (.int .i64 ·)))(a':∀ x∈os.aq e,x∈M){j:Nat}(ai:j<l.length) :
  ∃ aS,(os.a.map λg=>(⟨g,0,none⟩:Addr))=some aS/\cM I M (aS.add (j*1)) 1 [.int .i64 l[j]]:=by
 obtain⟨a,n,c,aR⟩:=os;have ay:=h.mX;simp only at ay;cases a with
 |none=>have:=(h.nil rfl).1;simp only at this;omega
 |some g=>
  obtain⟨aa,ab,ak,aJ⟩:=h.cap g rfl;simp only at aa ab aJ;refine⟨⟨g,0,none⟩,rfl,?_⟩;rw[eP _ rfl];refine⟨rfl,_,_,_,.inr ⟨⟨g,.cells aR.toArray e (0,0)⟩,a' _ (by simp[aX.aq]),rfl,rfl⟩,?_,rfl⟩;simp only[db,e0];have im:j<(l.map (Value.int .i64)).length:=by simpa using ai
  have aG:(aR.take (n*1))[j]?=some (.int .i64 l[j]):=by rw[aJ];simp[ai]
  rw[k6]at aG;have mW:j<n*1:=by omega
  rw[bQ mW]at aG;have W2:j<aR.length:=(h5.1 aG).1;rw[eR W2,qb,re];rw[da W2]at aG;rw[fw aG]
section
variable{H:Type}{enc:TypeId×Value->H}{P:Program}{W:World}{cQ:Nat}{fO:Nat->Bool}{held:Bool}
def W3{α:Type}{p:Nat->α->Prop}:∀ (n:Nat),(∀ i,i<n->∃ d,p i d)->∃ l:List α,l.length=n/\∀ i (h:i<l.length),p i l[i]
 |0,_=>⟨[],rfl,λi h=>by simp at h⟩
 |n+1,h=>by
  obtain⟨l,aa,ab⟩:=W3 n λi hi=>h i (by omega);obtain⟨d,aj⟩:=h n (by omega);refine⟨l++[d],by simp[aa],λi hi=>?_⟩;by_cases aV:i<l.length;·rw[zt aV];exact ab i aV
  ·have e:i=l.length:=by simp at hi;omega
   subst e;simpa[aa]using aj
def PC{f:α->List Value}(ar:0<size)(aA:∀ x,(f x).length=size)(ok:α->Prop){e:TypeId}(av:P.underlying t=some (.slice e))(ap:P.cellsOf e=size)(fv:∀ e1 cs x,DataW.trod enc P W cQ fO held e1 e cs=some x->∃ d,cs=f d/\ok d){x:DataW H×List MemPlace}(h:DataW.trod enc P W cQ fO held e1 t cs=some x) :
  ∃ (a:Option Addr) (n c:Nat) (l:List α),cs=[.slice a n c]/\c3 (rH W) a n c size 0 (l.flatMap f)/\l.length=n/\(∀ d∈l,ok d)/\(a=none->c=0)/\c<=maxLen:=by
 rcases DataW.trod_slice av h with⟨rfl,_⟩ | ⟨a,len,cap,auo,bi,m,_,rfl,_,ag,ay,hm,c2,aiD,_,_⟩
 ·exact⟨none,0,0,[],rfl,⟨by simp,⟨cc _,by omega⟩,.inl rfl⟩,rfl,λd aj=>by simp at aj,λ_=>rfl,by unfold maxLen;omega⟩
 have each:∀ i,i<len->∃ d,ok d/\W.cells? cQ (a.add (i*size)) size=some (f d):=λi hi=>by have aa:=aiD i hi;rw[ap,da (by omega)]at aa;obtain⟨cs',ab,ak⟩:=JI.1 aa;obtain⟨d,rfl,aj⟩:=fv _ _ _ ak;exact⟨d,aj,ab⟩
 obtain⟨l,hF,DS⟩:=W3 len each;refine⟨some a,len,cap,l,rfl,⟨by rw[iv f size aA,hF],⟨ay,by omega⟩,?_⟩,hF,λd aj=>?_,λh=>by simp at h,hm⟩
 ·by_cases az:len=0
  ·exact .inl az
  right
  have tA:=(DS 0 (by omega)).2;obtain⟨-,-,Hj⟩:=World.cells?_some tA;have W4:=Hj 0 ar;rw[da (by rw[aA];exact ar)]at W4;have W5:a.spot=none:=by
   have:=World.cell?_spot W4;cases dK:a.spot with
   |none=>rfl| some s=>simp[Addr.add,dK]at this
  refine⟨a,rfl,W5,?_⟩;have W6:∀ i (hi:i<l.length),∀ k,k<size->W.cell? ⟨a.block,a.off+(i*size+k),none⟩=(f l[i])[k]?:=λi hi k ae=>by obtain⟨-,-,cv⟩:=World.cells?_some (DS i hi).2;have:=cv k ae;rw[eP _ W5,eP _ rfl]at this;rw[<-this];congr 2;simp only[];omega
  have aiE:∃ cs T al,W.heap[a.block]?=some (.cells cs T al):=by
   have aa:=W6 0 (by omega) 0 ar;rw[da (by rw[aA];exact ar)]at aa;unfold World.cell? at aa;cases cv:W.heap[a.block]? with
   |none=>simp[cv]at aa
   |some o=>
    cases o with
    |cells cs T al=>exact⟨cs,T,al,rfl⟩| _=>simp[cv]at aa
  obtain⟨cs,T,al,cv⟩:=aiE;refine⟨cs,T,al,cv,?_⟩;have mZ:=iv f size aA l;apply zg;intro j;by_cases ai:j<len*size
  ·have hdiv:j/size<l.length:=by rw[hF];exact Nat.div_lt_of_lt_mul (by rw[Nat.mul_comm];exact ai)
   have KO:=Nat.mod_lt j ar;have e:=Nat.div_add_mod j size;rw[Nat.mul_comm]at e;have aa:=W6 (j/size) hdiv (j%size) KO;rw[e]at aa;have ab:=Ds f size aA l (j/size) hdiv;have ak:(l.flatMap f)[j]?=(f l[j/size])[j%size]?:=by rw[<-ab,k6,bQ KO,nj,e]
   rw[ak,<-aa,k6,bQ ai,nj];simp[World.cell?,cv]
  ·rw[qa (by rw[hU];omega),qa (by rw[mZ,hF];omega)]
 ·obtain⟨i,hi,rfl⟩:=j9 aj;exact(DS i hi).1
def DZ{k:IntKind}{x:DataW H×List MemPlace}(av:P.underlying t=some (.int k))(h:DataW.trod enc P W cQ fO held e1 t cs=some x):∃ n,cs=[.int k n]/\(Lit.int k n).wf=true:=by obtain⟨n,aa,_,ab⟩:=DataW.trod_int av h;exact⟨n,aa,ab⟩
def wf_i64{n:Int}(h:(Lit.int .i64 n).wf=true):iM n:=by simp[Lit.wf,IntKind.min,IntKind.max,IntKind.signed,IntKind.bits]at h;exact h
def wf_u64{n:Int}(h:(Lit.int .u64 n).wf=true):g6 n:=by simp[Lit.wf,IntKind.min,IntKind.max,IntKind.signed,IntKind.bits]at h;unfold g6;omega
def wf_u8{n:Int}(h:(Lit.int .u8 n).wf=true):0<=n/\n<256:=by simp[Lit.wf,IntKind.min,IntKind.max,IntKind.signed,IntKind.bits]at h;omega
end
section
variable{H:Type}{enc:TypeId×Value->H}{W:World}{cQ:Nat}{fO:Nat->Bool}{held:Bool}
def aiF{x:DataW H×List MemPlace}(h:DataW.trod enc Tryz.prog W cQ fO held e1 55 cs=some x) :
  ∃ (a:Option Addr) (n c:Nat) (l:List Int),cs=[.slice a n c]/\c3 (rH W) a n c 1 0 (l.map (.int .i64 ·))/\l.length=n/\∀ k∈l,iM k:=by
 obtain⟨a,n,c,l,aa,ab,ak,aJ,-,-⟩:=PC (f:=λk=>[Value.int .i64 k]) (size:=1) (by decide) (λ_=>rfl) iM (show Tryz.prog.underlying 55=some (.slice 3) by kernel_rfl) (by kernel_rfl)
  (λe1 cs x h=>by
   obtain⟨n,aa,ab⟩:=DZ (show Tryz.prog.underlying 3=some (.int .i64) by kernel_rfl) h;exact⟨n,aa,wf_i64 ab⟩) h
 refine⟨a,n,c,l,aa,?_,ak,aJ⟩;rwa [<-List.map_eq_flatMap]at ab
def aiG{l:List α}(h:l.length=4):∃ a b c d,l=[a,b,c,d]:=by
 match l,h with
 |[a,b,c,d],_=>exact⟨a,b,c,d,rfl⟩
def aiH{l:List α}(h:l.length=9):∃ a b c d e f g i j,l=[a,b,c,d,e,f,g,i,j]:=by
 match l,h with
 |[a,b,c,d,e,f,g,i,j],_=>exact⟨a,b,c,d,e,f,g,i,j,rfl⟩
def aiI{l:List α}(h:l.length=3):∃ a b c,l=[a,b,c]:=by
 match l,h with
 |[a,b,c],_=>exact⟨a,b,c,rfl⟩
def aiJ{l:List α}(h:l.length=2):∃ a b,l=[a,b]:=by
 match l,h with
 |[a,b],_=>exact⟨a,b,rfl⟩
def aiK{l:List α}(h:l.length=1):∃ a,l=[a]:=by
 match l,h with
 |[a],_=>exact⟨a,rfl⟩
def aiL{x:DataW H×List MemPlace}(h:DataW.trod enc Tryz.prog W cQ fO held e1 64 cs=some x) :
  ∃ a b c d:Int,cs=[.int .u64 a,.int .u64 b,.int .u64 c,.int .u64 d]/\g6 a/\g6 b/\g6 c/\g6 d:=by
 obtain⟨xs,m,_,_,ay,hl,hi⟩:=Pf (show Tryz.prog.underlying 64=some (.array 4 62) by kernel_rfl) h;rw[show Tryz.prog.cellsOf 64=4 by kernel_rfl]at ay;rw[show Tryz.prog.cellsOf 62=1 by kernel_rfl]at hi;have hu:Tryz.prog.underlying 62=some (.int .u64):=by kernel_rfl
 obtain⟨a,b,c,d,rfl⟩:=aiG ay;have get:∀ i,(ko:i<4)->∃ n,(([a,b,c,d]:List Value).drop (i*1)).take 1=[.int .u64 n]/\g6 n:=λi ko=>by have aa:=hi i ko;rw[da (by omega)]at aa;obtain⟨n,ab,ak⟩:=DZ hu aa;exact⟨n,ab,wf_u64 ak⟩
 obtain⟨n0,dF,Hk⟩:=get 0 (by decide);obtain⟨qq,aG,ez⟩:=get 1 (by decide);obtain⟨j5,a7,cJ⟩:=get 2 (by decide);obtain⟨KP,cr,hc⟩:=get 3 (by decide);simp at dF aG a7 cr;subst dF aG a7 cr;exact⟨_,_,_,_,rfl,Hk,ez,cJ,hc⟩
def Hl{t:Nat}{l:List (Nat×Nat)}(h:(match P.underlying t with
  |some (.struct cN)=>decide (cN.toList.map (λf=>(f.type,f.offset))=l)| _=>false)=true):∃ cN,P.underlying t=some (.struct cN)/\cN.toList.map (λf=>(f.type,f.offset))=l:=by
 split at h
 ·rename_i cN hu;exact⟨cN,hu,dh h⟩
 ·cases h
def KQ{P:Program}{l:List (Nat×Nat)}{q:Nat->Nat->Prop}(aA:cN.toList.map (λf=>(f.type,f.offset))=l)(h:∀ (i:Nat) (f:Field),cN[i]?=some f->q f.type f.offset):∀ (i t o:Nat),l[i]?=some (t,o)->q t o:=by subst aA;intro i t o hi;simp only[iG,r4,G1]at hi;obtain⟨f,aa,rfl,rfl⟩:=hi;exact h i f (by simpa using aa)
def KR{x:DataW H×List MemPlace}(av:P.underlying t=some (.struct cN))(h:DataW.trod enc P W cQ fO held e1 t cs=some x) :
  cs.length=P.cellsOf t/\∀ (i:Nat) (f:Field),cN[i]?=some f->∃ e1 y,DataW.trod enc P W cQ fO held e1 f.type ((cs.drop f.offset).take (P.cellsOf f.type))=some y:=by
 obtain⟨xs,m,_,_,ay,hl,hi⟩:=DataW.trod_struct av h;refine⟨ay,λi f aA=>?_⟩;have aV:=(lJ.1 aA).1;have aa:=hi i f aA;rw[da (by omega)]at aa;exact⟨_,_,aa⟩
def aiM{x:DataW H×List MemPlace}(h:DataW.trod enc Tryz.prog W cQ fO held e1 66 cs=some x):∃ d:an,cs=d.cells/\wa (rH W) d:=by obtain⟨cN,av,aA⟩:∃ cN,Tryz.prog.underlying 66=some (.struct cN)/\cN.toList.map (λf=>(f.type,f.offset))=[(5,0),(64,1),(9,5),(3,6),(3,7),(55,8)]:=Hl (by kernel_rfl);obtain⟨ay,hi⟩:=KR av h;have hi:∀ (i t o:Nat),[(5,0),(64,1),(9,5),(3,6),(3,7),(55,8)][i]?=some (t,o)->∃ e1 y,DataW.trod enc Tryz.prog W cQ fO held e1 t ((cs.drop o).take (Tryz.prog.cellsOf t))=some y:=KQ (P:=Tryz.prog) aA hi;rw[show Tryz.prog.cellsOf 66=9 by kernel_rfl]at ay;obtain⟨tA,gz,gJ,qx,KM,KN,WZ,aup,auq,rfl⟩:=aiH ay;obtain⟨_,_,az⟩:=hi 0 _ _ rfl;obtain⟨_,_,aa⟩:=hi 1 _ _ rfl;obtain⟨_,_,ab⟩:=hi 2 _ _ rfl;obtain⟨_,_,ak⟩:=hi 3 _ _ rfl;obtain⟨_,_,aJ⟩:=hi 4 _ _ rfl;obtain⟨_,_,bB⟩:=hi 5 _ _ rfl;rw[show Tryz.prog.cellsOf 5=1 by kernel_rfl]at az;rw[show Tryz.prog.cellsOf 64=4 by kernel_rfl]at aa;rw[show Tryz.prog.cellsOf 9=1 by kernel_rfl]at ab;rw[show Tryz.prog.cellsOf 3=1 by kernel_rfl]at ak aJ;rw[show Tryz.prog.cellsOf 55=1 by kernel_rfl]at bB;obtain⟨k,dF,aiN⟩:=DZ (show Tryz.prog.underlying 5=some (.int .u8) by kernel_rfl) az;obtain⟨a,b,c,d,aG,hV,ku,mh,iL⟩:=aiL aa;obtain⟨s,a7,-,ws⟩:=Pd (show Tryz.prog.underlying 9=some .string by kernel_rfl) ab;obtain⟨lo,cr,wl⟩:=DZ (show Tryz.prog.underlying 3=some (.int .i64) by kernel_rfl) ak;obtain⟨cX,ea,wh⟩:=DZ (show Tryz.prog.underlying 3=some (.int .i64) by kernel_rfl) aJ;obtain⟨dy,aL,dq,ax,ls,er,e8,v0⟩:=aiF bB;simp at dF aG a7 cr ea ls;obtain⟨PD,PE,aiO,aiP⟩:=aG;subst dF PD PE aiO aiP a7 cr ea ls;exact⟨⟨k,a,b,c,d,s,lo,cX,dy,aL,dq,ax⟩,rfl,wf_u8 aiN,hV,ku,mh,iL,wf_i64 wl,wf_i64 wh,er,v0,by unfold maxLen at ws;omega⟩
def aiQ{x:DataW H×List MemPlace}(h:DataW.trod enc Tryz.prog W cQ fO held e1 31 cs=some x):∃ t:bR,cs=t.cells/\DX (rH W) t:=by obtain⟨cN,av,aA⟩:∃ cN,Tryz.prog.underlying 31=some (.struct cN)/\cN.toList.map (λf=>(f.type,f.offset))=[(29,0),(3,1)]:=Hl (by kernel_rfl);obtain⟨ay,hi⟩:=KR av h;have hi:∀ (i t o:Nat),[(29,0),(3,1)][i]?=some (t,o)->∃ e1 y,DataW.trod enc Tryz.prog W cQ fO held e1 t ((cs.drop o).take (Tryz.prog.cellsOf t))=some y:=KQ (P:=Tryz.prog) aA hi;rw[show Tryz.prog.cellsOf 31=2 by kernel_rfl]at ay;obtain⟨tA,gz,rfl⟩:=aiJ ay;obtain⟨_,_,az⟩:=hi 0 _ _ rfl;obtain⟨_,_,aa⟩:=hi 1 _ _ rfl;rw[show Tryz.prog.cellsOf 29=1 by kernel_rfl]at az;rw[show Tryz.prog.cellsOf 3=1 by kernel_rfl]at aa;obtain⟨a,n,c,l,dF,er,aB,bu,-,-⟩:=PC (f:=an.cells) (size:=9) (by decide) an.cS (wa (rH W)) (show Tryz.prog.underlying 29=some (.slice 66) by kernel_rfl) (by kernel_rfl) (λe1 cs x h=>aiM h) az;obtain⟨r,aG,wr⟩:=DZ (show Tryz.prog.underlying 3=some (.int .i64) by kernel_rfl) aa;simp at dF aG;subst dF aG;exact⟨⟨l,a,n,c,r⟩,rfl,er,bu,wf_i64 wr⟩
def aiR{x:DataW H×List MemPlace}(h:DataW.trod enc Tryz.prog W cQ fO held e1 35 cs=some x):∃ d:aQ,cs=d.cells/\zB (rH W) d:=by obtain⟨cN,av,aA⟩:∃ cN,Tryz.prog.underlying 35=some (.struct cN)/\cN.toList.map (λf=>(f.type,f.offset))=[(9,0),(31,1)]:=Hl (by kernel_rfl);obtain⟨ay,hi⟩:=KR av h;have hi:∀ (i t o:Nat),[(9,0),(31,1)][i]?=some (t,o)->∃ e1 y,DataW.trod enc Tryz.prog W cQ fO held e1 t ((cs.drop o).take (Tryz.prog.cellsOf t))=some y:=KQ (P:=Tryz.prog) aA hi;rw[show Tryz.prog.cellsOf 35=3 by kernel_rfl]at ay;obtain⟨tA,gz,gJ,rfl⟩:=aiI ay;obtain⟨_,_,az⟩:=hi 0 _ _ rfl;obtain⟨_,_,aa⟩:=hi 1 _ _ rfl;rw[show Tryz.prog.cellsOf 9=1 by kernel_rfl]at az;rw[show Tryz.prog.cellsOf 31=2 by kernel_rfl]at aa;obtain⟨s,dF,-,ws⟩:=Pd (show Tryz.prog.underlying 9=some .string by kernel_rfl) az;obtain⟨t,aG,av⟩:=aiQ aa;simp[bR.cells]at dF aG;obtain⟨PD,PE⟩:=aG;subst dF PD PE;exact⟨⟨s,t⟩,rfl,by unfold maxLen at ws;exact ws,av⟩
def aiS{x:DataW H×List MemPlace}(h:DataW.trod enc Tryz.prog W cQ fO held e1 24 cs=some x):∃ g:cx,cs=[.slice g.a g.n g.c]/\sF (rH W) g:=by obtain⟨cN,av,aA⟩:∃ cN,Tryz.prog.underlying 24=some (.struct cN)/\cN.toList.map (λf=>(f.type,f.offset))=[(22,0)]:=Hl (by kernel_rfl);obtain⟨ay,hi⟩:=KR av h;have hi:∀ (i t o:Nat),[(22,0)][i]?=some (t,o)->∃ e1 y,DataW.trod enc Tryz.prog W cQ fO held e1 t ((cs.drop o).take (Tryz.prog.cellsOf t))=some y:=KQ (P:=Tryz.prog) aA hi;rw[show Tryz.prog.cellsOf 24=1 by kernel_rfl]at ay;obtain⟨tA,rfl⟩:=aiK ay;obtain⟨_,_,az⟩:=hi 0 _ _ rfl;rw[show Tryz.prog.cellsOf 22=1 by kernel_rfl]at az;obtain⟨a,n,c,l,dF,er,aB,bu,-,-⟩:=PC (f:=aQ.cells) (size:=3) (by decide) aQ.cS (zB (rH W)) (show Tryz.prog.underlying 22=some (.slice 35) by kernel_rfl) (by kernel_rfl) (λe1 cs x h=>aiR h) az;exact⟨⟨l,a,n,c⟩,dF,er,bu⟩
def aiT{w:World}{r:Reach}{t:Nat}(av:P.underlying t=some (.struct cN))(h:Value.okWide P w r cQ t v):∃ cs,v=.agg cs:=by obtain⟨cs,aa,-⟩:=Go.WideShapes.okWide_struct av h;exact⟨cs,aa⟩
def aiU{d:DataW H}{p:List MemPlace}(h:DataW.Trod enc Tryz.prog W 0 (λ_=>true) true 24 v d p)(ah:Value.okWide Tryz.prog W .any cQ 24 v):∃ g:cx,v=g.val/\sF (rH W) g:=by obtain⟨cN,av,-⟩:=Hl (P:=Tryz.prog) (t:=24) (l:=[(22,0)]) (by kernel_rfl);obtain⟨cs,rfl⟩:=aiT av ah;obtain⟨e1,aA⟩:=h;obtain⟨g,e,au⟩:=aiS aA;refine⟨g,?_,au⟩;have cW:cs.toList=[.slice g.a g.n g.c]:=e;cases cs;simp only at cW;subst cW;rfl
end
def W7{H:Type}{enc:TypeId×Value->H}{P:Program}(ay:laidOutB P=true){W kZ:World}(ae:BR W kZ):∀ {fJ:List TypeId} {vs:List Value} {ds:List (DataW H)} {ps:List MemPlace},(∀ t∈fJ,P.readableRec t=true/\t<P.types.size) -> DataW.TrodAll enc P W 0 (λ_=>true) true fJ vs ds ps->(∀ p∈ps,p.block<W.heap.size)->∀ fO:Nat->Bool,(∀ p∈ps,fO p.block=true)->DataW.TrodAll enc P kZ 0 fO true fJ vs ds ps
 |[],[],[],_,_,h,_,_,_=>h
 |t::fJ,v::vs,d::ds,_,av,⟨p,q,aa,ab,e⟩,aV,fO,ar=>by
  subst e;refine⟨p,q,?_,?_,rfl⟩
  ·refine Go.WideElems.Trod_stays ay (av t (.head _)).1 (av t (.head _)).2 aa (λx ad=>?_) (λx ad=>ar x (cE.2 (.inl ad)));have ch:=aV x (cE.2 (.inl ad));cases x with
   |cell b o=>exact World.cell?_of_block (w:=W) (ae.dE b ch)| map b=>exact ae.dE b ch
  ·exact W7 ay ae (λt h=>av t (.tail _ h)) ab (λx ad=>aV x (cE.2 (.inr ad))) fO (λx ad=>ar x (cE.2 (.inr ad)))
def aiV:mapsRowed Tryz.prog=true:=by kernel_rfl
def aiW:Tryz.prog.stopsHeard=true:=by kernel_rfl
def aiX:Tryz.prog.mayEnter=true:=by kernel_rfl
def PF:g6 0:=⟨by decide,by decide⟩
def i0:iM 0:=⟨by decide,by decide⟩
def KS(k:Int)(s:ByteArray):an:=⟨k,0,0,0,0,s,0,0,none,0,0,[]⟩
def KT(d:an):Bool:=decide (d.t=⟨#[]⟩)&&(decide (d.lo=0)&&decide (d.hi=0))
def aiY(d:an)(n:Int):Bool:=
 bif decide (d.k=0)then KT d&&decide (n=0)else
 bif decide (d.k=1)then KT d&&decide (n=0)else
 bif decide (d.k=2)then decide (d.lo=0)&&(decide (d.hi=0)&&(decide (n=0)&&(decide ((1:Int)<=d.t.size)&&decide ((d.t.size:Int)<=255))))else
 bif decide (d.k=3)then decide (d.lo=0)&&(decide (d.hi=0)&&(decide (n=0)&&ny d.t))else
 bif decide (d.k=4)||decide (d.k=5)then KT d&&decide (2<=n)else
 bif decide (d.k=6)then decide (d.t=⟨#[]⟩)&&(decide (n=1)&&(decide (0<=d.lo)&&(decide (d.lo<=99)&&(decide (d.hi=-1)||(decide (d.lo<=d.hi)&&decide (d.hi<=99))))))else
 bif decide (d.k=7)||decide (d.k=8)then KT d&&decide (n=1)else
 bif decide (d.k=9)then decide (d.lo=0)&&(decide (d.hi=0)&&(decide (n=1)&&ny d.t))else false
def PG{bA:Int}:∀ {s:List Bool} {i j:Nat},j<s.length->(s.getD j false == decide (((i+j:Nat):Int)=bA))=true->ru bA i s=false
 |b::s,i,0,_,h=>by unfold ru;rw[show(b == decide ((i:Int)=bA))=true by simpa using h];rfl
 |b::s,i,j+1,ai,h=>by
  unfold ru;cases b == decide ((i:Int)=bA)with
  |true=>rfl| false=>simp only[b'];refine PG (j:=j) (by simpa using ai) ?_;rw[show i+1+j=i+(j+1) by omega];simpa using h
def W8{bA:Int}:∀ {s:List Bool} {i:Nat},(∀ j,j<s.length->(s.getD j false == decide (((i+j:Nat):Int)=bA))=false)->ru bA i s=true
 |[],i,h=>rfl| b::s,i,h=>by unfold ru;have az:=h 0 (by simp);rw[show(b == decide ((i:Int)=bA))=false by simpa using az];simp only[b'];refine W8 λj ai=>?_;have:=h (j+1) (by simpa using ai);rw[show i+1+j=i+(j+1) by omega];simpa using this
structure W9(I:aI)(a:Option Addr)(c:Nat)(k:Int)(s:ByteArray):Prop where
 a0:c3 I a 1 c 9 96 (KS k s).cells
def W9.rd{a:Option Addr}{k:Int}{s:ByteArray}(h:W9 I a c k s):∃ aS,a=some aS/\∀ M,cM I M (aS.add (0*9)) 9 (KS k s).cells:=by have:=c3.row (f:=an.cells) (l:=[KS k s]) an.cS (size:=9) (j:=0) (by simpa using h.a0) (by decide) (cc 1);simpa using this
def bw.cd{o:Oper}{K:gd}(h:bw X o F C I M (λF C I M=>(M.map (·.num)).Nodup->(∀ x∈M,I x.num=none)->K F C I M)):bw X o F C I M K:=
 ⟨λa w Q aW=>sZ (λbM w'=>λ⟨dk,C',I',M',⟨β,af⟩,ae⟩=>⟨dk,C',I',M',⟨β,af⟩,ae af.holds.cd af.holds.d⟩) (h.1 a w Q aW)⟩
def aX.zD{foot:List Nat}{b:Nat}(h:os.ok size xs)(ag:os.n*b<=140737488355328)(bt:∀ g,os.a=some g->I g=none/\g ∉ foot)(Mr:List aD) :
  ∃ I',(∀ dv df,h7 foot I' Mr dv df->h7 foot I (os.aq e++Mr) dv df)/\(∀ b o,I b=some o->I' b=some o)/\c3 I' (os.a.map λg=>⟨g,0,none⟩) os.n os.c size b xs/\(∀ g,os.a≠some g->I' g=I g):=by
 obtain⟨a,n,c,aR⟩:=os;cases a with
 |none=>obtain⟨aa,ab⟩:=h.nil rfl;simp only at aa ab;subst aa;subst ab;exact⟨I,λ_ _ k=>k,λ_ _ h=>h,⟨h.len,⟨cc _,by simp⟩,.inl rfl⟩,λ_ _=>rfl⟩
 |some g=>obtain⟨aa,ab,ak,aJ⟩:=h.cap g rfl;obtain⟨au,aiZ⟩:=bt g rfl;refine⟨ins I g (.cells aR.toArray e (0,0)),λ_ _ k=>.kN rfl aiZ k,hI au,⟨h.len,⟨ab,ag⟩,.inr ⟨⟨g,0,none⟩,rfl,rfl,_,_,_,mr ..,by simpa using aJ⟩⟩,λdJ kp=>?_⟩;have:dJ≠g:=λe=>kp (by rw[e]);unfold ins;simp only[hp this,b']
def W'{ys:List Value}(bS:os.ok size xs){g:Nat}(aE:ys.length=size)(aa:aR.length=c*size)(ab:os.n+1<=c)(ak:c<=maxLen)(aJ:aR.take ((os.n+1)*size)=xs++ys) :
  aX.ok ⟨some g,os.n+1,c,aR⟩ size (xs++ys):=by
 have ay:=bS.len;refine⟨?_,(λh=>by cases h),λbP rA=>⟨aa,ab,ak,aJ⟩⟩;rw[cm,ay,aE];simp only;rw[lL,oy]
abbrev KU:=bR×Int×ByteArray
def KU.cd(x:KU):an:=KS x.2.1 x.2.2
structure KU.ok(I:aI)(x:KU):Prop where
 t:x.1.ok I
 ns:x.1.ns=[x.cd]
 bA:x.1.bA=0
 fits:aiY x.cd 0=true
def m3(ns:List an):Int->Nat:=mo 0 (λd g=>1+gY g d.ax) ns
def Hm{t:bR}(af:right t=true){j:Nat}(ai:j<t.ns.length):m3 t.ns j=1+gY (m3 t.ns) t.ns[j].ax:=
 Dz (λd g dJ h=>by rw[Wd h]) af ai
def ai0{t:bR}(af:right t=true):m3 t.ns t.bA<=t.ns.length:=by
 have:=ON af (g:=m3 t.ns) (c:=λ_=>1) λj ai=>by rw[Hm af ai];exact cc _
 rwa [Kk,oy]at this
def Xa{i:Nat}:∀ {ks:List Int} {s b3:List Bool},kU i ks s=some b3->∀ j,b3.getD j false=true->s.getD j false=true\/((j:Int)∈ks/\j<i)
 |[],s,b3,h,j,ai=>by simp only[kU,kk]at h;subst h;exact .inl ai
 |k::ks,s,b3,h,j,ai=>by
  unfold kU at h;cases ag:decide (k<0)||(decide ((i:Int)<=k)||s.getD k.toNat false)with
  |true=>rw[ag]at h;cases h
  |false=>
   rw[ag]at h;simp only[b']at h;simp only[sq,sb]at ag;rcases Xa h j ai with aa | aa
   ·by_cases e:k.toNat=j
    ·right
     refine⟨?_,by omega⟩;have:(j:Int)=k:=by omega
     rw[this];exact .head _
    ·left
     simp only[bz,ia]at aa |-;rwa [bU e]at aa
   ·exact .inr ⟨.tail _ aa.1,aa.2⟩
def Xb:∀ {ds:List an} {i:Nat} {s b3:List Bool},jt i ds s=some b3->∀ j,b3.getD j false=true->s.getD j false=true\/∃ q,∃ h:q<ds.length,(j:Int)∈ds[q].ax/\j<i+q
 |[],i,s,b3,h,j,ai=>by simp only[jt,kk]at h;subst h;exact .inl ai
 |d::ds,i,s,b3,h,j,ai=>by
  unfold jt at h;cases aA:fits d d.ax.length with
  |false=>rw[aA]at h;cases h
  |true=>
   rw[aA]at h;simp only[ca]at h;split at h
   ·rename_i s1 fo;rcases Xb h j ai with aa | ⟨q,aP,aa,ab⟩
    ·rcases Xa fo j aa with ak | ⟨ak,aJ⟩
     ·exact .inl ak
     ·exact .inr ⟨0,by simp,ak,by omega⟩
    ·exact .inr ⟨q+1,by simpa using aP,by simpa using aa,by omega⟩
   ·cases h
def Xc{t:bR}(af:right t=true){j:Nat}(ai:j<t.ns.length)(bn:(j:Int)≠t.bA):∃ p,∃ h:p<t.ns.length,(j:Int)∈t.ns[p].ax/\j<p:=by
 unfold right at af;simp only[cB]at af;obtain⟨_,_,af⟩:=af;split at af
 ·rename_i s ar;have e2:=(OM (g:=λ_=>0) (c:=λ_=>0) ar (by simp) (λj ai=>by simp)).1;have hm:s.getD j false=true:=by
   cases ag:s.getD j false with
   |true=>rfl| false=>have:=PG (bA:=t.bA) (s:=s) (i:=0) (j:=j) (by rw[e2];simpa using ai) (by rw[ag,db];simp[bn]);rw[this]at af;cases af
  rcases Xb ar j hm with aa | ⟨q,aP,aa,ab⟩;·simp[bz,ai]at aa
  ·exact⟨q,aP,aa,by omega⟩
 ·cases af
def Xd{g:Int->Nat}:∀ {ks:List Int} {k:Int},k∈ks->g k<=gY g ks
 |a::ks,k,h=>by
  simp only[gY,cb,jK];rcases ee.1 h with rfl | h;·omega
  ·have:=Xd (g:=g) h;simp only[gY]at this;omega
def PH{t:bR}(af:right t=true):∀ (m j:Nat),j<t.ns.length->t.ns.length-j<=m->m3 t.ns j<=t.ns.length
 |0,j,ai,hm=>by omega
 |m+1,j,ai,hm=>by
  by_cases e:(j:Int)=t.bA;·rw[e];exact ai0 af
  ·obtain⟨p,aC,ae,aV⟩:=Xc af ai e;have aa:=PH af m p aC (by omega);rw[Hm af aC]at aa;have:=Xd (g:=m3 t.ns) ae;omega
def Hn(g:Int->Nat)(a b:List Int):gY g (a++b)=gY g a+gY g b:=by simp[gY]
def PI{t:bR}(af:right t=true):∀ {l:List Int},valid t.ns.length l->l.length<=gY (m3 t.ns) l
 |[],_=>by simp
 |a::l,ah=>by have aa:=PI af (l:=l) λk ae=>ah k (.tail _ ae);have ab:=ah a (.head _);obtain⟨a,rfl⟩:=eA ab.1;have ak:=Hm af (j:=a) (by omega);simp only[gY,cb,jK,dx]at aa |-;have aJ:m3 t.ns (Int.ofNat a)=m3 t.ns a:=rfl;omega
def tB(ns:List an):Nat->List Int->List Int->List Int
 |0,_,b=>b
 |f+1,todo,b=>match todo.getLast? with
  |none=>b| some n=>tB ns f (todo.dropLast++(nodeAt ns n.toNat).ax) (b++[n])
def zE(ns:List an)(node:Int):List Int:=tB ns (ns.length+1) [node] []
def Xe(ns:List an)(f:Nat)(b:List Int):tB ns f [] b=b:=by cases f<;>rfl
def Xf(ns:List an)(f:Nat)(todo:List Int)(n:Int)(b:List Int):tB ns (f+1) (todo++[n]) b=tB ns f (todo++(nodeAt ns n.toNat).ax) (b++[n]):=by rw[tB];simp only[Pb,Pc]
def an.a4(d:an):an:=⟨d.k,d.cz,d.s1,d.s2,d.cZ,d.t,d.lo,d.hi,none,0,0,d.ax⟩
def an.eC(d:an)(l:List Int):an:=⟨d.k,d.cz,d.s1,d.s2,d.cZ,d.t,d.lo,d.hi,none,0,0,l⟩
def BT(ns:List an)(aY:List Int×List an)(b:Int):List Int×List an:=
 (aY.1.set b.toNat aY.2.length,aY.2++[(nodeAt ns b.toNat).eC ((nodeAt ns b.toNat).ax.map λk=>(aY.1.set b.toNat aY.2.length).getD k.toNat 0)])
def rI(ns:List an)(node:Int):List an:=((zE ns node).reverse.foldl (BT ns) (List.replicate ns.length 0,[])).2
def aX.pop{x:Value}(h:os.ok 1 (xs++[x])):aX.ok ⟨os.a,os.n-1,os.c,os.aR⟩ 1 xs:=by
 have ay:=h.len;simp only[cm,dx,fL,e0]at ay;refine⟨by simp only;omega,λa2=>?_,λg au=>?_⟩
 ·have:=h.nil a2;simp only;omega
 ·obtain⟨aa,ab,ak,aJ⟩:=h.cap g au;refine⟨aa,by simp only;omega,ak,?_⟩;simp only;have e:os.n*1=xs.length+1:=by omega
  rw[e]at aJ;have:os.aR.take xs.length=(os.aR.take (xs.length+1)).take xs.length:=by rw[Bb];congr 1;omega
  rw[show(os.n-1)*1=xs.length by omega,this,aJ,yY]
structure ai1(t:bR)(node:Int)(x:aX×List Int×aX×List Int×Nat):Prop where
 todo:x.1.ok 1 (x.2.1.map (.int .i64 ·))
 back:x.2.2.1.ok 1 (x.2.2.2.1.map (.int .i64 ·))
 aur:valid t.ns.length x.2.1
 aus:valid t.ns.length x.2.2.2.1
 sum:gY (m3 t.ns) x.2.1+x.2.2.2.1.length=m3 t.ns node
 e1:gY (m3 t.ns) x.2.1+1<=x.2.2.2.2
 eq:zE t.ns node=tB t.ns x.2.2.2.2 x.2.1 x.2.2.2.1
structure Xg(I:aI)(t:bR)(rb:List Int)(x:Nat×List Int×aX×List an×aI):Prop where
 j:x.1<=rb.length
 len:x.2.1.length=t.ns.length
 out:x.2.2.1.ok 9 (x.2.2.2.1.flatMap an.cells)
 on:x.2.2.2.1.length=x.1
 eq:(rb.take x.1).foldl (BT t.ns) (List.replicate t.ns.length 0,[])=(x.2.1,x.2.2.2.1.map an.a4)
 ok:∀ d∈x.2.2.2.1,d.ok x.2.2.2.2
 le:∀ b o,I b=some o->x.2.2.2.2 b=some o
 Ho:∀ c∈x.2.1,0<=c/\c<=rb.length
 Xh:∀ d∈x.2.2.2.1,∀ k∈d.ax,0<=k/\k<=rb.length
structure aU where
 z:Bool
 s:Bool
 f:Bool
 deriving DecidableEq
def aU.cells(x:aU):List Value:=[.bool x.z,.bool x.s,.bool x.f]
def aU.val(x:aU):Value:=.agg #[.bool x.z,.bool x.s,.bool x.f]
def aU.cS(x:aU):x.cells.length=3:=rfl
def aU.kC(x:aU):Bool:=x.z||x.s
def ai2(x y:aU)(p q:Operand)(w:World):(do eqGuard .neq 270 p q x.val y.val;binOp .neq 270 x.val y.val:Sem Value).run Tryz.prog w=.ok (.bool (!decide (x=y))) w:=by
 obtain⟨a,b,c⟩:=x;obtain⟨d,e,f⟩:=y;cases a<;>cases b<;>cases c<;>cases d<;>cases e<;>cases f<;>kernel_rfl
def gn.Xi{p q:aU}{V:Value->Prop}(h:V (.bool (!decide (p=q)))):gn Tryz.prog .neq 270 x y (.val (.agg #[.bool p.z,.bool p.s,.bool p.f])) (.val (.agg #[.bool q.z,.bool q.s,.bool q.f])) V other:=
 .mk _ _ _ rfl rfl (λw=>ai2 p q x y w) h
def PJ{s f:Bool}{x:aU}(aa:z=x.z)(ab:s=x.s)(ak:f=x.f):Value.agg #[.bool z,.bool s,.bool f]=x.val:=by subst aa ab ak;rfl
def Xj{s f:Bool}{x:aU}(aa:z=x.z)(ab:s=x.s)(ak:f=x.f):[Value.bool z,Value.bool s,Value.bool f]=x.cells:=by subst aa ab ak;rfl
def ai3{a b:Bool}(h:a=b):yP (.val (.bool a)) (.val (.bool b)):=by subst h;exact .refl
def KV{a b:Bool}(h:a=b):yP (.lit a) (.val (.bool b)):=by subst h;exact .lit
def perm_nil:M.Perm (M++[]):=by simp
def gn.ai4{E:Env}(aM:cU P E){t:Nat}{aF:dD}(av:E t=some c7)(dR:c7.bL=.array 4 e)(he:E e=some aF){k:IntKind}(kw:aF.bL=.int k)(au:P.eqGuardType P.depth t=false){fB cL dW ei oD b1 b0 cD:Int}{V:Value->Prop}
  (h:V (.bool (!(fB == oD&&(cL == b1&&(dW == b0&&ei == cD)))))):gn P .neq t x y (.val (.agg #[.int k fB,.int k cL,.int k dW,.int k ei])) (.val (.agg #[.int k oD,.int k b1,.int k b0,.int k cD])) V other:=by
 obtain⟨d,fF,fi⟩:=(aM _ _ av).fl;obtain⟨qj,Oq,Ot⟩:=(aM _ _ he).fl;obtain⟨inf,z,hi,fh,_⟩:=(aM _ _ he).inf;have aa:d=.array 4 e:=by rw[dR]at fi;cases d<;>simp_all[fk]
 have ab:qj=.int k:=by rw[kw]at Ot;cases qj<;>simp_all[fk]
 subst aa;subst ab;have fo:inf.size=1:=by rw[fh];exact(aM _ _ he).Jt (by rw[kw];rfl)
 refine .mk _ _ _ rfl rfl (λw=>?_) h;simp only[cj,run_eqGuard_agg (hm:=au),bV,binOp,Vj fF Oq hi fo,c0]
def PK(x:aU):Spec Tryz.prog 283 [x.val] I M λv I' M'=>v=.bool x.kC/\I'=I/\M'=M:=by
 obtain⟨a,b,c⟩:=x;refine bZ [] a5 Tryz.func283 rfl rfl rfl ?_;intro B az;refine cq.mk (λh=>?_) (λh=>?_)
 ·exact⟨_,_,.refl,by rw[show a=false from h];rfl,rfl,rfl⟩
 ·exact⟨_,_,.refl,by rw[show a=true from h];rfl,rfl,rfl⟩
structure lT(I:aI)(M:List aD)(a:Option Addr)(n:Nat)(ks:List aU):Prop where
 n:ks.length=n
 rd:∀ j (h:j<ks.length),∃ aS,a=some aS/\cM I M (aS.add (j*3)) 3 ks[j].cells
def k2(aY:aU×Bool)(k:aU):aU×Bool:=(⟨aY.1.z&&k.z,aY.1.s||k.s,aY.1.f||(aY.2&&k.f)⟩,aY.2&&k.kC)
def hz(ks:List aU):aU×Bool:=ks.foldl k2 (⟨true,false,false⟩,true)
def hA(ks:List aU):aU:=⟨(hz ks).1.z,(hz ks).1.s&&(hz ks).2,(hz ks).1.f⟩
def oW(f k:aU):aU:=⟨f.z||(f.f&&k.z),f.s||(f.f&&k.s),f.f&&k.f⟩
def qC(ks:List aU):aU:=ks.foldl oW ⟨false,false,true⟩
def bY:aU:=⟨false,false,false⟩
def xR(d:an)(k:aU):aU:=bif decide (d.hi=0)then⟨true,false,false⟩else⟨k.z||(decide (d.lo=0)&&k.f),k.s,decide (0<d.lo)&&k.f⟩
def gP(d:an)(ks:List aU):aU:=
 bif decide (d.k=0)then⟨true,false,false⟩else
 bif decide (d.k=1)then⟨false,!d.rs,true⟩else
 bif decide (d.k=2)then⟨false,true,true⟩else
 bif decide (d.k=3)then ks.headD bY else
 bif decide (d.k=4)then hA ks else
 bif decide (d.k=5)then qC ks else
 bif decide (d.k=6)then xR d (ks.headD bY)else
 bif decide (d.k=7)then⟨(ks.headD bY).kC,false,(ks.headD bY).f⟩else
 bif decide (d.k=8)then⟨(ks.headD bY).f,false,(ks.headD bY).kC⟩else ks.headD bY
section
variable{I:aI}{M:List aD}{d:an}{a:Option Addr}{n c:Nat}{ks:List aU}
def lT.head(ae:lT I M a n ks)(az:0<n):∃ aS,a=some aS/\cM I M (aS.add (0*3)) 3 (ks.headD bY).cells:=by
 have aa:0<ks.length:=by rw[ae.n];exact az
 obtain⟨aS,ab,ak⟩:=ae.rd 0 aa;refine⟨aS,ab,?_⟩;cases ks with
 |nil=>simp at aa| cons k ks=>exact ak
def ai5:Spec Tryz.prog 263 [d.val,.slice a n c] I M λv I' M'=>v=aU.val ⟨true,false,false⟩/\I'=I/\M'=M:=by refine bZ [] a5 Tryz.func263 rfl rfl rfl ?_;intro B az;exact⟨_,_,.refl,rfl,rfl,rfl⟩
def ai6:Spec Tryz.prog 265 [d.val,.slice a n c] I M λv I' M'=>v=aU.val ⟨false,true,true⟩/\I'=I/\M'=M:=by refine bZ [] a5 Tryz.func265 rfl rfl rfl ?_;intro B az;exact⟨_,_,.refl,rfl,rfl,rfl⟩
def Xk(ae:lT I M a n ks)(az:0<n):Spec Tryz.prog 266 [d.val,.slice a n c] I M λv I' M'=>v=(ks.headD bY).val/\I'=I/\M'=M:=by refine bZ [] a5 Tryz.func266 rfl rfl rfl ?_;intro B g5;obtain⟨aS,bH,bl⟩:=ae.head az;refine bf.mk aS 0 bH rfl az ?_;refine aO.mk _ bl ?_;exact⟨_,_,.refl,rfl,rfl,rfl⟩
def ai7(ae:lT I M a n ks)(az:0<n):Spec Tryz.prog 270 [d.val,.slice a n c] I M λv I' M'=>v=aU.val ⟨(ks.headD bY).kC,false,(ks.headD bY).f⟩/\I'=I/\M'=M:=by refine bZ [] a5 Tryz.func270 rfl rfl rfl ?_;intro B g5;obtain⟨aS,bH,bl⟩:=ae.head az;refine cY.draw a5 rfl rfl rfl ?_;refine bf.mk aS 0 bH rfl az ?_;refine aO.mk _ bl ?_;refine bf.mk aS 0 bH rfl az ?_;refine aO.mk _ (bl.part (k:=2) (m:=1) (by decide)) ?_;refine eL.oz M [] _ perm_nil (PK (ks.headD bY)) (λv I' M' h x ad=>by rw[h.2.2];exact ad) ?_;rintro v I' M' -⟨rfl,rfl,rfl⟩;rw[ef];exact⟨_,_,.refl,rfl,rfl,rfl⟩
def ai8(ae:lT I M a n ks)(az:0<n):Spec Tryz.prog 271 [d.val,.slice a n c] I M λv I' M'=>v=aU.val ⟨(ks.headD bY).f,false,(ks.headD bY).kC⟩/\I'=I/\M'=M:=by refine bZ [] a5 Tryz.func271 rfl rfl rfl ?_;intro B g5;obtain⟨aS,bH,bl⟩:=ae.head az;refine cY.draw a5 rfl rfl rfl ?_;refine bf.mk aS 0 bH rfl az ?_;refine aO.mk _ (bl.part (k:=2) (m:=1) (by decide)) ?_;refine bf.mk aS 0 bH rfl az ?_;refine aO.mk _ bl ?_;refine eL.oz M [] _ perm_nil (PK (ks.headD bY)) (λv I' M' h x ad=>by rw[h.2.2];exact ad) ?_;rintro v I' M' -⟨rfl,rfl,rfl⟩;rw[ef];exact⟨_,_,.refl,rfl,rfl,rfl⟩
def ai9:Spec Tryz.prog 264 [d.val,.slice a n c] I M λv I' M'=>v=aU.val ⟨false,!d.rs,true⟩/\I'=I/\M'=M:=by refine bZ [] a5 Tryz.func264 rfl rfl rfl ?_;intro B az;refine gn.ai4 a5 (e:=62) rfl rfl rfl rfl (by kernel_rfl) ?_;exact⟨_,_,.refl,rfl,rfl,rfl⟩
def aja(ae:lT I M a n ks)(az:0<n):Spec Tryz.prog 269 [d.val,.slice a n c] I M λv I' M'=>v=(xR d (ks.headD bY)).val/\I'=I/\M'=M:=by
 refine bZ [] a5 Tryz.func269 rfl rfl rfl ?_;intro B g5;obtain⟨aS,bH,bl⟩:=ae.head az;generalize ks.headD bY=k at bl;obtain⟨PL,PM,PN⟩:=k;refine aZ.mk (λh=>?_) (λh=>?_)
 ·refine⟨_,_,.refl,PJ ?_ ?_ ?_,rfl,rfl⟩<;>simp[xR,h]
 refine bf.mk aS 0 bH rfl az ?_;refine aO.mk _ bl ?_
 repeat' refine cq.mk (λh=>?_) (λh=>?_)
 all_goals refine⟨_,_,.refl,PJ ?_ ?_ ?_,rfl,rfl⟩
 all_goals first | (simp_all[xR];done) | (simp_all[xR];intros;omega)
def ajb(ae:lT I M a n ks)(aB:n<=140737488355328):Spec Tryz.prog 268 [d.val,.slice a n c] I M λv I' M'=>v=(qC ks).val/\I'=I/\M'=M:=by
 refine bZ [] a5 Tryz.func268 rfl rfl rfl ?_;intro B g5;have e8:=ae.n;refine de.inv (ι:=Nat×aU) (λx=>{ bj:=[(4,.ref 4 0),(5,.ref 5 0),(9,.val (.slice a n c)),(10,.val (.int .i64 n)),(11,.val (.int .i64 x.1))],cl:=[(4,bY.cells),(5,x.2.cells)],cI:=I,c1:=M }) (λx=>x.1<=n/\x.2=(ks.take x.1).foldl oW ⟨false,false,true⟩) (λx=>n-x.1) ?_ ?_
 ·exact⟨(0,⟨false,false,true⟩),⟨dz _,rfl⟩,.refl,gf,.cons rfl (.cons rfl .nil)⟩
 rintro⟨i,f⟩⟨hi,aA⟩;simp only at hi aA;refine aZ.mk (λh=>?_) (λh=>?_)
 rotate_left
 ·have cA:n<=i:=by have:=dO h;omega
  refine⟨_,_,.refl,?_,rfl,rfl⟩;rw[ft (by omega)]at aA;rw[qC,<-aA];rfl
 have aV:i<n:=by have:=dh h;omega
 obtain⟨aS,bH,bl⟩:=ae.rd i (by omega);have eu:∀ g:aU,g=oW f (ks[i]'(by omega))->g=(ks.take (i+1)).foldl oW ⟨false,false,true⟩:=λg au=>by rw[fZ (by omega),rE,<-aA,au];rfl
 generalize ks[i]'(by omega)=k at bl eu;obtain⟨PL,PM,PN⟩:=k;obtain⟨z,s,PO⟩:=f;refine bf.mk aS i bH rfl aV ?_;refine aO.mk _ bl ?_
 repeat' refine cq.mk (λh=>?_) (λh=>?_)
 all_goals refine bg.mk _ (cK (i:=i) (by omega)) ?_
 all_goals refine⟨(i+1,_),⟨⟨by simp only;omega,eu _ rfl⟩,by simp only;omega⟩,.refl,gf,.cons rfl (.cons ?_ .nil)⟩
 all_goals clear eu aA bl
 all_goals (refine congrArg some (Xj ?_ ?_ ?_)<;>simp_all[oW])
def ajc(l:List aU)(k:aU):hz (l++[k])=k2 (hz l) k:=by simp[hz]
def ajd(ae:lT I M a n ks)(aB:n<=140737488355328):Spec Tryz.prog 267 [d.val,.slice a n c] I M λv I' M'=>v=(hA ks).val/\I'=I/\M'=M:=by
 refine bZ [] a5 Tryz.func267 rfl rfl rfl ?_;intro B g5;have e8:=ae.n;refine de.inv (ι:=Nat×aU×Bool) (λx=>{ bj:=[(4,.ref 4 0),(5,.ref 5 0),(6,.val (.bool x.2.2)),(10,.val (.slice a n c)),(11,.val (.int .i64 n)),(12,.val (.int .i64 x.1))],cl:=[(4,bY.cells),(5,x.2.1.cells)],cI:=I,c1:=M }) (λx=>x.1<=n/\x.2=hz (ks.take x.1)) (λx=>n-x.1) ?_ ?_
 ·exact⟨(0,⟨true,false,false⟩,true),⟨dz _,rfl⟩,.refl,.cons .refl (.cons .refl (.cons .lit (hG))),.cons rfl (.cons rfl .nil)⟩
 rintro⟨i,f,Xl⟩⟨hi,aA⟩;simp only at hi aA;refine aZ.mk (λh=>?_) (λh=>?_)
 rotate_left
 ·have cA:n<=i:=by have:=dO h;omega
  rw[ft (by omega)]at aA;obtain⟨z,s,PO⟩:=f;have aG:(hz ks).1=⟨z,s,PO⟩:=by rw[<-aA]
  have a7:(hz ks).2=Xl:=by rw[<-aA]
  refine cq.mk (λab=>?_) (λab=>?_)
  all_goals refine⟨_,_,.refl,PJ ?_ ?_ ?_,rfl,rfl⟩
  all_goals simp_all[hA]
 have aV:i<n:=by have:=dh h;omega
 obtain⟨aS,bH,bl⟩:=ae.rd i (by omega);have eu:∀ g:aU×Bool,g=k2 (f,Xl) (ks[i]'(by omega))->g=hz (ks.take (i+1)):=λg au=>by rw[fZ (by omega),ajc,<-aA,au]
 generalize ks[i]'(by omega)=k at bl eu;obtain⟨PL,PM,PN⟩:=k;obtain⟨z,s,PO⟩:=f;refine bf.mk aS i bH rfl aV ?_;refine aO.mk _ bl ?_
 repeat' first
  |refine cq.mk (λh=>?_) (λh=>?_)|(refine bc.mk M [] _ perm_nil (PK ⟨PL,PM,PN⟩) ?_;rintro v I' M' -⟨rfl,rfl,rfl⟩;rw[ef])
 all_goals refine bg.mk _ (cK (i:=i) (by omega)) ?_
 all_goals refine⟨(i+1,_),⟨⟨by simp only;omega,eu _ rfl⟩,by simp only;omega⟩,.refl,.cons .refl (.cons .refl (.cons ?_ (hG))),.cons rfl (.cons ?_ .nil)⟩
 all_goals clear eu aA bl
 all_goals first
  |(refine congrArg some (Xj ?_ ?_ ?_)<;>simp_all[k2])|(refine ai3 ?_;simp_all[k2])|(refine KV ?_;simp_all[k2])
end
def cM.mono{a:Addr}{n:Nat}(h:cM I M a n vs)(bt:∀ b o,I b=some o->I' b=some o):cM I' M a n vs:=by obtain⟨aa,cs,T,al,ab,ak⟩:=h;exact⟨aa,cs,T,al,ab.imp (bt _ _) id,ak⟩
def cM.sub{I:aI}{M M':List aD}{a:Addr}{n:Nat}{vs:List Value}(h:cM I M a n vs)(a':∀ x∈M,x∈M'):cM I M' a n vs:=by obtain⟨aa,cs,T,al,ab,ak⟩:=h;refine⟨aa,cs,T,al,ab.imp id ?_,ak⟩;rintro⟨x,ad,aG,a7⟩;exact⟨x,a' x ad,aG,a7⟩
def jB(aY:List an×List Int)(l:List an):List an×List Int:=
 (aY.1++l.map (λx=>x.eC (x.ax.map λk=>(aY.1.length:Int)+k)),aY.2++[((aY.1.length+l.length:Nat):Int)-1])
def wb(d:an)(fS:List (List an)):List an:=(fS.foldl jB ([],[])).1++[d.eC (fS.foldl jB ([],[])).2]
section
variable{X:cV}{β:Nat->Nat}{a:Act}{w:World}{F:Fr}{C:dB}{I:aI}{M:List aD}{o:Oper}{Q:Exit->Act->World->Prop}{K:gd}
def Xm(aM:cU X.P X.E){t:Nat}{k:Nat}(av:X.E t=some c7)(dR:c7.bL=.map k e)(ae:X.E k=some tj)(eW:tj.bL=.string)(bb:∀ w,(zeroValue e).run X.P w=.ok (.int .i64 0) w){g:Nat}{l:List (ByteArray×Int)}{s:ByteArray}(au:w.heap[g]?=some (jz l))(ok:Bool) :
  (Instr.lookup t (.map (some g)) (.string s) ok).run X.P w=.ok (bif ok then .tuple #[.int .i64 ((ev s l).getD 0),.bool (ev s l).isSome]else .int .i64 ((ev s l).getD 0)) w:=by
 obtain⟨d,fF,fi⟩:=(aM _ _ av).fl;have aa:d=.map k e:=by rw[dR]at fi;cases d<;>simp_all[fk]
 subst aa;obtain⟨dd,sB,hH⟩:=(aM _ _ ae).fl;have ab:dd=.string:=by rw[eW]at hH;cases dd<;>simp_all[fk]
 subst ab;have au:w.heap[g]?=some (.map (oO l 0).toArray l.length):=au;obtain⟨r,vH,mu⟩:=Kq s l 0 0;have ap:(Instr.checkKey (oO l 0).toArray.isEmpty 10000 k (.string s)).run X.P w=.ok () w:=Dw (k:=.string s) sB (by simp[MapKept.IsKey]) _ 9999;have uV:(Instr.findKey k (.string s) (oO l 0)).run X.P w=.ok r w:=Dx sB vH;unfold Instr.lookup;simp only[cj,run_underlying fF,bV,Dv au,c0,ap,uV];cases r with
 |none=>
  cases ay:ev s l with
  |none=>cases ok<;>simp[bb]
  |some v=>rw[ay]at mu;simp at mu
 |some p=>
  cases ay:ev s l with
  |none=>rw[ay]at mu;simp at mu
  |some v=>
   rw[ay]at mu;simp only[k8,kk]at mu;cases ok<;>simp[mu]
def bw.Xn(aM:cU X.P X.E){t:Nat}(aH:o.op=.lookup t x y true)(aj:∀ d,o.dst=some d->d<X.n){k:Nat}(av:X.E t=some c7)(dR:c7.bL=.map k e)(ae:X.E k=some tj)(eW:tj.bL=.string)(bb:∀ w,(zeroValue e).run X.P w=.ok (.int .i64 0) w){g:Nat}{l:List (ByteArray×Int)}{s:ByteArray}(ad:bE F x=.val (.map (some g)))(aE:bE F y=.val (.string s))(a':h6 I M g (jz l))
  (h:K (put o.dst (.val (.tuple #[.int .i64 ((ev s l).getD 0),.bool (ev s l).isSome])) F) C I M):bw X o F C I M K:=by
 refine⟨λa w Q ⟨β,aW⟩=>?_⟩;have e9:=Xm aM av dR ae eW bb (a'.heap aW.holds) (s:=s) true;have ex:=dc aW.al ad;have oE:=dc aW.al aE;refine vG aW aj (by rw[aH];simp) ?_ h;unfold execOp;simp only[aH,ex,oE,cj,e9,bV,c0,ca]
def bw.aje(aM:cU X.P X.E){t:Nat}(aH:o.op=.lookup t x y false)(aj:∀ d,o.dst=some d->d<X.n){k:Nat}(av:X.E t=some c7)(dR:c7.bL=.map k e)(ae:X.E k=some tj)(eW:tj.bL=.string)(bb:∀ w,(zeroValue e).run X.P w=.ok (.int .i64 0) w){g:Nat}{l:List (ByteArray×Int)}{s:ByteArray}(ad:bE F x=.val (.map (some g)))(aE:bE F y=.val (.string s))(a':h6 I M g (jz l))
  (h:K (put o.dst (.val (.int .i64 ((ev s l).getD 0))) F) C I M):bw X o F C I M K:=by
 refine⟨λa w Q ⟨β,aW⟩=>?_⟩;have e9:=Xm aM av dR ae eW bb (a'.heap aW.holds) (s:=s) false;have ex:=dc aW.al ad;have oE:=dc aW.al aE;refine vG aW aj (by rw[aH];simp) ?_ h;unfold execOp;simp only[aH,ex,oE,cj,e9,bV,c0,b']
end
def n4:List (ByteArray×Int)->Nat->List aQ->List (ByteArray×Int)
 |a6,_,[]=>a6| a6,i,d::ds=>n4 (bif (ev d.name a6).isSome then a6 else a6++[(d.name,(i:Int))]) (i+1) ds
def bD(ds:List aQ):List (ByteArray×Int):=n4 [] 0 ds
def Xo(au:g.ok I):Spec Tryz.prog 197 [g.val] I [] λv I' M'=>(∀ b o,I b=some o->I' b=some o)/\M'=[]/\∃ hN,v=.map (some hN)/\I' hN=some (jz (bD g.ds)):=by
 refine yV [] a5 Tryz.func197 rfl rfl rfl ?_;intro B az;have fM:=au.n;have ju:=au.a0.cap;refine bw.makeMap a5 rfl (by simp) rfl rfl rfl λjL=>?_;refine de.inv (ι:=Nat×List (ByteArray×Int)) (λx=>{ bj:=[(1,.ref 1 0),(3,.val (.map (some jL))),(13,.val (.slice g.a g.n g.c)),(14,.val (.int .i64 g.n)),(15,.val (.int .i64 x.1))],cl:=[(1,[.slice g.a g.n g.c])],cI:=I,c1:=[⟨jL,jz x.2⟩] }) (λx=>x.1<=g.n/\bD g.ds=n4 x.2 x.1 (g.ds.drop x.1)) (λx=>g.n-x.1) ?_ ?_
 ·exact⟨(0,[]),⟨dz _,rfl⟩,.refl,gf,.cons rfl .nil⟩
 rintro⟨i,a6⟩⟨hi,aC⟩;simp only at hi aC;refine aZ.mk (λh=>?_) (λh=>?_)
 ·have aV:i<g.n:=by have:(i:Int)<(g.n:Int):=dh h;omega
  have ch:i<g.ds.length:=by omega
  obtain⟨aS,bH,bl⟩:=au.a0.row aQ.cS aV ch;rw[eR ch,n4]at aC;refine bf.mk aS i bH rfl aV ?_;refine aO.mk _ (bl _) ?_;refine bw.Xn a5 rfl (by simp) rfl rfl rfl rfl (λw=>G3 w) (l:=a6) (g:=jL) rfl rfl (.inr ⟨_,.head _,rfl,rfl⟩) ?_;refine aZ.mk (λak=>?_) (λak=>?_)
  ·have aB:(ev g.ds[i].name a6).isSome=false:=by simpa using ak
   have ay:ev g.ds[i].name a6=none:=by simpa using aB
   rw[aB,b']at aC;refine bw.Ws a5 rfl rfl rfl rfl rfl rfl rfl rfl rfl ay (Mr:=[]) (.refl _) ?_;refine bg.mk _ (cK (i:=i) (by omega)) ?_;exact⟨(i+1,_),⟨⟨by simp only;omega,aC⟩,by simp only;omega⟩,.refl,gf,.cons rfl .nil⟩
  ·have aB:(ev g.ds[i].name a6).isSome=true:=by simpa using ak
   rw[aB,ca]at aC;refine bg.mk _ (cK (i:=i) (by omega)) ?_;exact⟨(i+1,_),⟨⟨by simp only;omega,aC⟩,by simp only;omega⟩,.refl,gf,.cons rfl .nil⟩
 have cA:g.n<=i:=by have:¬ (i:Int)<(g.n:Int):=dO h;omega
 rw[jH (by omega),n4]at aC;intro fC;have ag:=fC.d ⟨jL,jz a6⟩ (.head _);exact⟨_,_,.kN rfl (by simp) .refl,hI ag,rfl,jL,rfl,by rw[aC];exact mr ..⟩
def ajf:List Nat:=[263,264,265,266,267,268,269,270,271,266]
def PP:List Value:=[.func (.func 263) #[] #[],.func (.func 264) #[] #[],.func (.func 265) #[] #[],.func (.func 266) #[] #[],.func (.func 267) #[] #[],.func (.func 268) #[] #[],.func (.func 269) #[] #[],.func (.func 270) #[] #[],.func (.func 271) #[] #[],.func (.func 266) #[] #[]]
def ajg:Spec Tryz.prog 237 [] I [] λv I' M'=>v=.agg PP.toArray/\I'=I/\M'=[]:=by refine bZ [] a5 Tryz.func237 rfl rfl rfl ?_;intro B az;exact⟨_,_,.refl,rfl,rfl,rfl⟩
def wc{d:an}{a:Option Addr}{n:Nat}{ks:List aU}(ae:lT I M a n ks)(aB:n<=140737488355328)(j:Nat)(ai:j<10)(aj:d.k=j)(az:(j=3\/6<=j)->0<n) :
  Spec Tryz.prog (ajf.getD j 0) [d.val,.slice a n c] I M λv I' M'=>v=(gP d ks).val/\I'=I/\M'=M:=by
 match j,ai,aj,az with
 |0,_,aj,_=>rw[show gP d ks=⟨true,false,false⟩ by simp[gP,aj]];exact ai5 (I:=I) (M:=M) (d:=d) (a:=a) (n:=n) (c:=c)| 1,_,aj,_=>rw[show gP d ks=⟨false,!d.rs,true⟩ by simp[gP,aj]];exact ai9 (I:=I) (M:=M) (d:=d) (a:=a) (n:=n) (c:=c)| 2,_,aj,_=>rw[show gP d ks=⟨false,true,true⟩ by simp[gP,aj]];exact ai6 (I:=I) (M:=M) (d:=d) (a:=a) (n:=n) (c:=c)| 3,_,aj,az=>rw[show gP d ks=ks.headD bY by simp[gP,aj]];exact Xk (d:=d) (c:=c) ae (az (by omega))| 4,_,aj,_=>rw[show gP d ks=hA ks by simp[gP,aj]];exact ajd (d:=d) (c:=c) ae aB| 5,_,aj,_=>rw[show gP d ks=qC ks by simp[gP,aj]];exact ajb (d:=d) (c:=c) ae aB| 6,_,aj,az=>rw[show gP d ks=xR d (ks.headD bY) by simp[gP,aj]];exact aja (d:=d) (c:=c) ae (az (by omega))| 7,_,aj,az=>rw[show gP d ks=⟨(ks.headD bY).kC,false,(ks.headD bY).f⟩ by simp[gP,aj]];exact ai7 (d:=d) (c:=c) ae (az (by omega))| 8,_,aj,az=>rw[show gP d ks=⟨(ks.headD bY).f,false,(ks.headD bY).kC⟩ by simp[gP,aj]];exact ai8 (d:=d) (c:=c) ae (az (by omega))| 9,_,aj,az=>rw[show gP d ks=ks.headD bY by simp[gP,aj]];exact Xk (d:=d) (c:=c) ae (az (by omega))
def fN(b:Nat)(l:List aU):aD:=⟨b,.cells (l.flatMap aU.cells).toArray 270 (0,0)⟩
def BU(l:List aU):(l.flatMap aU.cells).length=l.length*3:=iv _ 3 aU.cS l
def D1{b:Nat}{l:List aU}(a':fN b l∈M){j:Nat}(ai:j<l.length):cM I M ((⟨b,0,none⟩:Addr).add (j*3)) 3 l[j].cells:=by have h:=c4 (I:=I) (cs:=l.flatMap aU.cells) (k:=j*3) (n:=3) a' (by rw[BU];omega);rwa [Ds aU.cells 3 aU.cS l j ai]at h
def PQ(l:List aU)(j:Nat)(ai:j<l.length)(x:aU):ck (l.flatMap aU.cells) (j*3) x.cells=(l.set j x).flatMap aU.cells:=by
 have e:l.flatMap aU.cells=(l.take j).flatMap aU.cells++(l[j].cells++(l.drop (j+1)).flatMap aU.cells):=by
  have aa:l=l.take j++(l[j]::l.drop (j+1)):=by rw[<-eR ai,sp]
  have ab:=congrArg (λq:List aU=>q.flatMap aU.cells) aa;simp only[hd,kr]at ab;exact ab
 have ay:((l.take j).flatMap aU.cells).length=j*3:=by rw[BU,hU];congr 1;omega
 unfold ck;rw[F3,bQ ai,hd,kr,e,dT];congr 1
 ·rw[<-ay,yY]
 ·congr 1;rw[aU.cS,<-ay,<-dT,Bs (by rw[cm,aU.cS])]
def Xp(l:List aU)(x:aU):(l++[x]).flatMap aU.cells=l.flatMap aU.cells++x.cells:=by simp
def aX.zero(h:os.ok size xs):aX.ok ⟨os.a,0,os.c,os.aR⟩ size []:=by refine⟨by simp,λa2=>⟨rfl,(h.nil a2).2⟩,λg au=>?_⟩;obtain⟨aa,ab,ak,aJ⟩:=h.cap g au;exact⟨aa,dz _,ak,by simp⟩
def aX.Xq{l:List aU}(h:os.ok 3 (l.flatMap aU.cells))(a':∀ x∈os.aq e,x∈M):lT I M (os.a.map λg=>⟨g,0,none⟩) os.n l:=by
 have ay:=h.len;rw[BU]at ay;refine⟨by omega,λj ai=>?_⟩;obtain⟨a,n,c,aR⟩:=os;simp only at ay;cases a with
 |none=>have:=(h.nil rfl).1;simp only at this;omega
 |some g=>
  obtain⟨aa,ab,ak,aJ⟩:=h.cap g rfl;simp only at aa ab aJ;refine⟨⟨g,0,none⟩,rfl,?_⟩;have hm:(⟨g,.cells aR.toArray e (0,0)⟩:aD)∈M:=a' _ (by simp[aX.aq]);have af:=c4 (I:=I) (cs:=aR) (k:=j*3) (n:=3) hm (by omega);have aG:(aR.drop (j*3)).take 3=((aR.take (n*3)).drop (j*3)).take 3:=by rw[F8,Bb];congr 1;omega
  rw[aG,aJ,Ds aU.cells 3 aU.cS l j ai]at af;exact af
def sG(pl:List (ByteArray×Int))(bj a6:List aU)(d:an):List aU:=
 d.ax.map (λk=>a6.getD k.toNat bY)++bif decide (d.k=3)then [bj.getD ((ev d.t pl).getD 0).toNat bY]else []
def eo(pl:List (ByteArray×Int))(bj:List aU):List an->List aU->List aU
 |[],a6=>a6| d::ds,a6=>eo pl bj ds (a6++[gP d (sG pl bj a6 d)])
def Hp(pl:List (ByteArray×Int))(bj:List aU):∀ (ds:List an) (a6:List aU),(eo pl bj ds a6).length=a6.length+ds.length
 |[],a6=>rfl| d::ds,a6=>by rw[eo,Hp];simp;omega
def Xr(pl:List (ByteArray×Int))(n:Nat)(ns:List an):Prop:=∀ d∈ns,d.k=3->∃ i:Nat,ev d.t pl=some (i:Int)/\i<n
def PR{d:an}{n:Int}(h:fits d n=true):d.k<10:=by apply Int.lt_of_not_ge;intro cA;have:(10:Int)<=d.k:=cA;simp[fits,this]at h
def Xs{d:an}{n:Int}(az:0<=d.k)(h:fits d n=true)(ae:6<=d.k):0<n:=by
 have ql:=PR h;have D2:d.k=6\/d.k=7\/d.k=8\/d.k=9:=by omega
 rcases D2 with e | e | e | e<;>(simp[fits,e,uC,sk,lq]at h;omega)
def ajh(a6:List aU)(n i:Nat)(ay:a6.length=i)(hi:i<n)(x:aU):(a6++List.replicate (n-i) bY).set i x=(a6++[x])++List.replicate (n-(i+1)) bY:=by subst ay;rw[GY _ _ (cc _),pI,show n-a6.length=(n-(a6.length+1))+1 by omega,GZ,G0];simp
def Xt:∀ n:Nat,rowOf bY.cells (n*3)=(List.replicate n bY).flatMap aU.cells:=λn=>by
 apply nU
 ·rw[BU,sm];simp[vF,madeCells]
 intro i aa ab;have ak:∀ x∈(List.replicate n bY).flatMap aU.cells,x=Value.bool false:=λx ad=>by obtain⟨y,aE,ad⟩:=hy.1 ad;have:=O' aE;subst this;simpa[aU.cells,bY]using ad
 rw[ak _ (bx ab)];have bb:∀ j,j<3->bY.cells[j]! = Value.bool false:=λj ai=>by
  match j,ai with
  |0,_=>rfl| 1,_=>rfl| 2,_=>rfl
 simp only[rowOf,g7,v7];exact bb _ (Nat.mod_lt _ (by decide))
def we{a6:List aU}{n i:Nat}(mc:a6.length=i)(aV:i<n)(x:aU):Nat.ble (0+i*3+x.cells.length) ((a6++List.replicate (n-i) bY).flatMap aU.cells).length=true:=by rw[nE,BU,aU.cS,cm,sm];omega
def Xu{M0:List aD}{t:bR}(av:t.ok I)(af:right t=true){hN:Nat}(hm:I hN=some (jz pl)){ly:Option Addr}{ln lc:Nat}{bj:List aU}(mZ:lT I M0 ly ln bj)(ap:Xr pl ln t.ns) :
  Spec Tryz.prog 199 [.map (some hN),.slice ly ln lc,t.val] I M0 λv I' M'=>I'=I/\∃ b,v=.slice (some ⟨b,0,none⟩) t.n t.n/\M'=fN b (eo pl bj t.ns [])::M0:=by
 refine bZ [] a5 Tryz.func199 rfl rfl rfl ?_;intro B az;have ic:=av.n;have ju:=av.a0.cap;refine bc.mk [] M0 _ (.refl _) ajg ?_;rintro v I1 M1 -⟨rfl,rfl,rfl⟩;refine mG.mk t.n t.n rfl rfl (cc _) (by show 3*t.n<=_;omega) (by omega) ?_;refine bX.mk λfR DR ah1=>?_;refine de.inv (ι:=Nat×List aU×aX) (λx=>{ bj:=[(0,.val (.map (some hN))),(1,.val (.slice ly ln lc)),(5,.ref 5 0),(7,.ref 7 0),(8,.val (.slice (some ⟨fR,0,none⟩) t.n t.n)),(9,.val x.2.2.val),(20,.val (.slice t.a t.n t.c)),(21,.val (.int .i64 t.n)),(22,.val (.int .i64 x.1))],cl:=[(5,t.cells),(7,PP)],cI:=I1,c1:=fN fR (x.2.1++List.replicate (t.n-x.1) bY)::(x.2.2.aq 270++M0) }) (λx=>x.1<=t.n/\x.2.1.length=x.1/\eo pl bj t.ns []=eo pl bj (t.ns.drop x.1) x.2.1/\∃ ks,x.2.2.ok 3 ks) (λx=>t.n-x.1) ?_ ?_
 ·refine⟨(0,[],hZ),⟨dz _,rfl,rfl,[],lv 3⟩,?_,j3,.cons rfl (.cons rfl .nil)⟩;have e:rowOf bY.cells (t.n*3)=(List.replicate t.n bY).flatMap aU.cells:=Xt t.n;simp only[fN,iq,Kr];rw[<-e];exact .refl
 rintro⟨i,a6,eg⟩⟨hi,mc,D3,aut,kA⟩;simp only at hi mc D3 kA;refine aZ.mk (λh=>?_) (λh=>?_)
 rotate_left
 ·have cA:i=t.n:=by have:¬ (i:Int)<(t.n:Int):=dO h;omega
  subst cA;rw[jH (by omega),eo]at D3;refine⟨I1,fN fR (a6++List.replicate (t.n-t.n) bY)::M0,.sub (.cons_cons _ (mb _ _)) .refl,rfl,fR,rfl,?_⟩;rw[D3,pI,List.replicate_zero,ef]
 have aV:i<t.n:=by have:(i:Int)<(t.n:Int):=dh h;omega
 have ch:i<t.ns.length:=by omega
 obtain⟨aS,bH,bl⟩:=av.a0.row an.cS aV ch;have gr:=bx ch;have aj:=av.ns _ gr;have e8:=aj.aL;have rJ:=aj.a0.cap;have jd:=mm af i ch;have tC:=DA af ch;have Xv:=ap _ gr;have Xw:eo pl bj t.ns []=eo pl bj (t.ns.drop (i+1)) (a6++[gP t.ns[i] (sG pl bj a6 t.ns[i])]):=by rw[D3,eR ch,eo]
 generalize t.ns[i]=d at bl aj e8 rJ jd tC Xv Xw;have lP:=aj.k.1;have auu:=PR tC;have pJ:∀ {M:List aD} {q:Int},fN fR (a6++List.replicate (t.n-i) bY)∈M->q∈d.ax->cM I1 M ((⟨fR,0,none⟩:Addr).add (q.toNat*3)) 3 (a6.getD q.toNat bY).cells:=fun {M q} a' aP=>by
  have tD:=jd q aP;have ff:q.toNat<a6.length:=by omega
  have:=D1 (I:=I1) a' (j:=q.toNat) (by rw[cm];omega);rw[zt ff]at this;simpa[bz,ff]using this
 refine bf.mk aS i bH rfl aV ?_;refine aO.mk _ (bl _) ?_;refine l7.mk 0 0 rfl rfl (cc _) (dz _) ?_;refine de.inv (ι:=Nat×aX×List aU) (λx=>{ bj:=[(0,.val (.map (some hN))),(1,.val (.slice ly ln lc)),(5,.ref 5 0),(7,.ref 7 0),(8,.val (.slice (some ⟨fR,0,none⟩) t.n t.n)),(9,.val x.2.1.val),(10,.val (.int .i64 i)),(11,.ref 11 0),(20,.val (.slice t.a t.n t.c)),(21,.val (.int .i64 t.n)),(22,.val (.int .i64 i)),(30,.val (.slice d.dy d.aL d.dq)),(31,.val (.int .i64 d.aL)),(32,.val (.int .i64 x.1))],cl:=[(5,t.cells),(7,PP),(11,d.cells)],cI:=I1,c1:=fN fR (a6++List.replicate (t.n-i) bY)::(x.2.1.aq 270++M0) }) (λx=>x.1<=d.aL/\x.2.1.ok 3 (x.2.2.flatMap aU.cells)/\x.2.2=(d.ax.take x.1).map λk=>a6.getD k.toNat bY) (λx=>d.aL-x.1) ?_ ?_
 ·exact⟨(0,⟨eg.a,0,eg.c,eg.aR⟩,[]),⟨dz _,aX.zero kA,rfl⟩,.refl,F2,.cons rfl (.cons rfl (.cons rfl .nil))⟩
 rintro⟨k,cJ,gy⟩⟨ae,eN,cy⟩;simp only at ae eN cy;have auv:cJ.n=gy.length:=by have:=eN.len;rw[BU]at this;omega
 have DT:gy.length<=k:=by rw[cy,bF];exact Br _ _
 refine aZ.mk (λh=>?_) (λh=>?_)
 ·have fc:k<d.aL:=by have:(k:Int)<(d.aL:Int):=dh h;omega
  have kO:k<d.ax.length:=by omega
  obtain⟨gg,fs,e'⟩:=aj.a0.one fc kO;have aP:=jd _ (bx kO);refine bf.mk gg k fs rfl fc ?_;refine aO.mk _ (e' _) ?_;refine bf.mk ⟨fR,0,none⟩ d.ax[k].toNat rfl (by omega) (by omega) ?_;refine aO.mk _ (pJ (.head _) (bx kO)) ?_;refine bX.mk λb9 kX uR=>?_;refine bw.append a5 rfl (by simp) (e:=270) rfl rfl rfl cJ eN rfl (m:=1) rfl (b8:=(a6.getD d.ax[k].toNat bY).cells) (by decide) (c4 (b:=b9) (cs:=(a6.getD d.ax[k].toNat bY).cells) (k:=0) (n:=3) (T:=270) (.head _) (bJ rfl)) rfl (Mr:=⟨b9,.cells (a6.getD d.ax[k].toNat bY).cells.toArray 270 (0,0)⟩::fN fR (a6++List.replicate (t.n-i) bY)::M0) (by
   have:=BI [(⟨b9,.cells (a6.getD d.ax[k].toNat bY).cells.toArray 270 (0,0)⟩:aD),fN fR (a6++List.replicate (t.n-i) bY)] (cJ.aq 270) M0;exact this) (by simp only[maxLen];omega) (by show(cJ.n+1)*3<=_;omega) ?_
  intro ba gJ BV iO n3 qD zA;refine bg.mk _ (cK (i:=k) (by omega)) ?_;refine⟨(k+1,⟨some ba,cJ.n+1,gJ,BV⟩,gy++[a6.getD d.ax[k].toNat bY]),⟨⟨by simp only;omega,?_,?_⟩,by simp only;omega⟩,.sub (M1:=[(⟨ba,.cells BV.toArray 270 (0,0)⟩:aD),fN fR (a6++List.replicate (t.n-i) bY)]++M0) (.cons_cons _ (.cons _ (.refl _))) (.perm (List.Perm.swap _ _ _) .refl),F2,.cons rfl (.cons rfl (.cons rfl .nil))⟩;·simp only;rw[Xp];exact W' eN (aU.cS _) iO n3 qD zA
  ·simp only;rw[fZ kO,cP,<-cy];rfl
 have cA:d.aL<=k:=by have:¬ (k:Int)<(d.aL:Int):=dO h;omega
 rw[ft (by omega)]at cy;have auw:gy.length=d.ax.length:=by rw[cy,bF]
 have gU:cJ.n+1<=140737488355328:=by omega
 clear h ae DT;have gW:∀ x:aU,ck ((a6++List.replicate (t.n-i) bY).flatMap aU.cells) (0+i*3) x.cells=((a6++[x])++List.replicate (t.n-(i+1)) bY).flatMap aU.cells:=λx=>by rw[db,PQ _ _ (by simp;omega),ajh a6 t.n i mc aV]
 have hinv:∀ (qE:aX) (wg:List Value),qE.ok 3 wg->((i+1<=t.n/\(a6++[gP d (sG pl bj a6 d)]).length=i+1/\eo pl bj t.ns []=eo pl bj (t.ns.drop (i+1)) (a6++[gP d (sG pl bj a6 d)])/\∃ ks,qE.ok 3 ks)/\t.n-(i+1)<t.n-i):=λqE wg ab=>
  ⟨⟨aV,by simp[mc],Xw,wg,ab⟩,by omega⟩
 by_cases ak:d.k=3
 ·refine aZ.mk (λ_=>?_) (λh=>absurd h (by simp[ak]));obtain⟨q,BW,uZ⟩:=Xv ak;have Hq:sG pl bj a6 d=gy++[bj.getD q bY]:=by rw[sG,<-cy,BW,ak];rfl
  have ff:q<bj.length:=by rw[mZ.n];exact uZ
  obtain⟨g9,DK,fa⟩:=mZ.rd q ff;have rK:bj.getD q bY=bj[q]:=by simp[bz,ff]
  refine bw.aje a5 rfl (by simp) rfl rfl rfl rfl (λw=>G3 w) (l:=pl) (g:=hN) rfl rfl (.inl hm) ?_;rw[BW];refine bf.mk g9 q DK rfl uZ ?_;refine aO.mk _ (fa.sub λx ad=>by simp[ad]) ?_;refine bX.mk λb9 kX uR=>?_;refine bw.append a5 rfl (by simp) (e:=270) rfl rfl rfl cJ eN rfl (m:=1) rfl (b8:=bj[q].cells) (by decide) (c4 (b:=b9) (cs:=bj[q].cells) (k:=0) (n:=3) (T:=270) (.head _) (bJ rfl)) rfl (Mr:=⟨b9,.cells bj[q].cells.toArray 270 (0,0)⟩::fN fR (a6++List.replicate (t.n-i) bY)::M0) (by
   have:=BI [(⟨b9,.cells bj[q].cells.toArray 270 (0,0)⟩:aD),fN fR (a6++List.replicate (t.n-i) bY)] (cJ.aq 270) M0;exact this) (by simp only[maxLen];omega) (by show(cJ.n+1)*3<=_;omega) ?_
  intro ba gJ BV iO n3 qD zA;have mg:=W' (g:=ba) eN (aU.cS bj[q]) iO n3 qD zA;rw[<-Xp,<-rK,<-Hq]at mg;have eW:=aX.Xq (I:=I1) (M:=⟨ba,.cells BV.toArray 270 (0,0)⟩::⟨b9,.cells bj[q].cells.toArray 270 (0,0)⟩::fN fR (a6++List.replicate (t.n-i) bY)::M0) (e:=270) mg (λx ad=>by
   simp only[aX.aq,ek]at ad;subst ad;exact .head _)
  refine cY.draw a5 rfl rfl rfl ?_;obtain⟨dd,cz,s1,s2,cZ,fK,lo,cX,tE,tF,tG,tH⟩:=d;simp only at ak;subst ak;refine eD.mk 3 rfl (by decide) ?_;refine eL.oz _ [] _ perm_nil (wc (d:=⟨3,cz,s1,s2,cZ,fK,lo,cX,tE,tF,tG,tH⟩) eW gU 3 (by decide) rfl (λ_=>Nat.succ_pos _)) (λv I' M' h x ad=>by rw[h.2.2];exact ad) ?_;rintro v dv df -⟨rfl,rfl,rfl⟩;rw[ef];refine bf.mk ⟨fR,0,none⟩ i rfl rfl aV ?_;refine b2.ix [(⟨ba,.cells BV.toArray 270 (0,0)⟩:aD),⟨b9,.cells bj[q].cells.toArray 270 (0,0)⟩] M0 ((a6++List.replicate (t.n-i) bY).flatMap aU.cells) _ rfl (we mc aV _) rfl _ (gW _) ?_;refine bg.mk _ (cK (i:=i) (by omega)) ?_;exact⟨(i+1,_,⟨some ba,cJ.n+1,gJ,BV⟩),hinv _ _ mg,.sub (M1:=[(⟨ba,.cells BV.toArray 270 (0,0)⟩:aD),fN fR _]++M0) (.cons_cons _ (.cons _ (.refl _))) (.perm (List.Perm.swap _ _ _) .refl),j3,.cons rfl (.cons rfl .nil)⟩
 refine aZ.mk (λh=>absurd (dh h) ak) (λ_=>?_);have Hq:sG pl bj a6 d=gy:=by rw[sG,<-cy,eB ak];simp
 rw[Hq]at hinv;have eW:=aX.Xq (I:=I1) (M:=fN fR (a6++List.replicate (t.n-i) bY)::(cJ.aq 270++M0)) (e:=270) eN (λx ad=>by simp[ad]);have ot:6<=d.k->0<cJ.n:=λb5=>by have:=Xs lP tC b5;omega
 have D2:d.k=0\/d.k=1\/d.k=2\/d.k=4\/d.k=5\/d.k=6\/d.k=7\/d.k=8\/d.k=9:=by omega
 obtain⟨dd,cz,s1,s2,cZ,fK,lo,cX,tE,tF,tG,tH⟩:=d;simp only at D2 ot ak;refine cY.draw a5 rfl rfl rfl ?_;rcases D2 with rfl | rfl | rfl | rfl | rfl | rfl | rfl | rfl | rfl
 ·refine eD.mk 0 rfl (by decide) ?_;refine eL.oz _ [] _ perm_nil (wc (d:=⟨0,cz,s1,s2,cZ,fK,lo,cX,tE,tF,tG,tH⟩) eW (xK gU) 0 (by decide) rfl (λh=>by omega)) (λv I' M' h x ad=>by rw[h.2.2];exact ad) ?_;rintro v dv df -⟨rfl,rfl,rfl⟩;rw[ef];refine bf.mk ⟨fR,0,none⟩ i rfl rfl aV ?_;refine b2.ix [] (cJ.aq 270++M0) ((a6++List.replicate (t.n-i) bY).flatMap aU.cells) _ rfl (we mc aV _) rfl _ (gW _) ?_;refine bg.mk _ (cK (i:=i) (by omega)) ?_;exact⟨(i+1,_,cJ),hinv _ _ eN,.refl,j3,.cons rfl (.cons rfl .nil)⟩
 ·refine eD.mk 1 rfl (by decide) ?_;refine eL.oz _ [] _ perm_nil (wc (d:=⟨1,cz,s1,s2,cZ,fK,lo,cX,tE,tF,tG,tH⟩) eW (xK gU) 1 (by decide) rfl (λh=>by omega)) (λv I' M' h x ad=>by rw[h.2.2];exact ad) ?_;rintro v dv df -⟨rfl,rfl,rfl⟩;rw[ef];refine bf.mk ⟨fR,0,none⟩ i rfl rfl aV ?_;refine b2.ix [] (cJ.aq 270++M0) ((a6++List.replicate (t.n-i) bY).flatMap aU.cells) _ rfl (we mc aV _) rfl _ (gW _) ?_;refine bg.mk _ (cK (i:=i) (by omega)) ?_;exact⟨(i+1,_,cJ),hinv _ _ eN,.refl,j3,.cons rfl (.cons rfl .nil)⟩
 ·refine eD.mk 2 rfl (by decide) ?_;refine eL.oz _ [] _ perm_nil (wc (d:=⟨2,cz,s1,s2,cZ,fK,lo,cX,tE,tF,tG,tH⟩) eW (xK gU) 2 (by decide) rfl (λh=>by omega)) (λv I' M' h x ad=>by rw[h.2.2];exact ad) ?_;rintro v dv df -⟨rfl,rfl,rfl⟩;rw[ef];refine bf.mk ⟨fR,0,none⟩ i rfl rfl aV ?_;refine b2.ix [] (cJ.aq 270++M0) ((a6++List.replicate (t.n-i) bY).flatMap aU.cells) _ rfl (we mc aV _) rfl _ (gW _) ?_;refine bg.mk _ (cK (i:=i) (by omega)) ?_;exact⟨(i+1,_,cJ),hinv _ _ eN,.refl,j3,.cons rfl (.cons rfl .nil)⟩
 ·refine eD.mk 4 rfl (by decide) ?_;refine eL.oz _ [] _ perm_nil (wc (d:=⟨4,cz,s1,s2,cZ,fK,lo,cX,tE,tF,tG,tH⟩) eW (xK gU) 4 (by decide) rfl (λh=>by omega)) (λv I' M' h x ad=>by rw[h.2.2];exact ad) ?_;rintro v dv df -⟨rfl,rfl,rfl⟩;rw[ef];refine bf.mk ⟨fR,0,none⟩ i rfl rfl aV ?_;refine b2.ix [] (cJ.aq 270++M0) ((a6++List.replicate (t.n-i) bY).flatMap aU.cells) _ rfl (we mc aV _) rfl _ (gW _) ?_;refine bg.mk _ (cK (i:=i) (by omega)) ?_;exact⟨(i+1,_,cJ),hinv _ _ eN,.refl,j3,.cons rfl (.cons rfl .nil)⟩
 ·refine eD.mk 5 rfl (by decide) ?_;refine eL.oz _ [] _ perm_nil (wc (d:=⟨5,cz,s1,s2,cZ,fK,lo,cX,tE,tF,tG,tH⟩) eW (xK gU) 5 (by decide) rfl (λh=>by omega)) (λv I' M' h x ad=>by rw[h.2.2];exact ad) ?_;rintro v dv df -⟨rfl,rfl,rfl⟩;rw[ef];refine bf.mk ⟨fR,0,none⟩ i rfl rfl aV ?_;refine b2.ix [] (cJ.aq 270++M0) ((a6++List.replicate (t.n-i) bY).flatMap aU.cells) _ rfl (we mc aV _) rfl _ (gW _) ?_;refine bg.mk _ (cK (i:=i) (by omega)) ?_;exact⟨(i+1,_,cJ),hinv _ _ eN,.refl,j3,.cons rfl (.cons rfl .nil)⟩
 ·refine eD.mk 6 rfl (by decide) ?_;refine eL.oz _ [] _ perm_nil (wc (d:=⟨6,cz,s1,s2,cZ,fK,lo,cX,tE,tF,tG,tH⟩) eW (xK gU) 6 (by decide) rfl (λ_=>ot (by decide))) (λv I' M' h x ad=>by rw[h.2.2];exact ad) ?_;rintro v dv df -⟨rfl,rfl,rfl⟩;rw[ef];refine bf.mk ⟨fR,0,none⟩ i rfl rfl aV ?_;refine b2.ix [] (cJ.aq 270++M0) ((a6++List.replicate (t.n-i) bY).flatMap aU.cells) _ rfl (we mc aV _) rfl _ (gW _) ?_;refine bg.mk _ (cK (i:=i) (by omega)) ?_;exact⟨(i+1,_,cJ),hinv _ _ eN,.refl,j3,.cons rfl (.cons rfl .nil)⟩
 ·refine eD.mk 7 rfl (by decide) ?_;refine eL.oz _ [] _ perm_nil (wc (d:=⟨7,cz,s1,s2,cZ,fK,lo,cX,tE,tF,tG,tH⟩) eW (xK gU) 7 (by decide) rfl (λ_=>ot (by decide))) (λv I' M' h x ad=>by rw[h.2.2];exact ad) ?_;rintro v dv df -⟨rfl,rfl,rfl⟩;rw[ef];refine bf.mk ⟨fR,0,none⟩ i rfl rfl aV ?_;refine b2.ix [] (cJ.aq 270++M0) ((a6++List.replicate (t.n-i) bY).flatMap aU.cells) _ rfl (we mc aV _) rfl _ (gW _) ?_;refine bg.mk _ (cK (i:=i) (by omega)) ?_;exact⟨(i+1,_,cJ),hinv _ _ eN,.refl,j3,.cons rfl (.cons rfl .nil)⟩
 ·refine eD.mk 8 rfl (by decide) ?_;refine eL.oz _ [] _ perm_nil (wc (d:=⟨8,cz,s1,s2,cZ,fK,lo,cX,tE,tF,tG,tH⟩) eW (xK gU) 8 (by decide) rfl (λ_=>ot (by decide))) (λv I' M' h x ad=>by rw[h.2.2];exact ad) ?_;rintro v dv df -⟨rfl,rfl,rfl⟩;rw[ef];refine bf.mk ⟨fR,0,none⟩ i rfl rfl aV ?_;refine b2.ix [] (cJ.aq 270++M0) ((a6++List.replicate (t.n-i) bY).flatMap aU.cells) _ rfl (we mc aV _) rfl _ (gW _) ?_;refine bg.mk _ (cK (i:=i) (by omega)) ?_;exact⟨(i+1,_,cJ),hinv _ _ eN,.refl,j3,.cons rfl (.cons rfl .nil)⟩
 ·refine eD.mk 9 rfl (by decide) ?_;refine eL.oz _ [] _ perm_nil (wc (d:=⟨9,cz,s1,s2,cZ,fK,lo,cX,tE,tF,tG,tH⟩) eW (xK gU) 9 (by decide) rfl (λ_=>ot (by decide))) (λv I' M' h x ad=>by rw[h.2.2];exact ad) ?_;rintro v dv df -⟨rfl,rfl,rfl⟩;rw[ef];refine bf.mk ⟨fR,0,none⟩ i rfl rfl aV ?_;refine b2.ix [] (cJ.aq 270++M0) ((a6++List.replicate (t.n-i) bY).flatMap aU.cells) _ rfl (we mc aV _) rfl _ (gW _) ?_;refine bg.mk _ (cK (i:=i) (by omega)) ?_;exact⟨(i+1,_,cJ),hinv _ _ eN,.refl,j3,.cons rfl (.cons rfl .nil)⟩
structure aU.le(a b:aU):Prop where
 z:a.z=true->b.z=true
 s:a.s=true->b.s=true
 f:a.f=true->b.f=true
def aU.le_refl(a:aU):a.le a:=⟨id,id,id⟩
def aU.le.trans{a b c:aU}(h:a.le b)(bd:b.le c):a.le c:=⟨λx=>bd.z (h.z x),λx=>bd.s (h.s x),λx=>bd.f (h.f x)⟩
def aU.le.antisymm{a b:aU}(h:a.le b)(bd:b.le a):a=b:=by
 obtain⟨cL,dW,ei⟩:=a;obtain⟨b1,b0,cD⟩:=b;have e:∀ {x y:Bool},(x=true->y=true)->(y=true->x=true)->x=y:=fun {x y} h bd=>by cases x<;>cases y<;>simp_all
 have aG:cL=b1:=e h.z bd.z;have a7:dW=b0:=e h.s bd.s;have cr:ei=cD:=e h.f bd.f;subst aG a7 cr;rfl
def aU.qF(a:aU):bY.le a:=⟨(λh=>by cases h),(λh=>by cases h),(λh=>by cases h)⟩
def aU.PS{a b:aU}(h:a.le b):a.kC=true->b.kC=true:=by intro ar;simp only[aU.kC,kQ]at ar |-;exact ar.imp h.z h.s
inductive ew:List aU->List aU->Prop
 |nil:ew [] []| cons {a b l m} (h:aU.le a b) (t:ew l m):ew (a::l) (b::m)
def ew.refl:∀ l,ew l l
 |[]=>.nil| a::l=>.cons a.le_refl (ew.refl l)
def ew.trans:∀ {a b c},ew a b->ew b c->ew a c
 |_,_,_,.nil,.nil=>.nil| _,_,_,.cons h t,.cons bd bm=>.cons (h.trans bd) (t.trans bm)
def ew.antisymm:∀ {a b},ew a b->ew b a->a=b
 |_,_,.nil,_=>rfl| _,_,.cons h t,.cons bd bm=>by rw[h.antisymm bd,t.antisymm bm]
def ew.len:∀ {a b},ew a b->a.length=b.length
 |_,_,.nil=>rfl| _,_,.cons h t=>by simp[t.len]
def ew.append:∀ {a b c d},ew a b->ew c d->ew (a++c) (b++d)
 |_,_,_,_,.nil,h=>h| _,_,_,_,.cons h t,bd=>.cons h (t.append bd)
def ew.getD:∀ {a b},ew a b->∀ i,(a.getD i bY).le (b.getD i bY)
 |_,_,.nil,i=>by simp;exact aU.le_refl _
 |_,_,.cons h t,0=>h| _,_,.cons h t,i+1=>by simpa using t.getD i
def ew.of:∀ {a b:List aU},a.length=b.length->(∀ i,i<a.length->(a.getD i bY).le (b.getD i bY))->ew a b
 |[],[],_,_=>.nil| x::a,y::b,ay,h=>.cons (by simpa using h 0 (by simp)) (ew.of (by simpa using ay) λi hi=>by simpa using h (i+1) (by simpa using hi))
def ew.map{α:Type}{f g:α->aU}:∀ {l:List α},(∀ x∈l,(f x).le (g x))->ew (l.map f) (l.map g)
 |[],_=>.nil| x::l,h=>.cons (h x (.head _)) (ew.map λy aE=>h y (.tail _ aE))
def ew.head{a b:List aU}(h:ew a b):(a.headD bY).le (b.headD bY):=by
 cases h with
 |nil=>exact aU.le_refl _| cons h _=>exact h
def ew.qF:∀ l:List aU,ew (List.replicate l.length bY) l
 |[]=>.nil| a::l=>.cons a.qF (ew.qF l)
def Xx:∀ {a b:List aU},ew a b->∀ {x y:aU×Bool},x.1.le y.1->(x.2=true->y.2=true)->(a.foldl k2 x).1.le (b.foldl k2 y).1/\((a.foldl k2 x).2=true->(b.foldl k2 y).2=true)
 |_,_,.nil,_,_,aa,ab=>⟨aa,ab⟩
 |_,_,.cons h t,x,y,aa,ab=>by
  refine Xx t ⟨?_,?_,?_⟩ ?_;·simp only[k2,cB];exact λg=>⟨aa.z g.1,h.z g.2⟩
  ·simp only[k2,kQ];exact λg=>g.imp aa.s h.s
  ·simp only[k2,kQ,cB];exact λg=>g.imp aa.f λg=>⟨ab g.1,h.f g.2⟩
  ·simp only[k2,cB];exact λg=>⟨ab g.1,aU.PS h g.2⟩
def Xy:∀ {a b:List aU},ew a b->∀ {x y:aU},x.le y->(a.foldl oW x).le (b.foldl oW y)
 |_,_,.nil,_,_,aa=>aa
 |_,_,.cons h t,x,y,aa=>by
  refine Xy t ⟨?_,?_,?_⟩;·simp only[oW,kQ,cB];exact λg=>g.imp aa.z λg=>⟨aa.f g.1,h.z g.2⟩
  ·simp only[oW,kQ,cB];exact λg=>g.imp aa.s λg=>⟨aa.f g.1,h.s g.2⟩
  ·simp only[oW,cB];exact λg=>⟨aa.f g.1,h.f g.2⟩
def aji(d:an){a b:aU}(h:a.le b):(xR d a).le (xR d b):=by
 unfold xR;cases decide (d.hi=0)with
 |true=>exact aU.le_refl _
 |false=>
  refine⟨?_,h.s,?_⟩;·simp only[b',kQ,cB];exact λg=>g.imp h.z λg=>⟨g.1,h.f g.2⟩
  ·simp only[b',cB];exact λg=>⟨g.1,h.f g.2⟩
def ajj(d:an){a b:List aU}(h:ew a b):(gP d a).le (gP d b):=by
 have cv:=h.head;unfold gP;cases decide (d.k=0)with
 |true=>exact aU.le_refl _| false=>
 cases decide (d.k=1)with
 |true=>exact aU.le_refl _| false=>
 cases decide (d.k=2)with
 |true=>exact aU.le_refl _| false=>
 cases decide (d.k=3)with
 |true=>exact cv| false=>
 cases decide (d.k=4)with
 |true=>have ar:=Xx h (x:=(⟨true,false,false⟩,true)) (y:=(⟨true,false,false⟩,true)) (aU.le_refl _) id;refine⟨ar.1.z,?_,ar.1.f⟩;simp only[ca,b',hA,hz,cB];exact λg=>⟨ar.1.s g.1,ar.2 g.2⟩
 |false=>
 cases decide (d.k=5)with
 |true=>exact Xy h (aU.le_refl _)| false=>
 cases decide (d.k=6)with
 |true=>exact aji d cv| false=>
 cases decide (d.k=7)with
 |true=>exact⟨aU.PS cv,id,cv.f⟩| false=>
 cases decide (d.k=8)with
 |true=>exact⟨cv.f,id,aU.PS cv⟩| false=>exact cv
def ajk{bj zF a6 Hr:List aU}(h:ew bj zF)(a2:ew a6 Hr)(d:an):ew (sG pl bj a6 d) (sG pl zF Hr d):=by
 unfold sG;refine(ew.map λk _=>a2.getD _).append ?_;cases decide (d.k=3)with
 |true=>exact .cons (h.getD _) .nil| false=>exact .nil
def Xz{pl:List (ByteArray×Int)}{bj zF:List aU}(h:ew bj zF):∀ (ds:List an) {a6 Hr:List aU},ew a6 Hr->ew (eo pl bj ds a6) (eo pl zF ds Hr)
 |[],_,_,a2=>a2| d::ds,_,_,a2=>Xz h ds (a2.append (.cons (ajj d (ajk h a2 d)) .nil))
def ie(pl:List (ByteArray×Int))(bj:List aU)(d:aQ):aU:=(eo pl bj d.t.ns []).getD d.t.bA.toNat bY
def Hs{bj zF:List aU}(h:ew bj zF)(d:aQ):(ie pl bj d).le (ie pl zF d):=(Xz h d.t.ns .nil).getD _
def nG(pl:List (ByteArray×Int)):Nat->List aQ->List aU->List aU
 |_,[],l=>l| i,d::ds,l=>nG pl (i+1) ds (l.set i (ie pl l d))
structure oX(ds:List aQ)(l:List aU):Prop where
 len:l.length=ds.length
 up:∀ i (h:i<ds.length),(l.getD i bY).le (ie (bD ds) l ds[i])
 least:∀ m:List aU,m.length=ds.length->(∀ i (h:i<ds.length),(ie (bD ds) m ds[i]).le (m.getD i bY))->ew l m
def Ht(l:List aU)(i j:Nat)(x:aU)(hi:i<l.length):(l.set i x).getD j bY=if i=j then x else l.getD j bY:=by
 simp only[bz,ia];by_cases e:i=j
 ·subst e;simp[hi]
 ·rw[bU e,bU e]
def oX.start(ds:List aQ):oX ds (List.replicate ds.length bY):=by
 refine⟨by simp,λi h=>?_,λm hm _=>by rw[<-hm];exact ew.qF m⟩;have:(List.replicate ds.length bY).getD i bY=bY:=by simp[bz,h]
 rw[this];exact aU.qF _
def oX.step{ds:List aQ}{l:List aU}(h:oX ds l){i:Nat}(hi:i<ds.length):oX ds (l.set i (ie (bD ds) l ds[i]))/\ew l (l.set i (ie (bD ds) l ds[i])):=by
 have dI:i<l.length:=by rw[h.len];exact hi
 have bp:ew l (l.set i (ie (bD ds) l ds[i])):=ew.of (by simp) λj ai=>by
  rw[Ht _ _ _ _ dI];by_cases e:i=j;·subst e;rw[bQ rfl];exact h.up i hi
  ·rw[bU e];exact aU.le_refl _
 refine⟨⟨by simpa using h.len,λj ai=>?_,λm hm ap=>?_⟩,bp⟩
 ·rw[Ht _ _ _ _ dI];by_cases e:i=j
  ·subst e;rw[bQ rfl];exact Hs bp _
  ·rw[bU e];exact(h.up j ai).trans (Hs bp _)
 ·have XA:=h.least m hm ap;refine ew.of (by simp[h.len,hm]) λj ai=>?_;rw[Ht _ _ _ _ dI];by_cases e:i=j
  ·subst e;rw[bQ rfl];exact(Hs XA _).trans (ap i hi)
  ·rw[bU e];exact XA.getD j
def PT{ds:List aQ}:∀ (bi a9:List aQ) {l:List aU},ds=a9++bi->oX ds l->oX ds (nG (bD ds) a9.length bi l)/\ew l (nG (bD ds) a9.length bi l) /\ (nG (bD ds) a9.length bi l=l->∀ i (h:i<ds.length),a9.length<=i->l.getD i bY=ie (bD ds) l ds[i])
 |[],a9,l,gi,h=>⟨h,ew.refl l,λ_ i hi cA=>by rw[gi,ef]at hi;omega⟩
 |d::bi,a9,l,gi,h=>by
  have hi:a9.length<ds.length:=by rw[gi];simp
  have aj:ds[a9.length]=d:=by simp[gi]
  have dI:a9.length<l.length:=by rw[h.len];exact hi
  obtain⟨s1,s2⟩:=h.step hi;rw[aj]at s1 s2;obtain⟨iO,n3,qD⟩:=PT bi (a9++[d]) (by rw[gi];simp) s1;rw[cm,dx,fL,db]at iO n3 qD;refine⟨iO,s2.trans n3,λe i iJ cA=>?_⟩;have aG:l.set a9.length (ie (bD ds) l d)=l:=by refine ew.antisymm ?_ s2;have:nG (bD ds) a9.length (d::bi) l=nG (bD ds) (a9.length+1) bi (l.set a9.length (ie (bD ds) l d)):=rfl;rw[this]at e;rw[e]at n3;exact n3
  have a7:nG (bD ds) (a9.length+1) bi l=l:=by have:nG (bD ds) a9.length (d::bi) l=nG (bD ds) (a9.length+1) bi (l.set a9.length (ie (bD ds) l d)):=rfl;rw[this,aG]at e;exact e
  rw[aG]at qD;by_cases aC:i=a9.length;·subst aC;have aJ:=Ht l a9.length a9.length (ie (bD ds) l d) dI;rw[aG,bQ rfl]at aJ;rw[aJ,aj]
  ·exact qD a7 i iJ (by omega)
structure jM(ds:List aQ)(l:List aU):Prop where
 len:l.length=ds.length
 fix:∀ i (h:i<ds.length),l.getD i bY=ie (bD ds) l ds[i]
 least:∀ m:List aU,m.length=ds.length->(∀ i (h:i<ds.length),(ie (bD ds) m ds[i]).le (m.getD i bY))->ew l m
def oX.done{ds:List aQ}{l:List aU}(h:oX ds l)(aA:nG (bD ds) 0 ds l=l):jM ds l:=
 ⟨h.len,λi hi=>(PT ds [] rfl h).2.2 aA i hi (dz _),h.least⟩
def jM.unique{ds:List aQ}{l dL:List aU}(h:jM ds l)(bd:jM ds dL):l=dL:=
 ew.antisymm (h.least dL bd.len λi hi=>by rw[<-bd.fix i hi];exact aU.le_refl _) (bd.least l h.len λi hi=>by rw[<-h.fix i hi];exact aU.le_refl _)
def D4(x:aU):Nat:=(bif x.z then 0 else 1)+((bif x.s then 0 else 1)+(bif x.f then 0 else 1))
def zG(l:List aU):Nat:=(l.map D4).sum
def ajl{a b:aU}(h:a.le b):D4 b<=D4 a/\(D4 a<=D4 b->a=b):=by
 obtain⟨cL,dW,ei⟩:=a;obtain⟨b1,b0,cD⟩:=b;obtain⟨aa,ab,ak⟩:=h;cases cL<;>cases b1<;>cases dW<;>cases b0<;>cases ei<;>cases cD<;>simp_all[D4]
def XB:∀ {l m:List aU},ew l m->zG m<=zG l/\(zG l<=zG m->l=m)
 |_,_,.nil=>⟨cc _,λ_=>rfl⟩| _,_,.cons h t=>by obtain⟨aa,ab⟩:=ajl h;obtain⟨t1,t2⟩:=XB t;simp only[zG,cb,jK]at t1 t2 |-;refine⟨by omega,λh=>?_⟩;rw[ab (by omega),t2 (by omega)]
def ajm{l m:List aU}(h:ew l m)(bn:m≠l):zG m<zG l:=by obtain⟨aa,ab⟩:=XB h;apply Nat.lt_of_le_of_ne aa;intro e;exact bn (ab (by omega)).symm
def xS(nm:ByteArray):List aQ->Nat->Option Int
 |[],_=>none| d::ds,i=>bif decide (nm=d.name)then some (i:Int)else xS nm ds (i+1)
def XC(s n:ByteArray)(v:Int):∀ l:List (ByteArray×Int),ev s (l++[(n,v)])=match ev s l with
  |some x=>some x| none=>bif decide (s=n)then some v else none
 |[]=>rfl
 |p::l=>by
  have aN:=XC s n v l;simp only[mU,ev];cases decide (s=p.1)with
  |true=>rfl| false=>simpa using aN
def XD:∀ (ds:List aQ) (a6:List (ByteArray×Int)) (i:Nat) (nm:ByteArray),ev nm (n4 a6 i ds)=match ev nm a6 with
  |some x=>some x| none=>xS nm ds i
 |[],a6,i,nm=>by rw[n4,xS];cases ev nm a6<;>rfl
 |d::ds,a6,i,nm=>by
  rw[n4,XD ds,xS];cases aj:(ev d.name a6).isSome with
  |true=>
   simp only[ca];cases ay:ev nm a6 with
   |some x=>rfl
   |none=>
    have:decide (nm=d.name)=false:=by rw[sb];intro e;rw[<-e,ay]at aj;cases aj
    rw[this];rfl
  |false=>
   simp only[b',XC];cases ay:ev nm a6 with
   |some x=>rfl| none=>cases decide (nm=d.name)<;>rfl
def PU(ds:List aQ)(nm:ByteArray):ev nm (bD ds)=xS nm ds 0:=XD ds [] 0 nm
def PV:∀ {ds:List aQ} {i:Nat} {nm:ByteArray} {v:Int},xS nm ds i=some v->∃ j:Nat,v=((i+j:Nat):Int)/\j<ds.length
 |d::ds,i,nm,v,h=>by
  unfold xS at h;cases aj:decide (nm=d.name)with
  |true=>rw[aj]at h;simp only[ca,kk]at h;exact⟨0,by rw[<-h];rfl,by simp⟩| false=>rw[aj]at h;obtain⟨j,aa,ab⟩:=PV h;exact⟨j+1,by rw[aa];congr 1;omega,by simpa using ab⟩
def wi(pl:List (ByteArray×Int))(ns:List an):Bool:=ns.all λd=>!decide (d.k=3)||(ev d.t pl).isSome
def XE{ds:List aQ}{ns:List an}(h:wi (bD ds) ns=true):Xr (bD ds) ds.length ns:=by intro d aj ae;have:=fx.1 h d aj;simp only[ae,Ks,uu,ur]at this;obtain⟨v,ah⟩:=Option.isSome_iff_exists.1 this;have jZ:=ah;rw[PU]at jZ;obtain⟨j,aa,ab⟩:=PV jZ;rw[db]at aa;exact⟨j,by rw[ah,aa],ab⟩
def XF:∀ (ds:List aQ) {a6 r:List (ByteArray×Int)} {i:Nat},lS a6 i ds=some r->n4 a6 i ds=r
 |[],a6,r,i,h=>by simp only[lS,kk]at h;exact h
 |d::ds,a6,r,i,h=>by
  unfold lS at h;cases aj:(ev d.name a6).isSome with
  |true=>rw[aj]at h;cases h| false=>rw[aj]at h;rw[n4,aj];exact XF ds h
def ajn{d:aQ}{cd:an}(aB:cd∈d.t.ns):∀ (ds:List aQ) (i:Nat),d∈ds->∃ j,(j,cd)∈qz i ds:=by
 intro ds
 induction ds with
 |nil=>intro i aj;cases aj
 |cons x ds aN=>
  intro i aj;rcases ee.1 aj with e | aj;·subst e;exact⟨i,cE.2 (.inl (cC.2 ⟨cd,aB,rfl⟩))⟩
  ·obtain⟨j,ai⟩:=aN (i+1) aj;exact⟨j,cE.2 (.inr ai)⟩
def ajo(h:dm aw g=0):∀ d∈g.ds,wi (bD g.ds) d.t.ns=true:=by
 unfold dm at h;cases aa:decide ((g.n:Int)=0)with
 |true=>rw[aa]at h;cases h| false=>
 cases ab:nF g.ds with
 |false=>rw[aa,ab]at h;cases h| true=>
 cases ak:oN aw g with
 |true=>rw[aa,ab,ak]at h;cases h| false=>
 rw[aa,ab,ak]at h;simp only[b',uu]at h;split at h
 ·cases h
 ·rename_i a6 mc;have aC:bD g.ds=a6:=XF g.ds mc;cases aJ:rF a6 g.ds with
  |false=>rw[aJ]at h;cases h| true=>intro d aj;rw[aC,wi,fx];intro cd bI;obtain⟨j,ai⟩:=ajn bI g.ds 0 aj;exact fx.1 aJ _ ai
def ajp(h:dm aw g=0):nF g.ds=true:=by
 unfold dm at h;cases aa:decide ((g.n:Int)=0)with
 |true=>rw[aa]at h;cases h| false=>
 cases ab:nF g.ds with
 |false=>rw[aa,ab]at h;cases h| true=>rfl
end Go.V
