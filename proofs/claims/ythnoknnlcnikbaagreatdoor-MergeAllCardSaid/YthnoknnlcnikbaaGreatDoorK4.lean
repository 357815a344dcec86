/- Part 4 of what the proofs of this seat share: the executor, data in memory, walks.
-/
import Derived.Test.YthnoknnlcnikbaaGreatDoorK3
import Derived.ChangeSame
import Derived.ChangeArms
import Derived.OpenShut
import Derived.Deep.DeepHandedRow
import Derived.Lib.LaidTab
import Derived.Test.YthnoknnlcnikbaaGreatDoorRows
import Derived.Test.YthnoknnlcnikbaaGreatDoorCards
import Derived.Test.YthnoknnlcnikbaaGreatDoorTie
import Derived.WalkKit
import Derived.ProofKit
import Derived.WideKeyArgs
import Derived.Below
import Derived.JoinedOf
import Derived.Test.YthnoknnlcnikbaaGreatDoorK2
import Derived.Laws.IdiomStrings
set_option linter.all false
set_option maxHeartbeats 16000000
set_option maxRecDepth 100000
namespace Go.V
open Go Go.Proofs
def dv:=@of_decide_eq_false
def eX:=@Option.some.inj
def hO:=@List.getElem_of_mem
def hl:=@List.mem_flatMap
def gu:=@List.map_map
def nQ:=@List.flatMap_singleton
def qG:=@List.singleton_append
def na:=@List.perm_middle
def rN:=@List.pairwise_append
def yg:=@List.perm_append_comm_assoc
def yh:=@List.getElem_append_left
def mC:=@Nat.sub_self
def tL:=@List.foldl_append
def rO:=@List.length_set
def Cs:=@List.getElem_append_right
def wE:=@List.getElem_range
def yi:=@List.length_flatMap
def yj:=@List.reverse_append
def nR:=@Nat.ble_eq
def Ct:=@List.set_append_right
def yk:=@Nat.le_of_succ_le
def yl:=@List.flatMap_map
def Ez:=@List.pairwise_flatMap
def Cu:=@List.set_cons_zero
def Cv:=@List.pairwise_map
def Cw:=@BitVec.getLsbD_or
def Lu:=@List.idxOf_lt_length_of_mem
def ym:=@Prod.mk.injEq
def EA:=@BitVec.toNat_ofNat
def EB:=@List.filter_append
def EC:=@Nat.mod_eq_of_lt
def Ab:=@Nat.sub_zero
def ED:=@List.range_succ
def Qa:=@List.pairwise_iff_getElem
def HO:=@List.take_append
def Qb:=@List.eq_of_mem_replicate
def Lv:=@List.getElem_idxOf
def Qc:=@BitVec.eq_of_getLsbD_eq
def HP:=@List.foldl_nil
def Qd:=@List.replicate_succ
def Qe:=@BitVec.getLsbD_and
def XZ:=@List.getLast?_eq_getElem?
def Qf:=@DataW.trod_string
def Qg:=@List.flatten_cons
def Qh:=@List.getElem_take
def Qi:=@DataW.trod_array
def Lw:=@List.all_map
def Lx:=@Bool.or_true
def Ly:=@decide_true
variable{I I':aH}{M M0:List aE}{e size sz fc h1 ln lc src dst:Nat}{az:List Int}{g:cU}{os:aR}{xs vs cs:List Value}{P:Program}{f z:Bool}{W k0:World}{v:Value}{cV:Array Field}{rows:List (List Value)}{α:Type}{t bn:bk}{y:Operand}{other:Prop}{db aF tC HQ:ea}{pl:List (ByteArray×Int)}{la:Option Addr}{ns:List al}
def qH:Nat->List a3->List (Nat×al)
 |_,[]=>[]| i,d::ds=>d.t.ns.map (λn=>(i,n))++qH (i+1) ds
def HR:∀ (ds:List a3) (i:Nat),tK i ds=(qH i ds).map λp=>[.int .i64 p.1,p.2.val]
 |[],i=>rfl| d::ds,i=>by simp only[tK,qH,cM,gu,HR ds (i+1)];rfl
def oa(ds:List a3):Bool:=ds.all λd=>nG d.name&&normal d.t
def l7:List (ByteArray×Int)->Nat->List a3->Option (List (ByteArray×Int))
 |a2,_,[]=>some a2| a2,i,d::ds=>bif (eW d.name a2).isSome then none else l7 (a2++[(d.name,(i:Int))]) (i+1) ds
def Ac(a2:List (ByteArray×Int))(n:al):Bool:=!decide (n.k=3)||(eW n.t a2).isSome
def rP(a2:List (ByteArray×Int))(ds:List a3):Bool:=(qH 0 ds).all λp=>Ac a2 p.2
def c6(az:List Int)(g:cU):Int:=
 bif decide ((g.n:Int)=0)then 4 else bif !oa g.ds then 4 else bif pV az g then 40 else
 match l7 [] 0 g.ds with
 |none=>6| some a2=>bif rP a2 g.ds then 0 else 41
def vc(b:Nat)(e:Int):aE:=⟨b,.cells #[.int .i64 e] 32 (0,0)⟩
def Cx{b:Nat}{e:Int}(h:vc b e∈M):cR I M ⟨b,0,none⟩ 1 [.int .i64 e]:=
 ⟨rfl,_,_,_,.inr ⟨_,h,rfl,rfl⟩,rfl,rfl⟩
def HS(w:World):(zeroValue 3).run Tryz.prog w=.ok (.int .i64 0) w:=by
 have h:(Tryz.prog.info? 3).map (λi=>i.zero)=some (some (.int .i64 0)):=by kernel_rfl
 obtain⟨i,aa,ad⟩:=tb.1 h;simp[zeroValue,typeInfo,aa,ad]
def Lz(be:e2 I az)(aw:g.ok I):Spec Tryz.prog 60 [g.val] I [] (λv I' M'=>v=.int .i64 (c6 az g)/\(∀ b o,I b=some o->I' b=some o)/\M'=[]):=by
 refine bV [2,5] aY Tryz.func60 rfl rfl rfl ?_;intro B ay;have iG:=aw.n;have hA:=aw.a'.cap;refine bW.mk λb8 iQ Qj=>?_;refine aX.mk (λaa=>?_) (λaa=>?_)
 ·refine ck.mk [] [] _ _ rfl rfl (bK rfl) rfl ?_;refine aO.mk _ (Cx (b:=b8) (e:=4) (.head _)) ?_;refine⟨_,_,.sub (gd _) .refl,?_,λ_ _ h=>h,rfl⟩;rw[c6,aa];rfl
 ·have ms:g.n≠0:=by simp at aa;omega
  refine dt.inv (ι:=Nat) (λi=>{ bo:=[(1,.ref 1 0),(2,.val (ptr b8)),(19,.val (.slice g.a g.n g.c)),(20,.val (.int .i64 g.n)),(21,.val (.int .i64 i))],cl:=[(1,[.slice g.a g.n g.c])],cH:=I,dd:=[vc b8 0] }) (λi=>i<=g.n/\oa (g.ds.take i)=true) (λi=>g.n-i) ?_ ?_;·exact⟨0,⟨by simp,rfl⟩,.refl,hx,.cons rfl .nil⟩
  ·rintro i⟨hi,eO⟩;refine aX.mk (λh=>?_) (λh=>?_)
   ·have aZ:i<g.n:=by simpa using h
    have cy:i<g.ds.length:=by omega
    obtain⟨aM,bB,bp⟩:=aw.a'.row a3.cL aZ cy;have g9:g.ds[i]∈g.ds:=bJ cy;have bad:(nG g.ds[i].name&&normal g.ds[i].t)=false->c6 az g=4:=λag=>by
     have:oa g.ds=false:=by unfold oa;rw[Lb];exact⟨_,g9,by simp[ag]⟩
     rw[c6,aa,this];rfl
    refine bm.mk aM i bB rfl aZ ?_;refine aO.mk _ (bp _) ?_;refine a8.mk [] [vc b8 0] _ (.refl _) (PB _ g.ds[i].name) ?_;rintro v I' M' -⟨rfl,rfl,rfl⟩;refine bX.mk (λad=>?_) (λad=>?_)
    ·have hm:nG g.ds[i].name=true:=by simpa using ad
     refine a8.mk [] [vc b8 0] _ (.refl _) (aiW be.c (aw.ds _ g9).t) ?_;rintro v I' M' -⟨rfl,rfl,rfl⟩;refine aX.mk (λak=>?_) (λak=>?_)
     ·have eK:normal g.ds[i].t=false:=by simpa using ak
      refine ck.mk [] [] _ _ rfl rfl (bK rfl) rfl ?_;refine aO.mk _ (Cx (b:=b8) (e:=4) (.head _)) ?_;refine⟨_,_,.sub (gd _) .refl,?_,λ_ _ h=>h,rfl⟩;rw[bad (by rw[hm,eK];rfl)];rfl
     ·have eK:normal g.ds[i].t=true:=by simpa using ak
      refine bd.mk _ (c8 (i:=i) (by omega)) ?_;refine⟨i+1,⟨⟨by omega,?_⟩,by omega⟩,.refl,hx,.cons rfl .nil⟩;unfold oa at eO |-;rw[gj cy,Ho,eO];simp[hm,eK]
    ·have hm:nG g.ds[i].name=false:=by simpa using ad
     refine ck.mk [] [] _ _ rfl rfl (bK rfl) rfl ?_;refine aO.mk _ (Cx (b:=b8) (e:=4) (.head _)) ?_;refine⟨_,_,.sub (gd _) .refl,?_,λ_ _ h=>h,rfl⟩;rw[bad (by rw[hm];rfl)];rfl
   ·have c0:g.n<=i:=by simpa using h
    rw[fC (by omega)]at eO;refine a8.mk [] [vc b8 0] _ (.refl _) (aiZ be aw) ?_;rintro v I1 M' -⟨rfl,de,rfl⟩;refine aX.mk (λad=>?_) (λad=>?_);·refine ck.mk [] [] _ _ rfl rfl (bK rfl) rfl ?_;refine aO.mk _ (Cx (b:=b8) (e:=40) (.head _)) ?_;refine⟨_,_,.sub (gd _) .refl,?_,de,rfl⟩;rw[c6,aa,eO,ad];rfl
    ·have Qk:c6 az g=match l7 [] 0 g.ds with
       |none=>6| some a2=>bif rP a2 g.ds then 0 else 41:=by
      rw[c6,aa,eO,ad];rfl
     rw[Qk];have rH:=aw.mono de;refine bD.makeMap aY rfl (by simp) rfl rfl rfl λj1=>?_;refine bW.mk λdU Cy LA=>?_;refine ck.mk [] [⟨j1,jJ []⟩,vc b8 0] _ _ rfl rfl (bK rfl) rfl ?_;refine dt.inv (ι:=Nat×List (ByteArray×Int)) (λx=>{ bo:=[(1,.ref 1 0),(2,.val (ptr b8)),(5,.val (ptr dU)),(43,.val (.slice g.a g.n g.c)),(44,.val (.int .i64 g.n)),(45,.val (.int .i64 x.1))],cl:=[(1,[.slice g.a g.n g.c])],cH:=I1,dd:=[⟨dU,.cells #[.map (some j1)] 155 (0,0)⟩,⟨j1,jJ x.2⟩,vc b8 0] }) (λx=>x.1<=g.n/\l7 [] 0 g.ds=l7 x.2 x.1 (g.ds.drop x.1)) (λx=>g.n-x.1) ?_ ?_;·exact⟨(0,[]),⟨by simp,rfl⟩,.refl,zz,.cons rfl .nil⟩
     ·rintro⟨i,a2⟩⟨hi,n5⟩;simp only at hi n5;refine aX.mk (λh=>?_) (λh=>?_)
      ·have aZ:i<g.n:=by simpa using h
       have cy:i<g.ds.length:=by omega
       obtain⟨aM,bB,bp⟩:=rH.a'.row a3.cL aZ cy;have l2:g.ds.drop i=g.ds[i]::g.ds.drop (i+1):=fg cy;refine bm.mk aM i bB rfl aZ ?_;refine aO.mk _ (bp _) ?_;refine aO.mk [.map (some j1)] ⟨rfl,_,_,_,.inr ⟨_,.head _,rfl,rfl⟩,rfl,rfl⟩ ?_;refine bD.lookup aY rfl (by simp) rfl rfl rfl rfl (λw=>HS w) (l:=a2) (g:=j1) rfl rfl (by simp) ?_;refine aX.mk (λak=>?_) (λak=>?_);·refine ck.mk [⟨dU,.cells #[.map (some j1)] 155 (0,0)⟩,⟨j1,jJ a2⟩] [] _ _ rfl rfl (bK rfl) rfl ?_;refine aO.mk _ (Cx (b:=b8) (e:=6) (.tail _ (.tail _ (.head _)))) ?_;refine⟨_,_,.sub (gd _) .refl,?_,de,rfl⟩;rw[n5,l2,l7,ak];rfl
       ·have ax:eW g.ds[i].name a2=none:=by simpa using ak
        refine aO.mk [.map (some j1)] ⟨rfl,_,_,_,.inr ⟨_,.head _,rfl,rfl⟩,rfl,rfl⟩ ?_;refine bD.XY aY rfl rfl rfl rfl rfl rfl rfl rfl rfl ax (Mr:=[⟨dU,.cells #[.map (some j1)] 155 (0,0)⟩,vc b8 0]) (List.Perm.swap _ _ _) ?_;refine bd.mk _ (c8 (i:=i) (by omega)) ?_;refine⟨(i+1,a2++[(g.ds[i].name,(i:Int))]),⟨⟨by simp only;omega,?_⟩,by simp only;omega⟩,.perm (List.Perm.swap _ _ _) .refl,zz,.cons rfl .nil⟩;simp only;rw[n5,l2,l7,ak];rfl
      ·have avs:g.n<=i:=by simpa using h
       have fl:l7 [] 0 g.ds=some a2:=by rw[n5,lW (by omega),l7]
       rw[fl];refine a8.mk [] [⟨dU,.cells #[.map (some j1)] 155 (0,0)⟩,⟨j1,jJ a2⟩,vc b8 0] _ (.refl _) (ai1 g) ?_;rintro v eA dD -⟨c5,rfl,yn,gq,rfl⟩;have m6:=rH.mono gq;have X0:∀ b o,I b=some o->eA b=some o:=λb o h=>gq _ _ (de _ _ h);refine cT.range aY rfl rfl rfl .refl (ai2 m6 yn) (λvs h=>?_) (λk I' M'=>(∀ b o,eA b=some o->I' b=some o)/\((qH 0 g.ds).take k).all (λp=>Ac a2 p.2)=true/\M'=[⟨dU,.cells #[.map (some j1)] 155 (0,0)⟩,⟨j1,jJ a2⟩,vc b8 0]) (λex I' M'=>ex=.ret/\(∀ b o,eA b=some o->I' b=some o)/\rP a2 g.ds=false/\M'=[⟨dU,.cells #[.map (some j1)] 155 (0,0)⟩,⟨j1,jJ a2⟩,vc b8 41]) ⟨λ_ _ h=>h,rfl,rfl⟩ ?_ ?_ ?_;·rw[HR]at h;obtain⟨p,_,rfl⟩:=cP.1 h;rfl
       ·rintro k ae I' M' -⟨kV,bg,rfl⟩l B ay hg;have yo:k<(qH 0 g.ds).length:=by simpa[HR]using ae
        generalize aJ:(qH 0 g.ds)[k]=p;have aj:(tK 0 g.ds)[k]=[.int .i64 p.1,p.2.val]:=by simp only[HR,fW,aJ]
        rw[aj];have next:Ac a2 p.2=true->((qH 0 g.ds).take (k+1)).all (λp=>Ac a2 p.2)=true:=λh=>by rw[gj yo,Ho,bg,aJ];simp[h]
        refine aX.mk (λak=>?_) (λak=>?_)
        ·refine⟨_,_,.refl,kV,next ?_,rfl⟩;have yp:decide (p.2.k=3)=false:=by simpa using ak
         simp[Ac,yp]
        ·have yp:decide (p.2.k=3)=true:=by simpa using ak
         refine aO.mk [.map (some j1)] ⟨rfl,_,_,_,.inr ⟨_,.head _,rfl,rfl⟩,rfl,rfl⟩ ?_;refine bD.lookup aY rfl (by simp) rfl rfl rfl rfl (λw=>HS w) (l:=a2) (g:=j1) rfl rfl (by simp) ?_;refine aX.mk (λaK=>?_) (λaK=>?_)
         ·refine ck.mk [⟨dU,.cells #[.map (some j1)] 155 (0,0)⟩,⟨j1,jJ a2⟩] [] _ _ rfl rfl (bK rfl) rfl ?_;refine⟨_,_,.refl,rfl,kV,?_,rfl⟩;unfold rP;rw[Lb];have Cz:(eW p.2.t a2).isSome=false:=by simpa using aK
          exact⟨p,by rw[<-aJ];exact bJ yo,by simp[Ac,yp,Cz]⟩
         ·have Cz:(eW p.2.t a2).isSome=true:=by simpa using aK
          exact⟨_,_,.refl,kV,next (by simp[Ac,Cz]),rfl⟩
       ·rintro I' M' -⟨kV,bg,rfl⟩;have Ql:rP a2 g.ds=true:=by unfold rP;rw[fC (by simp[HR])]at bg;exact bg
        refine ck.mk [⟨dU,.cells #[.map (some j1)] 155 (0,0)⟩,⟨j1,jJ a2⟩] [] _ _ rfl rfl (bK rfl) rfl ?_;refine aO.mk _ (Cx (b:=b8) (e:=0) (.tail _ (.tail _ (.head _)))) ?_;refine⟨_,_,.sub (gd _) .refl,?_,λb o h=>kV _ _ (X0 _ _ h),rfl⟩;simp only[Ql];rfl
       ·rintro ex I' M' -⟨rfl,kV,Ql,rfl⟩;refine⟨by simp,?_⟩;refine aO.mk _ (Cx (b:=b8) (e:=41) (.tail _ (.tail _ (.head _)))) ?_;refine⟨_,_,.sub (gd _) .refl,?_,λb o h=>kV _ _ (X0 _ _ h),rfl⟩;simp only[Ql];rfl
structure Ad where
 a:Option Addr
 n:Nat
 c:Nat
 l:List Int
def Ad.val(r:Ad):Value:=.slice r.a r.n r.c
structure Ad.ok(I:aH)(r:Ad):Prop where
 a':cI I r.a r.n r.c 1 8 (r.l.map (.int .i64 ·))
def Ad.ok.n{r:Ad}(h:r.ok I):r.l.length=r.n:=by have:=h.a'.len;simpa using this
structure wF where
 rows:List Ad
 a:Option Addr
 n:Nat
 c:Nat
def wF.val(x:wF):Value:=.slice x.a x.n x.c
structure wF.ok(I:aH)(x:wF):Prop where
 a':cI I x.a x.n x.c 1 24 (x.rows.map Ad.val)
 rows:∀ r∈x.rows,r.ok I
def wF.ok.n{x:wF}(h:x.ok I):x.rows.length=x.n:=by have:=h.a'.len;simpa using this
def aR.LB{b:Nat}(h:os.ok size xs)(ag:os.n*b<=140737488355328)(bA:∀ g,os.a=some g->I g=none)(Mr:List aE) :
  ∃ I',hc [] I (os.ar e++Mr) I' Mr/\(∀ b o,I b=some o->I' b=some o)/\cI I' (os.a.map λg=>⟨g,0,none⟩) os.n os.c size b xs:=by
 obtain⟨a,n,c,aS⟩:=os;cases a with
 |none=>obtain⟨aa,ad⟩:=h.nil rfl;simp only at aa ad;subst aa;subst ad;exact⟨I,.refl,λ_ _ h=>h,h.len,⟨b' _,by simp⟩,.inl rfl⟩
 |some g=>obtain⟨aa,ad,ak,aK⟩:=h.cap g rfl;have aw:=bA g rfl;exact⟨ins I g (.cells aS.toArray e (0,0)),.mP rfl (by simp) .refl,lz aw,h.len,⟨ad,ag⟩,.inr ⟨⟨g,0,none⟩,rfl,rfl,_,_,_,n8 ..,by simpa using aK⟩⟩
def h2:aR:=⟨none,0,0,[]⟩
def k1(size:Nat):h2.ok size []:=⟨by simp[h2],λ_=>⟨rfl,rfl⟩,λg h=>by cases h⟩
def aR.ok.pW{l:List Int}(h:os.ok 1 (l.map (Value.int .i64))):os.n=l.length:=by have:=h.len;simp at this;omega
structure Ae where
 a:Option Addr
 n:Nat
 c:Nat
 l:List Bool
def Ae.val(r:Ae):Value:=.slice r.a r.n r.c
structure Ae.ok(I:aH)(r:Ae):Prop where
 a':cI I r.a r.n r.c 1 1 (r.l.map Value.bool)
def Ae.ok.n{r:Ae}(h:r.ok I):r.l.length=r.n:=by have:=h.a'.len;simpa using this
def valid(n:Nat)(l:List Int):Prop:=∀ k∈l,0<=k/\k<n
inductive Comes(L:List (List Int))(i:Nat):Nat->Prop
 |self:Comes L i i| next {a k:Nat} (h:Comes L i a) (ae:(k:Int)∈L.getD a []):Comes L i k
def X1(R:List (List Bool))(i k:Nat):Bool:=(R.getD i []).getD k false
def Qm(R:List (List Bool))(i k:Nat):Prop:=X1 R i k=true/\X1 R k i=true
def Qm.symm{R:List (List Bool)}{i j:Nat}(h:Qm R i j):Qm R j i:=⟨h.2,h.1⟩
def Comes.trans{L:List (List Int)}{i j k:Nat}(aa:Comes L i j)(ad:Comes L j k):Comes L i k:=by
 induction ad with
 |self=>exact aa| next _ ae aQ=>exact .next aQ ae
structure LC where
 rows:List Ae
 a:Option Addr
 n:Nat
 c:Nat
def LC.val(x:LC):Value:=.slice x.a x.n x.c
structure LC.ok(I:aH)(x:LC):Prop where
 a':cI I x.a x.n x.c 1 24 (x.rows.map Ae.val)
 rows:∀ r∈x.rows,r.ok I
def rQ(W:World):aH:=λb=>W.heap[b]?
def ai5(W:World):eM (rQ W) [] W:=⟨λb o h=>h,(λx ab=>by cases ab),(λx ab=>by cases ab),zp⟩
structure CA(W k0:World):Prop where
 dO:∀ b,b<W.heap.size->k0.heap[b]?=W.heap[b]?
 sz:W.heap.size<=k0.heap.size
 out:oB W k0
def ai6{f:Nat}{args:List Value}{post:Value->aH->List aE->Prop}(h:v7 P f args (rQ W) [] post) :
  Calls P f args.toArray W λe k0=>∃ v,e=.returned v/\(∃ I' M',post v I' M')/\CA W k0:=by
 refine(h.2 W (ai5 W)).mono ?_;rintro e k0⟨v,I',M',rfl,aJ,_,ek⟩;exact⟨v,rfl,⟨I',M',aJ⟩,λb ag=>ek.dO b ag (λy aC=>by cases aC),ek.sz,ek.out⟩
def CA.kept(h:CA W k0)(may:MemPlace->Prop):W.keptBut k0 may:=by
 refine⟨h.out.1,h.out.2,λi hi=>?_⟩;rw[h.dO i hi];cases W.heap[i]? with
 |none=>rfl| some o=>cases o<;>simp
def CA.frozen(h:CA W k0){a:Addr}(a7:a.block<W.heap.size):k0.frozen? a=W.frozen? a:=by unfold World.frozen?;rw[h.dO _ a7]
variable{H:Type}{enc:TypeId×Value->H}{P:Program}
def ai7{f:Func}{s:ChangeSpec}{apart fresh handsOn again:Bool}{args:Array Value}{ds gs:List (DataW H)}{before pa pv:List MemPlace}(iD:DataW.Whole enc P f.params.toList s.vars apart W args.toList ds gs before)(HT:∀ (b:Nat) (fU:Nat->Bool) (ah:Bool),DataW.TrodAll enc P k0 b fU ah f.resultTypes.toList (v.resultList f.resultTypes.size) (s.fn H (ds++gs)).results [])(nb:∀ fU:Nat->Bool,(∀ p∈before,fU p.block=true)->DataW.TrodAll enc P k0 0 fU true f.params.toList args.toList (s.fn H (ds++gs)).args pa)(X2:∀ fU:Nat->Bool,(∀ p∈before,fU p.block=true)->DataW.TrodVars enc P k0 fU s.vars (s.fn H (ds++gs)).vars pv)(wG:before=pa++pv)(ae:CA W k0)(bg:∀ (j:Nat) (t:TypeId) (r:Value),f.resultTypes[j]?=some t->(v.resultList f.resultTypes.size)[j]?=some r->Value.okWide P k0 .any 0 t r) :
  s.post enc P f apart fresh handsOn again W args v k0:=by
 have hold:∀ p∈before,(λb=>decide (b<W.heap.size)) p.block=true:=λp aJ=>by simpa using iD.lt p aJ
 have aZ:∀ p∈before,p.block<W.heap.size:=λp aJ=>iD.lt p aJ;refine⟨ds,gs,before,[],pa,pv,iD,HT _ _ _,nb _ hold,X2 _ hold,World.keptBut_mono (λp aJ=>⟨aJ,?_⟩) (ae.kept (·∈before)),λ_=>?_⟩
 ·rw[wG,cv]at aJ;exact Or.inr aJ
 ·obtain⟨_,_,_,_,_,bb,aD⟩:=iD;refine⟨bg,_,_,([]++pa)++pv,⟨[]++pa,pv,ChangeShapes.trodAll_append (nb _ (λ_ _=>rfl)) (HT _ _ _),X2 _ (λ_ _=>rfl),rfl,?_,?_⟩,?_⟩
  ·intro b off aJ;have yq:MemPlace.cell b off∈before:=by rw[wG];simpa using aJ
   rw[ae.frozen (a:=⟨b,off,none⟩) (aZ _ yq)];exact bb b off yq
  ·intro a7;have:=aD a7;rw[wG]at this;simpa using this
  ·intro p aJ _;rw[wG];simpa using aJ
def yr:DataW H->Option Value
 | .lit (.int k z)=>some (.int k z)| .lit (.string l)=>some (.string ⟨l.toArray⟩)| .lit (.bool b)=>some (.bool b)| _=>none
def HU(P:Program)(e:TypeId):Bool:=match P.underlying e with
 |some .bool | some (.int _) | some .string=>true| _=>false
section
variable{w:World}{cX:Nat}{fU:Nat->Bool}{held:Bool}{fc:Nat}{t e:TypeId}{cs:List Value}{d:DataW H}{p:List MemPlace}
def X3(he:HU P e=true)(h:DataW.trod enc P w cX fU held fc e cs=some (d,p))(aj:yr d=some v):cs=[v]:=by
 unfold HU at he;split at he
 ·rename_i hu;obtain⟨b,rfl,ab⟩:=DataW.trod_bool hu h;cases ab;simpa[yr]using aj
 ·rename_i k hu;obtain⟨n,rfl,ab,_⟩:=DataW.trod_int hu h;cases ab;simpa[yr]using aj
 ·rename_i hu;obtain⟨s,rfl,ab,_⟩:=Qf hu h;cases ab;simpa[yr]using aj
 ·cases he
def LD{α β:Type}{f:α->Option β}:∀ {l:List α} {r:List β},l.mapM f=some r->r.length=l.length/\∀ i (h:i<l.length) (bq:i<r.length),f l[i]=some r[i]
 |[],r,h=>by simp at h;subst h;exact⟨rfl,λi h=>by simp at h⟩
 |x::l,r,h=>by
  simp only[Gz,Option.bind_eq_bind,KR,Option.pure_def,kK]at h;obtain⟨b,ag,r',gL,rfl⟩:=h;obtain⟨aa,ad⟩:=LD gL;refine⟨by simp[aa],λi hi cC=>?_⟩;cases i with
  |zero=>simpa using ag| succ i=>simpa using ad i (by simpa using hi) (by simpa using cC)
def X4{cs vs:List Value}(ax:cs.length=vs.length)(h:∀ i (hi:i<vs.length),(cs.drop i).take 1=[vs[i]]):cs=vs:=by apply oH ax;intro i aa ad;have:=h i ad;rw[fg aa,rl,qo]at this;simpa using this
def X5{n:Nat}(aq:P.underlying t=some (.array n e))(he:HU P e=true)(HV:P.cellsOf e=1)(eh:P.cellsOf t=n){ds:List (DataW H)}(h:DataW.trod enc P w cX fU held fc t cs=some (.agg ds,p))(aj:ds.mapM yr=some vs):cs=vs:=by
 obtain⟨xs,m,rfl,ab,ax,kg,hi⟩:=Qi aq h;have fD:ds=xs.map (·.1):=by have:=congrArg Prod.fst ab;simpa using this
 obtain⟨bc,bi⟩:=LD aj;have sN:vs.length=n:=by rw[bc,fD];simpa using kg
 refine X4 (by rw[ax,eh,sN]) λi cC=>?_;have aa:=hi i (by omega);rw[HV,gM]at aa;have vd:i<xs.length:=by omega
 rw[dg vd]at aa;have ad:=bi i (by rw[fD];simpa using vd) cC;have ak:ds[i]'(by rw[fD];simpa using vd)=xs[i].1:=by simp[fD]
 rw[ak]at ad;exact X3 he (d:=xs[i].1) (p:=xs[i].2) aa ad
def ai8(aq:P.underlying t=some (.struct cV))(aB:∀ (i:Nat) (f:Field),cV[i]?=some f->HU P f.type=true/\f.offset=i/\P.cellsOf f.type=1)(eh:P.cellsOf t=cV.size){ds:List (DataW H)}(h:DataW.trod enc P w cX fU held fc t cs=some (.agg ds,p))(aj:ds.mapM yr=some vs):cs=vs:=by
 obtain⟨xs,m,rfl,ab,ax,kg,hi⟩:=DataW.trod_struct aq h;have fD:ds=xs.map (·.1):=by have:=congrArg Prod.fst ab;simpa using this
 obtain⟨bc,bi⟩:=LD aj;have sN:vs.length=cV.size:=by rw[bc,fD];simpa using kg
 refine X4 (by rw[ax,eh,sN]) λi cC=>?_;have X6:i<cV.size:=by omega
 obtain⟨eT,c4,hM⟩:=aB i cV[i] (OH X6);have aa:=hi i cV[i] (OH X6);rw[c4,hM]at aa;have vd:i<xs.length:=by omega
 rw[dg vd]at aa;have ad:=bi i (by rw[fD];simpa using vd) cC;have ak:ds[i]'(by rw[fD];simpa using vd)=xs[i].1:=by simp[fD]
 rw[ak]at ad;exact X3 eT (d:=xs[i].1) (p:=xs[i].2) aa ad
def X7{sz:Nat}:∀ (rows:List (List Value)) (cs:List Value),cs.length=rows.length*sz->(∀ i (hi:i<rows.length),(cs.drop (i*sz)).take sz=rows[i])->cs=rows.flatten
 |[],cs,ax,_=>jl (by simpa using ax)
 |r::rows,cs,ax,h=>by
  have ay:=h 0 (by simp);simp only[zC,qp,tp]at ay;rw[et,lX,oI]at ax;have aQ:=X7 (sz:=sz) rows (cs.drop sz) (by rw[pF];omega) λi hi=>by have:=h (i+1) (by simpa using hi);rw[zA,show sz+i*sz=(i+1)*sz from by rw[lX];omega];simpa using this
  rw[Qg,<-aQ,<-ay,pM]
def ai9{n:Nat}(aq:P.underlying t=some (.array n e))(HV:P.cellsOf e=sz)(eh:P.cellsOf t=n*sz){ds:List (DataW H)}(h:DataW.trod enc P w cX fU held fc t cs=some (.agg ds,p))(af:rows.length=ds.length)
  (ei:∀ i (hi:i<ds.length) (cC:i<rows.length) fc cs p,DataW.trod enc P w cX fU held fc e cs=some (ds[i],p)->cs=rows[i]):cs=rows.flatten:=by
 obtain⟨xs,m,rfl,ab,ax,kg,hi⟩:=Qi aq h;have fD:ds=xs.map (·.1):=by have:=congrArg Prod.fst ab;simpa using this
 have eH:rows.length=n:=by rw[af,fD];simpa using kg
 refine X7 (sz:=sz) rows cs (by rw[ax,eh,eH]) λi cC=>?_;have aa:=hi i (by omega);rw[HV]at aa;have vd:i<xs.length:=by omega
 rw[dg vd]at aa;have ak:ds[i]'(by rw[fD];simpa using vd)=xs[i].1:=by simp[fD]
 exact ei i (by rw[fD];simpa using vd) cC m _ xs[i].2 (by rw[ak];exact aa)
def X8(d:DataW H):Option (List Value):=match d with
 | .agg l=>l.mapM yr| _=>none
def Qn{n:Nat}(aq:P.underlying t=some (.array n e))(HV:P.cellsOf e=sz)(eh:P.cellsOf t=n*sz){ds:List (DataW H)}(h:DataW.trod enc P w cX fU held fc t cs=some (.agg ds,p))(af:ds.mapM X8=some rows)
  (ei:∀ fc cs p l row,DataW.trod enc P w cX fU held fc e cs=some (.agg l,p)->l.mapM yr=some row->cs=row):cs=rows.flatten:=by
 obtain⟨bc,bi⟩:=LD af;refine ai9 aq HV eh h bc λi hi cC fc cs p bq=>?_;have ad:=bi i hi cC;unfold X8 at ad;split at ad
 ·rename_i l ax;rw[ax]at bq;exact ei _ _ _ _ _ bq ad
 ·cases ad
end
end Go.V
namespace Go.V
open Go Go.Proofs
variable{I I':aH}{M M0:List aE}{e size sz fc h1 ln lc src dst:Nat}{az:List Int}{g:cU}{os:aR}{xs vs cs:List Value}{P:Program}{f z:Bool}{W k0:World}{v:Value}{cV:Array Field}{rows:List (List Value)}{α:Type}{t bn:bk}{y:Operand}{other:Prop}{db aF tC HQ:ea}{pl:List (ByteArray×Int)}{la:Option Addr}{ns:List al}
def LF{n:String}{g:Nat}{cs:Array Value}(aw:P.globalNamed n=some g)(h:W.var? P n=some cs):∃ T an,W.heap[g]?=some (.cells cs T an):=by
 simp only[World.var?,aw,Option.bind_some]at h;split at h
 ·rename_i c T an cG;cases h;exact⟨T,an,cG⟩
 ·cases h
def dA:List Int:=[0,1,56,2,57,49,28,3,61,58,42,50,38,29,17,4,62,47,59,36,45,43,51,22,53,39,33,30,24,18,12,5,63,55,48,27,60,41,37,16,46,35,44,21,52,32,23,11,54,26,40,15,34,20,31,10,25,14,19,9,13,8,7,6]
def aja{bl:List (String×DataW Unit)}(h:laidMet Tryz.prog ([("math/bits.deBruijn32tab",YthnoknnlcnikbaaGreatDoor.Rows.laid_math_bits_deBruijn32tab),("math/bits.deBruijn64tab",YthnoknnlcnikbaaGreatDoor.Rows.laid_math_bits_deBruijn64tab),("internal/strconv.uint64pow10",YthnoknnlcnikbaaGreatDoor.Rows.laid_internal_strconv_uint64pow10),("bonsai/tree.counts",YthnoknnlcnikbaaGreatDoor.Rows.laid_bonsai_tree_counts),("bonsai/print.counts",YthnoknnlcnikbaaGreatDoor.Rows.laid_bonsai_print_counts),("bonsai/print.signs",YthnoknnlcnikbaaGreatDoor.Rows.laid_bonsai_print_signs)]++bl) W):e2 (rQ W) dA:=by
 obtain⟨ps,bY,_⟩:=h;obtain⟨bc,t1,avt,f1,Es,ew,rH,tJ,KI,iY,bY,_⟩:=bY;obtain⟨bi,t2,Qo,f2,Et,e',m6,nO,lU,sL,bY,_⟩:=bY;obtain⟨ca,t3,avu,f3,avv,fe,sE,yt,HW,LG,bY,_⟩:=bY;obtain⟨gf,t4,ajb,f4,p4,jZ,Ey,Qp,ajc,HX,bY,_⟩:=bY;obtain⟨n6,t5,ajd,f5,p5,EE,X9,aje,ajf,Qq,bY,_⟩:=bY;obtain⟨LH,t6,ajg,f6,avw,Qr,X',ajh,aji,ajj,bY,_⟩:=bY;obtain rfl:=eX ((show Tryz.prog.globalNamed "math/bits.deBruijn64tab" = some 4 by kernel_rfl).symm.trans m6)
 obtain rfl:=eX ((show(Tryz.prog.globals[4]?).map (·.type)=some 410 by kernel_rfl).symm.trans nO);obtain rfl:=eX ((show Tryz.prog.globalNamed "bonsai/tree.counts" = some 0 by kernel_rfl).symm.trans Ey)
 obtain rfl:=eX ((show(Tryz.prog.globals[0]?).map (·.type)=some 258 by kernel_rfl).symm.trans Qp);obtain rfl:=eX ((show Tryz.prog.globalNamed "bonsai/print.counts" = some 2 by kernel_rfl).symm.trans X9)
 obtain rfl:=eX ((show(Tryz.prog.globals[2]?).map (·.type)=some 391 by kernel_rfl).symm.trans aje);obtain rfl:=eX ((show Tryz.prog.globalNamed "bonsai/print.signs" = some 1 by kernel_rfl).symm.trans X')
 obtain rfl:=eX ((show(Tryz.prog.globals[1]?).map (·.type)=some 366 by kernel_rfl).symm.trans ajh);obtain⟨Cm,o1,b8⟩:=LF m6 lU;obtain⟨P6,Af,gR⟩:=LF Ey ajc;obtain⟨ajk,ajl,dU⟩:=LF X9 ajf;obtain⟨ajm,ajn,b6⟩:=LF X' aji;have fz:Qo.toList=dA.map (Value.int .u8):=X5 (show Tryz.prog.underlying 410=some (.array 64 5) by kernel_rfl) (by kernel_rfl) (by kernel_rfl) (by kernel_rfl) sL (by kernel_rfl);have LI:ajb.toList=jG.map (Value.int .i64):=Qn (n:=10) (sz:=2) (show Tryz.prog.underlying 258=some (.array 10 257) by kernel_rfl) (by kernel_rfl) (by kernel_rfl) HX (rows:=[[.int .i64 0,.int .i64 0],[.int .i64 0,.int .i64 0],[.int .i64 0,.int .i64 0],[.int .i64 0,.int .i64 0],[.int .i64 2,.int .i64 (-1)],[.int .i64 2,.int .i64 (-1)],[.int .i64 1,.int .i64 1],[.int .i64 1,.int .i64 1],[.int .i64 1,.int .i64 1],[.int .i64 1,.int .i64 1]]) (by kernel_rfl) (λ_ _ _ _ _ aa ad=>X5 (show Tryz.prog.underlying 257=some (.array 2 3) by kernel_rfl) (by kernel_rfl) (by kernel_rfl) (by kernel_rfl) aa ad);have fields:∀ {t:TypeId},(match Tryz.prog.underlying t with
   |some (.struct cV)=>decide (Tryz.prog.cellsOf t=cV.size)&&(List.range cV.size).all λi=>match cV[i]? with
    |some f=>HU Tryz.prog f.type&&(decide (f.offset=i)&&decide (Tryz.prog.cellsOf f.type=1))| none=>false
   |_=>false)=true->∀ (fc:Nat) (cs:List Value) (p:List MemPlace) (l:List (DataW Unit)) (row:List Value),DataW.trod (λ_=>()) Tryz.prog W 0 (λ_=>true) false fc t cs=some (.agg l,p)->l.mapM yr=some row->cs=row:=by
  intro t ao fc cs p l row aa ad;split at ao;·rename_i cV hu;simp only[cB,h6,fS,j9]at ao;refine ai8 hu (λi f aB=>?_) ao.1 aa ad;have hi:=ao.2 i (lR.1 aB).1;rw[aB]at hi;simpa using hi
  ·cases ao
 have LJ:ajd.toList=HD:=Qn (n:=3) (sz:=3) (show Tryz.prog.underlying 391=some (.array 3 390) by kernel_rfl) (by kernel_rfl) (by kernel_rfl) Qq (rows:=[[.int .i64 0,.int .i64 1,.string ⟨#[63]⟩],[.int .i64 0,.int .i64 (-1),.string ⟨#[42]⟩],[.int .i64 1,.int .i64 (-1),.string ⟨#[43]⟩]]) (by kernel_rfl) (fields (by kernel_rfl));have Ya:ajg.toList=u3.map λl=>Value.string (strOf l):=Qn (n:=10) (sz:=3) (show Tryz.prog.underlying 366=some (.array 10 365) by kernel_rfl) (by kernel_rfl) (by kernel_rfl) ajj (rows:=[[.string ⟨#[]⟩,.string ⟨#[]⟩,.string ⟨#[]⟩],[.string ⟨#[]⟩,.string ⟨#[]⟩,.string ⟨#[]⟩],[.string ⟨#[]⟩,.string ⟨#[]⟩,.string ⟨#[]⟩],[.string ⟨#[]⟩,.string ⟨#[]⟩,.string ⟨#[]⟩],[.string ⟨#[]⟩,.string ⟨#[32]⟩,.string ⟨#[]⟩],[.string ⟨#[]⟩,.string ⟨#[32,47,32]⟩,.string ⟨#[]⟩],[.string ⟨#[]⟩,.string ⟨#[]⟩,.string ⟨#[]⟩],[.string ⟨#[38]⟩,.string ⟨#[]⟩,.string ⟨#[]⟩],[.string ⟨#[33]⟩,.string ⟨#[]⟩,.string ⟨#[]⟩],[.string ⟨#[60]⟩,.string ⟨#[]⟩,.string ⟨#[62]⟩]]) (by kernel_rfl) (fields (by kernel_rfl));have arr:∀ {cs:Array Value} {l:List Value},cs.toList=l->cs=l.toArray:=λh=>by apply gX;simpa using h
 refine⟨⟨P6,Af,?_⟩,⟨ajk,ajl,?_⟩,⟨ajm,ajn,?_⟩,by decide,by decide,Cm,o1,?_⟩
 ·rw[<-arr LI];exact gR
 ·rw[<-arr LJ];exact dU
 ·rw[<-arr Ya];exact b6
 ·rw[<-arr fz];exact b8
def EF(cs:Array Value):Obj->Obj
 | .cells _ t an=>.cells cs t an| o=>o
def ajo:List Int:=(List.range 20).map λi=>(10:Int)^i
def ajp:List Int:=[0,1,28,2,29,14,24,3,30,22,20,15,25,17,4,8,31,27,13,23,21,19,16,7,26,12,18,6,11,5,10,9]
noncomputable def Qs(os:Os):World:=
 { World.holding Tryz.prog os ⟨#[],#[],[]⟩with heap:=((((((World.holding Tryz.prog os ⟨#[],#[],[]⟩).heap.modify 0 (EF (jG.map (Value.int .i64)).toArray)).modify 2 (EF HD.toArray)).modify 1 (EF (u3.map λl=>Value.string (strOf l)).toArray)).modify 4 (EF (dA.map (Value.int .u8)).toArray)).modify 5 (EF (ajo.map (Value.int .u64)).toArray)).modify 6 (EF (ajp.map (Value.int .u8)).toArray) }
def own:ownKnob Tryz.prog.godebug=none:=by kernel_rfl
def laidOut:laidOutB Tryz.prog=true:=by kernel_rfl
def Yb{l:List α}{q:α->Bool}(h:l.all q=true){x:α}(ab:x∈l):q x=true:=fS.1 h x ab
def ajq{L:List (String×DataW Unit)}(bY:laidMetH Tryz.prog L W)(he:L=[("math/bits.deBruijn32tab",YthnoknnlcnikbaaGreatDoor.Rows.laid_math_bits_deBruijn32tab),("math/bits.deBruijn64tab",YthnoknnlcnikbaaGreatDoor.Rows.laid_math_bits_deBruijn64tab),("internal/strconv.uint64pow10",YthnoknnlcnikbaaGreatDoor.Rows.laid_internal_strconv_uint64pow10),("bonsai/tree.counts",YthnoknnlcnikbaaGreatDoor.Rows.laid_bonsai_tree_counts),("bonsai/print.counts",YthnoknnlcnikbaaGreatDoor.Rows.laid_bonsai_print_counts),("bonsai/print.signs",YthnoknnlcnikbaaGreatDoor.Rows.laid_bonsai_print_signs)]):e2 (rQ W) dA:=by
 subst he;exact aja (bl:=[]) bY
structure wH(I:aH)(d:al):Prop where
 k:0<=d.k/\d.k<256
 cx:fm d.cx
 s1:fm d.s1
 s2:fm d.s2
 cY:fm d.cY
 lo:hz d.lo
 hi:hz d.hi
 a':cI I d.b0 d.aG d.ch 1 0 (d.au.map (.int .i64 ·))
 au:∀ x∈d.au,hz x
 dC:d.t.size<=9223372036854775807
structure Ag(I:aH)(t:bk):Prop where
 a':cI I t.a t.n t.c 9 0 (t.ns.flatMap al.cells)
 ns:∀ d∈t.ns,wH I d
 bC:hz t.bC
structure Ah(I:aH)(d:a3):Prop where
 name:d.name.size<=9223372036854775807
 t:Ag I d.t
structure rR(I:aH)(g:cU):Prop where
 a':cI I g.a g.n g.c 3 0 (g.ds.flatMap a3.cells)
 ds:∀ d∈g.ds,Ah I d
def cI.EG{a:Option Addr}{n c b jh:Nat}(h:cI I a n c size b vs)(ag:n*jh<=140737488355328):cI I a n c size jh vs:=⟨h.len,⟨h.cap.1,ag⟩,h.rd⟩
structure LK(d:al):Prop where
 aG:d.aG<2500
structure Yc(d:a3):Prop where
 name:d.name.size<2500
 n:d.t.n<2500
 ns:∀ b3∈d.t.ns,LK b3
structure ajr(g:cU):Prop where
 n:g.n<2500
 ds:∀ d∈g.ds,Yc d
def wH.ok{d:al}(h:wH I d)(av:LK d):d.ok I:=
 ⟨h.k,h.cx,h.s1,h.s2,h.cY,h.dC,h.lo,h.hi,h.a'.EG (by have:=av.aG;omega),h.au⟩
def Ah.ok{d:a3}(h:Ah I d)(av:Yc d):d.ok I:=
 ⟨by have:=av.name;omega,⟨h.t.a'.EG (by have:=av.n;omega),λb3 bU=>(h.t.ns b3 bU).ok (av.ns b3 bU),h.t.bC⟩⟩
def rR.ok(h:rR I g)(av:ajr g):g.ok I:=
 ⟨h.a'.EG (by have:=av.n;omega),λd ah=>(h.ds d ah).ok (av.ds d ah)⟩
def wH.mono{d:al}(h:wH I d)(bA:∀ b o,I b=some o->I' b=some o):wH I' d:={ h with a':=h.a'.mono bA }
def Ah.mono{d:a3}(h:Ah I d)(bA:∀ b o,I b=some o->I' b=some o):Ah I' d:=⟨h.name,h.t.a'.mono bA,λb3 bU=>(h.t.ns b3 bU).mono bA,h.t.bC⟩
def rR.mono(h:rR I g)(bA:∀ b o,I b=some o->I' b=some o):rR I' g:=⟨h.a'.mono bA,λd ah=>(h.ds d ah).mono bA⟩
def rR.n(h:rR I g):g.ds.length=g.n:=by have:=h.a'.len;rw[gO _ 3 a3.cL]at this;omega
def Ag.n(h:Ag I t):t.ns.length=t.n:=by have:=h.a'.len;rw[gO _ 9 al.cL]at this;omega
def lA{x r:Int}(h:x=r)(af:-9223372036854775808<=r/\r<=9223372036854775807):IntKind.i64.wrap x=r:=by rw[h];exact wrap_i64 af
def aR.CB{l:List Int}(h:os.ok 1 (l.map (.int .i64 ·)))(ba:∀ x∈os.ar e,x∈M){j:Nat}(ai:j<l.length) :
  ∃ aM,(os.a.map λg=>(⟨g,0,none⟩:Addr))=some aM/\cR I M (aM.add (j*1)) 1 [.int .i64 l[j]]:=by
 obtain⟨a,n,c,aS⟩:=os;have ax:=h.pW;simp only at ax;cases a with
 |none=>have:=(h.nil rfl).1;simp only at this;omega
 |some g=>
  obtain⟨aa,ad,ak,aK⟩:=h.cap g rfl;simp only at aa ad aK;refine⟨⟨g,0,none⟩,rfl,?_⟩;rw[eS _ rfl];refine⟨rfl,_,_,_,.inr ⟨⟨g,.cells aS.toArray e (0,0)⟩,ba _ (by simp[aR.ar]),rfl,rfl⟩,?_,rfl⟩;simp only[du,gM];have jS:j<(l.map (Value.int .i64)).length:=by simpa using ai
  have aI:(aS.take (n*1))[j]?=some (.int .i64 l[j]):=by rw[aK];simp[ai]
  rw[lb]at aI;have kZ:j<n*1:=by omega
  rw[bT kZ]at aI;have Yd:j<aS.length:=(hG.1 aI).1;rw[fg Yd,rl,qo];rw[dg Yd]at aI;rw[eX aI]
section
variable{H:Type}{enc:TypeId×Value->H}{P:Program}{W:World}{cX:Nat}{fU:Nat->Bool}{held:Bool}
def Ye{α:Type}{p:Nat->α->Prop}:∀ (n:Nat),(∀ i,i<n->∃ d,p i d)->∃ l:List α,l.length=n/\∀ i (h:i<l.length),p i l[i]
 |0,_=>⟨[],rfl,λi h=>by simp at h⟩
 |n+1,h=>by
  obtain⟨l,aa,ad⟩:=Ye n λi hi=>h i (by omega);obtain⟨d,ah⟩:=h n (by omega);refine⟨l++[d],by simp[aa],λi hi=>?_⟩;by_cases aZ:i<l.length;·rw[yh aZ];exact ad i aZ
  ·have e:i=l.length:=by simp at hi;omega
   subst e;simpa[aa]using ah
def Qt{f:α->List Value}(av:0<size)(aB:∀ x,(f x).length=size)(ok:α->Prop){t e:TypeId}(aq:P.underlying t=some (.slice e))(ao:P.cellsOf e=size)(ei:∀ fc cs x,DataW.trod enc P W cX fU held fc e cs=some x->∃ d,cs=f d/\ok d){x:DataW H×List MemPlace}(h:DataW.trod enc P W cX fU held fc t cs=some x) :
  ∃ (a:Option Addr) (n c:Nat) (l:List α),cs=[.slice a n c]/\cI (rQ W) a n c size 0 (l.flatMap f)/\l.length=n/\(∀ d∈l,ok d)/\(a=none->c=0)/\c<=maxLen:=by
 rcases DataW.trod_slice aq h with⟨rfl,_⟩ | ⟨a,len,cap,avx,bl,m,_,rfl,_,ag,ax,hm,cS,ajs,_,_⟩
 ·exact⟨none,0,0,[],rfl,⟨by simp,⟨b' _,by omega⟩,.inl rfl⟩,rfl,λd ah=>by simp at ah,λ_=>rfl,by unfold maxLen;omega⟩
 have each:∀ i,i<len->∃ d,ok d/\W.cells? cX (a.add (i*size)) size=some (f d):=λi hi=>by have aa:=ajs i hi;rw[ao,dg (by omega)]at aa;obtain⟨cs',ad,ak⟩:=KR.1 aa;obtain⟨d,rfl,ah⟩:=ei _ _ _ ak;exact⟨d,ah,ad⟩
 obtain⟨l,nD,Qu⟩:=Ye len each;refine⟨some a,len,cap,l,rfl,⟨by rw[gO f size aB,nD],⟨ax,by omega⟩,?_⟩,nD,λd ah=>?_,λh=>by simp at h,hm⟩
 ·by_cases ay:len=0
  ·exact .inl ay
  right
  have yu:=(Qu 0 (by omega)).2;obtain⟨-,-,HY⟩:=World.cells?_some yu;have Yf:=HY 0 av;rw[dg (by rw[aB];exact av)]at Yf;have Yg:a.spot=none:=by
   have:=World.cell?_spot Yf;cases c9:a.spot with
   |none=>rfl| some s=>simp[Addr.add,c9]at this
  refine⟨a,rfl,Yg,?_⟩;have Yh:∀ i (hi:i<l.length),∀ k,k<size->W.cell? ⟨a.block,a.off+(i*size+k),none⟩=(f l[i])[k]?:=λi hi k ae=>by obtain⟨-,-,cG⟩:=World.cells?_some (Qu i hi).2;have:=cG k ae;rw[eS _ Yg,eS _ rfl]at this;rw[<-this];congr 2;simp only[];omega
  have ajt:∃ cs T an,W.heap[a.block]?=some (.cells cs T an):=by
   have aa:=Yh 0 (by omega) 0 av;rw[dg (by rw[aB];exact av)]at aa;unfold World.cell? at aa;cases cG:W.heap[a.block]? with
   |none=>simp[cG]at aa
   |some o=>
    cases o with
    |cells cs T an=>exact⟨cs,T,an,rfl⟩| _=>simp[cG]at aa
  obtain⟨cs,T,an,cG⟩:=ajt;refine⟨cs,T,an,cG,?_⟩;have l8:=gO f size aB l;apply zU;intro j;by_cases ai:j<len*size
  ·have hdiv:j/size<l.length:=by rw[nD];exact Nat.div_lt_of_lt_mul (by rw[Nat.mul_comm];exact ai)
   have LL:=Nat.mod_lt j av;have e:=Nat.div_add_mod j size;rw[Nat.mul_comm]at e;have aa:=Yh (j/size) hdiv (j%size) LL;rw[e]at aa;have ad:=Ed f size aB l (j/size) hdiv;have ak:(l.flatMap f)[j]?=(f l[j/size])[j%size]?:=by rw[<-ad,lb,bT LL,mO,e]
   rw[ak,<-aa,lb,bT ai,mO];simp[World.cell?,cG]
  ·rw[qn (by rw[fO];omega),qn (by rw[l8,nD];omega)]
 ·obtain⟨i,hi,rfl⟩:=hO ah;exact(Qu i hi).1
def EH{k:IntKind}{t:TypeId}{x:DataW H×List MemPlace}(aq:P.underlying t=some (.int k))(h:DataW.trod enc P W cX fU held fc t cs=some x):∃ n,cs=[.int k n]/\(Lit.int k n).wf=true:=by obtain⟨n,aa,_,ad⟩:=DataW.trod_int aq h;exact⟨n,aa,ad⟩
def wf_i64{n:Int}(h:(Lit.int .i64 n).wf=true):hz n:=by simp[Lit.wf,IntKind.min,IntKind.max,IntKind.signed,IntKind.bits]at h;exact h
def wf_u64{n:Int}(h:(Lit.int .u64 n).wf=true):fm n:=by simp[Lit.wf,IntKind.min,IntKind.max,IntKind.signed,IntKind.bits]at h;unfold fm;omega
def wf_u8{n:Int}(h:(Lit.int .u8 n).wf=true):0<=n/\n<256:=by simp[Lit.wf,IntKind.min,IntKind.max,IntKind.signed,IntKind.bits]at h;omega
end
section
variable{H:Type}{enc:TypeId×Value->H}{W:World}{cX:Nat}{fU:Nat->Bool}{held:Bool}
def aju{x:DataW H×List MemPlace}(h:DataW.trod enc Tryz.prog W cX fU held fc 38 cs=some x) :
  ∃ (a:Option Addr) (n c:Nat) (l:List Int),cs=[.slice a n c]/\cI (rQ W) a n c 1 0 (l.map (.int .i64 ·))/\l.length=n/\∀ k∈l,hz k:=by
 obtain⟨a,n,c,l,aa,ad,ak,aK,-,-⟩:=Qt (f:=λk=>[Value.int .i64 k]) (size:=1) (by decide) (λ_=>rfl) hz (show Tryz.prog.underlying 38=some (.slice 3) by kernel_rfl) (by kernel_rfl)
  (λfc cs x h=>by
   obtain⟨n,aa,ad⟩:=EH (show Tryz.prog.underlying 3=some (.int .i64) by kernel_rfl) h;exact⟨n,aa,wf_i64 ad⟩) h
 refine⟨a,n,c,l,aa,?_,ak,aK⟩;rwa [<-List.map_eq_flatMap]at ad
def ajv{l:List α}(h:l.length=4):∃ a b c d,l=[a,b,c,d]:=by
 match l,h with
 |[a,b,c,d],_=>exact⟨a,b,c,d,rfl⟩
def ajw{l:List α}(h:l.length=9):∃ a b c d e f g i j,l=[a,b,c,d,e,f,g,i,j]:=by
 match l,h with
 |[a,b,c,d,e,f,g,i,j],_=>exact⟨a,b,c,d,e,f,g,i,j,rfl⟩
def ajx{l:List α}(h:l.length=3):∃ a b c,l=[a,b,c]:=by
 match l,h with
 |[a,b,c],_=>exact⟨a,b,c,rfl⟩
def ajy{l:List α}(h:l.length=2):∃ a b,l=[a,b]:=by
 match l,h with
 |[a,b],_=>exact⟨a,b,rfl⟩
def ajz{l:List α}(h:l.length=1):∃ a,l=[a]:=by
 match l,h with
 |[a],_=>exact⟨a,rfl⟩
def ajA{x:DataW H×List MemPlace}(h:DataW.trod enc Tryz.prog W cX fU held fc 62 cs=some x) :
  ∃ a b c d:Int,cs=[.int .u64 a,.int .u64 b,.int .u64 c,.int .u64 d]/\fm a/\fm b/\fm c/\fm d:=by
 obtain⟨xs,m,_,_,ax,kg,hi⟩:=Qi (show Tryz.prog.underlying 62=some (.array 4 60) by kernel_rfl) h;rw[show Tryz.prog.cellsOf 62=4 by kernel_rfl]at ax;rw[show Tryz.prog.cellsOf 60=1 by kernel_rfl]at hi;have hu:Tryz.prog.underlying 60=some (.int .u64):=by kernel_rfl
 obtain⟨a,b,c,d,rfl⟩:=ajv ax;have get:∀ i,(kb:i<4)->∃ n,(([a,b,c,d]:List Value).drop (i*1)).take 1=[.int .u64 n]/\fm n:=λi kb=>by have aa:=hi i kb;rw[dg (by omega)]at aa;obtain⟨n,ad,ak⟩:=EH hu aa;exact⟨n,ad,wf_u64 ak⟩
 obtain⟨n0,dy,HZ⟩:=get 0 (by decide);obtain⟨sD,aI,eT⟩:=get 1 (by decide);obtain⟨jY,a6,c4⟩:=get 2 (by decide);obtain⟨eP,cq,hM⟩:=get 3 (by decide);simp at dy aI a6 cq;subst dy aI a6 cq;exact⟨_,_,_,_,rfl,HZ,eT,c4,hM⟩
def H0{t:Nat}{l:List (Nat×Nat)}(h:(match P.underlying t with
  |some (.struct cV)=>decide (cV.toList.map (λf=>(f.type,f.offset))=l)| _=>false)=true):∃ cV,P.underlying t=some (.struct cV)/\cV.toList.map (λf=>(f.type,f.offset))=l:=by
 split at h
 ·rename_i cV hu;exact⟨cV,hu,cJ h⟩
 ·cases h
def LM{P:Program}{l:List (Nat×Nat)}{q:Nat->Nat->Prop}(aB:cV.toList.map (λf=>(f.type,f.offset))=l)(h:∀ (i:Nat) (f:Field),cV[i]?=some f->q f.type f.offset):∀ (i t o:Nat),l[i]?=some (t,o)->q t o:=by subst aB;intro i t o hi;simp only[iB,tb,ym]at hi;obtain⟨f,aa,rfl,rfl⟩:=hi;exact h i f (by simpa using aa)
def LN{t:TypeId}{x:DataW H×List MemPlace}(aq:P.underlying t=some (.struct cV))(h:DataW.trod enc P W cX fU held fc t cs=some x) :
  cs.length=P.cellsOf t/\∀ (i:Nat) (f:Field),cV[i]?=some f->∃ fc y,DataW.trod enc P W cX fU held fc f.type ((cs.drop f.offset).take (P.cellsOf f.type))=some y:=by
 obtain⟨xs,m,_,_,ax,kg,hi⟩:=DataW.trod_struct aq h;refine⟨ax,λi f aB=>?_⟩;have aZ:=(lR.1 aB).1;have aa:=hi i f aB;rw[dg (by omega)]at aa;exact⟨_,_,aa⟩
def ajB{x:DataW H×List MemPlace}(h:DataW.trod enc Tryz.prog W cX fU held fc 82 cs=some x):∃ d:al,cs=d.cells/\wH (rQ W) d:=by obtain⟨cV,aq,aB⟩:∃ cV,Tryz.prog.underlying 82=some (.struct cV)/\cV.toList.map (λf=>(f.type,f.offset))=[(5,0),(62,1),(9,5),(3,6),(3,7),(38,8)]:=H0 (by kernel_rfl);obtain⟨ax,hi⟩:=LN aq h;have hi:∀ (i t o:Nat),[(5,0),(62,1),(9,5),(3,6),(3,7),(38,8)][i]?=some (t,o)->∃ fc y,DataW.trod enc Tryz.prog W cX fU held fc t ((cs.drop o).take (Tryz.prog.cellsOf t))=some y:=LM (P:=Tryz.prog) aB hi;rw[show Tryz.prog.cellsOf 82=9 by kernel_rfl]at ax;obtain⟨yu,fF,fz,l6,LI,LJ,Ya,avy,avz,rfl⟩:=ajw ax;obtain⟨_,_,ay⟩:=hi 0 _ _ rfl;obtain⟨_,_,aa⟩:=hi 1 _ _ rfl;obtain⟨_,_,ad⟩:=hi 2 _ _ rfl;obtain⟨_,_,ak⟩:=hi 3 _ _ rfl;obtain⟨_,_,aK⟩:=hi 4 _ _ rfl;obtain⟨_,_,bz⟩:=hi 5 _ _ rfl;rw[show Tryz.prog.cellsOf 5=1 by kernel_rfl]at ay;rw[show Tryz.prog.cellsOf 62=4 by kernel_rfl]at aa;rw[show Tryz.prog.cellsOf 9=1 by kernel_rfl]at ad;rw[show Tryz.prog.cellsOf 3=1 by kernel_rfl]at ak aK;rw[show Tryz.prog.cellsOf 38=1 by kernel_rfl]at bz;obtain⟨k,dy,ajC⟩:=EH (show Tryz.prog.underlying 5=some (.int .u8) by kernel_rfl) ay;obtain⟨a,b,c,d,aI,jE,mY,oN,ke⟩:=ajA aa;obtain⟨s,a6,-,ws⟩:=Qf (show Tryz.prog.underlying 9=some .string by kernel_rfl) ad;obtain⟨lo,cq,wl⟩:=EH (show Tryz.prog.underlying 3=some (.int .i64) by kernel_rfl) ak;obtain⟨cC,dS,ajD⟩:=EH (show Tryz.prog.underlying 3=some (.int .i64) by kernel_rfl) aK;obtain⟨b0,aG,ch,au,l5,dB,fj,rF⟩:=aju bz;simp at dy aI a6 cq dS l5;obtain⟨Qv,Qw,ajE,ajF⟩:=aI;subst dy Qv Qw ajE ajF a6 cq dS l5;exact⟨⟨k,a,b,c,d,s,lo,cC,b0,aG,ch,au⟩,rfl,wf_u8 ajC,jE,mY,oN,ke,wf_i64 wl,wf_i64 ajD,dB,rF,by unfold maxLen at ws;omega⟩
def ajG{x:DataW H×List MemPlace}(h:DataW.trod enc Tryz.prog W cX fU held fc 56 cs=some x):∃ t:bk,cs=t.cells/\Ag (rQ W) t:=by obtain⟨cV,aq,aB⟩:∃ cV,Tryz.prog.underlying 56=some (.struct cV)/\cV.toList.map (λf=>(f.type,f.offset))=[(54,0),(3,1)]:=H0 (by kernel_rfl);obtain⟨ax,hi⟩:=LN aq h;have hi:∀ (i t o:Nat),[(54,0),(3,1)][i]?=some (t,o)->∃ fc y,DataW.trod enc Tryz.prog W cX fU held fc t ((cs.drop o).take (Tryz.prog.cellsOf t))=some y:=LM (P:=Tryz.prog) aB hi;rw[show Tryz.prog.cellsOf 56=2 by kernel_rfl]at ax;obtain⟨yu,fF,rfl⟩:=ajy ax;obtain⟨_,_,ay⟩:=hi 0 _ _ rfl;obtain⟨_,_,aa⟩:=hi 1 _ _ rfl;rw[show Tryz.prog.cellsOf 54=1 by kernel_rfl]at ay;rw[show Tryz.prog.cellsOf 3=1 by kernel_rfl]at aa;obtain⟨a,n,c,l,dy,dB,aD,bg,-,-⟩:=Qt (f:=al.cells) (size:=9) (by decide) al.cL (wH (rQ W)) (show Tryz.prog.underlying 54=some (.slice 82) by kernel_rfl) (by kernel_rfl) (λfc cs x h=>ajB h) ay;obtain⟨r,aI,wr⟩:=EH (show Tryz.prog.underlying 3=some (.int .i64) by kernel_rfl) aa;simp at dy aI;subst dy aI;exact⟨⟨l,a,n,c,r⟩,rfl,dB,bg,wf_i64 wr⟩
def ajH{x:DataW H×List MemPlace}(h:DataW.trod enc Tryz.prog W cX fU held fc 59 cs=some x):∃ d:a3,cs=d.cells/\Ah (rQ W) d:=by obtain⟨cV,aq,aB⟩:∃ cV,Tryz.prog.underlying 59=some (.struct cV)/\cV.toList.map (λf=>(f.type,f.offset))=[(9,0),(56,1)]:=H0 (by kernel_rfl);obtain⟨ax,hi⟩:=LN aq h;have hi:∀ (i t o:Nat),[(9,0),(56,1)][i]?=some (t,o)->∃ fc y,DataW.trod enc Tryz.prog W cX fU held fc t ((cs.drop o).take (Tryz.prog.cellsOf t))=some y:=LM (P:=Tryz.prog) aB hi;rw[show Tryz.prog.cellsOf 59=3 by kernel_rfl]at ax;obtain⟨yu,fF,fz,rfl⟩:=ajx ax;obtain⟨_,_,ay⟩:=hi 0 _ _ rfl;obtain⟨_,_,aa⟩:=hi 1 _ _ rfl;rw[show Tryz.prog.cellsOf 9=1 by kernel_rfl]at ay;rw[show Tryz.prog.cellsOf 56=2 by kernel_rfl]at aa;obtain⟨s,dy,-,ws⟩:=Qf (show Tryz.prog.underlying 9=some .string by kernel_rfl) ay;obtain⟨t,aI,aq⟩:=ajG aa;simp[bk.cells]at dy aI;obtain⟨Qv,Qw⟩:=aI;subst dy Qv Qw;exact⟨⟨s,t⟩,rfl,by unfold maxLen at ws;exact ws,aq⟩
def ajI{x:DataW H×List MemPlace}(h:DataW.trod enc Tryz.prog W cX fU held fc 30 cs=some x):∃ g:cU,cs=[.slice g.a g.n g.c]/\rR (rQ W) g:=by obtain⟨cV,aq,aB⟩:∃ cV,Tryz.prog.underlying 30=some (.struct cV)/\cV.toList.map (λf=>(f.type,f.offset))=[(28,0)]:=H0 (by kernel_rfl);obtain⟨ax,hi⟩:=LN aq h;have hi:∀ (i t o:Nat),[(28,0)][i]?=some (t,o)->∃ fc y,DataW.trod enc Tryz.prog W cX fU held fc t ((cs.drop o).take (Tryz.prog.cellsOf t))=some y:=LM (P:=Tryz.prog) aB hi;rw[show Tryz.prog.cellsOf 30=1 by kernel_rfl]at ax;obtain⟨yu,rfl⟩:=ajz ax;obtain⟨_,_,ay⟩:=hi 0 _ _ rfl;rw[show Tryz.prog.cellsOf 28=1 by kernel_rfl]at ay;obtain⟨a,n,c,l,dy,dB,aD,bg,-,-⟩:=Qt (f:=a3.cells) (size:=3) (by decide) a3.cL (Ah (rQ W)) (show Tryz.prog.underlying 28=some (.slice 59) by kernel_rfl) (by kernel_rfl) (λfc cs x h=>ajH h) ay;exact⟨⟨l,a,n,c⟩,dy,dB,bg⟩
def ajJ{w:World}{r:Reach}{cX t:Nat}(aq:P.underlying t=some (.struct cV))(h:Value.okWide P w r cX t v):∃ cs,v=.agg cs:=by obtain⟨cs,aa,-⟩:=Go.WideShapes.okWide_struct aq h;exact⟨cs,aa⟩
def ajK{W:World}{cX:Nat}{d:DataW H}{p:List MemPlace}(h:DataW.Trod enc Tryz.prog W 0 (λ_=>true) true 30 v d p)(aj:Value.okWide Tryz.prog W .any cX 30 v):∃ g:cU,v=g.val/\rR (rQ W) g:=by obtain⟨cV,aq,-⟩:=H0 (P:=Tryz.prog) (t:=30) (l:=[(28,0)]) (by kernel_rfl);obtain⟨cs,rfl⟩:=ajJ aq aj;obtain⟨fc,aB⟩:=h;obtain⟨g,e,aw⟩:=ajI aB;refine⟨g,?_,aw⟩;have cZ:cs.toList=[.slice g.a g.n g.c]:=e;cases cs;simp only at cZ;subst cZ;rfl
end
def Yi{H:Type}{enc:TypeId×Value->H}{P:Program}(ax:laidOutB P=true){W k0:World}(ae:CA W k0):∀ {dC:List TypeId} {vs:List Value} {ds:List (DataW H)} {ps:List MemPlace},(∀ t∈dC,P.readableRec t=true/\t<P.types.size) -> DataW.TrodAll enc P W 0 (λ_=>true) true dC vs ds ps->(∀ p∈ps,p.block<W.heap.size)->∀ fU:Nat->Bool,(∀ p∈ps,fU p.block=true)->DataW.TrodAll enc P k0 0 fU true dC vs ds ps
 |[],[],[],_,_,h,_,_,_=>h
 |t::dC,v::vs,d::ds,_,aq,⟨p,q,aa,ad,e⟩,aZ,fU,av=>by
  subst e;refine⟨p,q,?_,?_,rfl⟩
  ·refine Go.WideElems.Trod_stays ax (aq t (.head _)).1 (aq t (.head _)).2 aa (λx ab=>?_) (λx ab=>av x (cv.2 (.inl ab)));have cy:=aZ x (cv.2 (.inl ab));cases x with
   |cell b o=>exact World.cell?_of_block (w:=W) (ae.dO b cy)| map b=>exact ae.dO b cy
  ·exact Yi ax ae (λt h=>aq t (.tail _ h)) ad (λx ab=>aZ x (cv.2 (.inr ab))) fU (λx ab=>av x (cv.2 (.inr ab)))
def ajL:mapsRowed Tryz.prog=true:=by kernel_rfl
def ajM:Tryz.prog.stopsHeard=true:=by kernel_rfl
def ajN:Tryz.prog.mayEnter=true:=by kernel_rfl
def CC:fm 0:=⟨by decide,by decide⟩
def i0:hz 0:=⟨by decide,by decide⟩
def Yj{d:al}(ah:d.ok I):Spec Tryz.prog 109 [d.val] I [] λv I' M'=>(∀ b o,I b=some o->I' b=some o)/\∃ t:bk,v=t.val/\t.ok I'/\t.ns=[d]/\t.bC=0/\M'=[]:=by refine bV [] aY Tryz.func109 rfl rfl rfl ?_;intro B ay;refine bW.mk λb ag wz=>?_;refine⟨_,_,.mP rfl (by simp) .refl,lz ag,⟨[d],some ⟨b,0,none⟩,1,1,0⟩,rfl,⟨⟨rfl,⟨b' _,by show 1*96<=_;omega⟩,.inr ⟨_,rfl,rfl,_,_,_,n8 ..,rfl⟩⟩,λx ab=>?_,i0⟩,rfl,rfl,rfl⟩;simp only[eN]at ab;subst ab;exact ah.mono (lz ag)
def CD(k:Int)(s:ByteArray):al:=⟨k,0,0,0,0,s,0,0,none,0,0,[]⟩
def ajO{k:Int}(ae:0<=k/\k<256){s:ByteArray}(av:s.size<=140737488355328):(CD k s).ok I:=
 ⟨ae,CC,CC,CC,CC,by show s.size<=_;omega,i0,i0,⟨rfl,⟨b' _,by show 0*8<=_;omega⟩,.inl rfl⟩,λx ab=>by cases ab⟩
def ajP:Spec Tryz.prog 110 [] I [] λv I' M'=>(∀ b o,I b=some o->I' b=some o)/\∃ t:bk,v=t.val/\t.ok I'/\t.ns=[CD 0 ⟨#[]⟩]/\t.bC=0/\M'=[]:=by refine bV [] aY Tryz.func110 rfl rfl rfl ?_;intro B ay;have ax:=Yj (I:=I) (ajO (k:=0) (s:=⟨#[]⟩) (by decide) (by decide));have aj:(CD 0 ⟨#[]⟩).val=.agg #[.int .u8 0,.int .u64 0,.int .u64 0,.int .u64 0,.int .u64 0,.string ⟨#[]⟩,.int .i64 0,.int .i64 0,.slice none 0 0]:=rfl;rw[aj]at ax;refine a8.mk [] [] _ (.refl _) ax ?_;rintro v I' M' -⟨bA,t,rfl,aq,aa,ad,rfl⟩;exact⟨_,_,.refl,bA,t,rfl,aq,aa,ad,rfl⟩
def LO(d:al):Bool:=decide (d.t=⟨#[]⟩)&&(decide (d.lo=0)&&decide (d.hi=0))
def ajQ(d:al)(n:Int):Bool:=
 bif decide (d.k=0)then LO d&&decide (n=0)else
 bif decide (d.k=1)then LO d&&decide (n=0)else
 bif decide (d.k=2)then decide (d.lo=0)&&(decide (d.hi=0)&&(decide (n=0)&&(decide ((1:Int)<=d.t.size)&&decide ((d.t.size:Int)<=255))))else
 bif decide (d.k=3)then decide (d.lo=0)&&(decide (d.hi=0)&&(decide (n=0)&&nG d.t))else
 bif decide (d.k=4)||decide (d.k=5)then LO d&&decide (2<=n)else
 bif decide (d.k=6)then decide (d.t=⟨#[]⟩)&&(decide (n=1)&&(decide (0<=d.lo)&&(decide (d.lo<=99)&&(decide (d.hi=-1)||(decide (d.lo<=d.hi)&&decide (d.hi<=99))))))else
 bif decide (d.k=7)||decide (d.k=8)then LO d&&decide (n=1)else
 bif decide (d.k=9)then decide (d.lo=0)&&(decide (d.hi=0)&&(decide (n=1)&&nG d.t))else false
def Qx{bC:Int}:∀ {s:List Bool} {i j:Nat},j<s.length->(s.getD j false == decide (((i+j:Nat):Int)=bC))=true->rC bC i s=false
 |b::s,i,0,_,h=>by unfold rC;rw[show(b == decide ((i:Int)=bC))=true by simpa using h];rfl
 |b::s,i,j+1,ai,h=>by
  unfold rC;cases b == decide ((i:Int)=bC)with
  |true=>rfl| false=>simp only[cE];refine Qx (j:=j) (by simpa using ai) ?_;rw[show i+1+j=i+(j+1) by omega];simpa using h
def Yk{bC:Int}:∀ {s:List Bool} {i:Nat},(∀ j,j<s.length->(s.getD j false == decide (((i+j:Nat):Int)=bC))=false)->rC bC i s=true
 |[],i,h=>rfl| b::s,i,h=>by unfold rC;have ay:=h 0 (by simp);rw[show(b == decide ((i:Int)=bC))=false by simpa using ay];simp only[cE];refine Yk λj ai=>?_;have:=h (j+1) (by simpa using ai);rw[show i+1+j=i+(j+1) by omega];simpa using this
structure Yl(I:aH)(a:Option Addr)(c:Nat)(k:Int)(s:ByteArray):Prop where
 a':cI I a 1 c 9 96 (CD k s).cells
def Yl.rd{a:Option Addr}{c:Nat}{k:Int}{s:ByteArray}(h:Yl I a c k s):∃ aM,a=some aM/\∀ M,cR I M (aM.add (0*9)) 9 (CD k s).cells:=by have:=cI.row (f:=al.cells) (l:=[CD k s]) al.cL (size:=9) (j:=0) (by simpa using h.a') (by decide) (b' 1);simpa using this
def bD.b3{X:c3}{o:Oper}{F:Fr}{C:dN}{K:gl}(h:bD X o F C I M (λF C I M=>(M.map (·.num)).Nodup->(∀ x∈M,I x.num=none)->K F C I M)):bD X o F C I M K:=
 ⟨λa w Q aV=>td (λbL w'=>λ⟨dc,C',I',M',⟨β,af⟩,ae⟩=>⟨dc,C',I',M',⟨β,af⟩,ae af.holds.b3 af.holds.d⟩) (h.1 a w Q aV)⟩
def aR.Ai{foot:List Nat}{b:Nat}(h:os.ok size xs)(ag:os.n*b<=140737488355328)(bA:∀ g,os.a=some g->I g=none/\g ∉ foot)(Mr:List aE) :
  ∃ I',(∀ eA dD,hc foot I' Mr eA dD->hc foot I (os.ar e++Mr) eA dD)/\(∀ b o,I b=some o->I' b=some o)/\cI I' (os.a.map λg=>⟨g,0,none⟩) os.n os.c size b xs/\(∀ g,os.a≠some g->I' g=I g):=by
 obtain⟨a,n,c,aS⟩:=os;cases a with
 |none=>obtain⟨aa,ad⟩:=h.nil rfl;simp only at aa ad;subst aa;subst ad;exact⟨I,λ_ _ k=>k,λ_ _ h=>h,⟨h.len,⟨b' _,by simp⟩,.inl rfl⟩,λ_ _=>rfl⟩
 |some g=>obtain⟨aa,ad,ak,aK⟩:=h.cap g rfl;obtain⟨aw,ajR⟩:=bA g rfl;refine⟨ins I g (.cells aS.toArray e (0,0)),λ_ _ k=>.mP rfl ajR k,lz aw,⟨h.len,⟨ad,ag⟩,.inr ⟨⟨g,0,none⟩,rfl,rfl,_,_,_,n8 ..,by simpa using aK⟩⟩,λeg jU=>?_⟩;have:eg≠g:=λe=>jU (by rw[e]);unfold ins;simp only[hI this,cE]
def Ym{ys:List Value}(b4:os.ok size xs){g c:Nat}{aS:List Value}(aC:ys.length=size)(aa:aS.length=c*size)(ad:os.n+1<=c)(ak:c<=maxLen)(aK:aS.take ((os.n+1)*size)=xs++ys) :
  aR.ok ⟨some g,os.n+1,c,aS⟩ size (xs++ys):=by
 have ax:=b4.len;refine⟨?_,(λh=>by cases h),λca sE=>⟨aa,ad,ak,aK⟩⟩;rw[cr,ax,aC];simp only;rw[lX,oI]
abbrev LP:=bk×Int×ByteArray
def LP.b3(x:LP):al:=CD x.2.1 x.2.2
structure LP.ok(I:aH)(x:LP):Prop where
 t:x.1.ok I
 ns:x.1.ns=[x.b3]
 bC:x.1.bC=0
 fits:ajQ x.b3 0=true
def l9(ns:List al):Int->Nat:=mA 0 (λd g=>1+gQ g d.au) ns
def EI(af:right t=true){j:Nat}(ai:j<t.ns.length):l9 t.ns j=1+gQ (l9 t.ns) t.ns[j].au:=
 El (λd g eg h=>by rw[XF h]) af ai
def ajS(af:right t=true):l9 t.ns t.bC<=t.ns.length:=by
 have:=PN af (g:=l9 t.ns) (c:=λ_=>1) λj ai=>by rw[EI af ai];exact b' _
 rwa [Ln,oI]at this
def Yn{i:Nat}:∀ {ks:List Int} {s cg:List Bool},kU i ks s=some cg->∀ j,cg.getD j false=true->s.getD j false=true\/((j:Int)∈ks/\j<i)
 |[],s,cg,h,j,ai=>by simp only[kU,kK]at h;subst h;exact .inl ai
 |k::ks,s,cg,h,j,ai=>by
  unfold kU at h;cases ag:decide (k<0)||(decide ((i:Int)<=k)||s.getD k.toNat false)with
  |true=>rw[ag]at h;cases h
  |false=>
   rw[ag]at h;simp only[cE]at h;simp only[tB,st]at ag;rcases Yn h j ai with aa | aa
   ·by_cases e:k.toNat=j
    ·right
     refine⟨?_,by omega⟩;have:(j:Int)=k:=by omega
     rw[this];exact .head _
    ·left
     simp only[bS,iW]at aa |-;rwa [bN e]at aa
   ·exact .inr ⟨.tail _ aa.1,aa.2⟩
def Yo:∀ {ds:List al} {i:Nat} {s cg:List Bool},jH i ds s=some cg->∀ j,cg.getD j false=true->s.getD j false=true\/∃ q,∃ h:q<ds.length,(j:Int)∈ds[q].au/\j<i+q
 |[],i,s,cg,h,j,ai=>by simp only[jH,kK]at h;subst h;exact .inl ai
 |d::ds,i,s,cg,h,j,ai=>by
  unfold jH at h;cases aB:fits d d.au.length with
  |false=>rw[aB]at h;cases h
  |true=>
   rw[aB]at h;simp only[cF]at h;split at h
   ·rename_i s1 gg;rcases Yo h j ai with aa | ⟨q,aL,aa,ad⟩
    ·rcases Yn gg j aa with ak | ⟨ak,aK⟩
     ·exact .inl ak
     ·exact .inr ⟨0,by simp,ak,by omega⟩
    ·exact .inr ⟨q+1,by simpa using aL,by simpa using aa,by omega⟩
   ·cases h
def Yp(af:right t=true){j:Nat}(ai:j<t.ns.length)(bt:(j:Int)≠t.bC):∃ p,∃ h:p<t.ns.length,(j:Int)∈t.ns[p].au/\j<p:=by
 unfold right at af;simp only[cB]at af;obtain⟨_,_,af⟩:=af;split at af
 ·rename_i s av;have gG:=(PM (g:=λ_=>0) (c:=λ_=>0) av (by simp) (λj ai=>by simp)).1;have hm:s.getD j false=true:=by
   cases ag:s.getD j false with
   |true=>rfl| false=>have:=Qx (bC:=t.bC) (s:=s) (i:=0) (j:=j) (by rw[gG];simpa using ai) (by rw[ag,du];simp[bt]);rw[this]at af;cases af
  rcases Yo av j hm with aa | ⟨q,aL,aa,ad⟩;·simp[bS,ai]at aa
  ·exact⟨q,aL,aa,by omega⟩
 ·cases af
def Yq{g:Int->Nat}:∀ {ks:List Int} {k:Int},k∈ks->g k<=gQ g ks
 |a::ks,k,h=>by
  simp only[gQ,b5,hj];rcases eI.1 h with rfl | h;·omega
  ·have:=Yq (g:=g) h;simp only[gQ]at this;omega
def H2{t:bk}(af:right t=true):∀ (m j:Nat),j<t.ns.length->t.ns.length-j<=m->l9 t.ns j<=t.ns.length
 |0,j,ai,hm=>by omega
 |m+1,j,ai,hm=>by
  by_cases e:(j:Int)=t.bC;·rw[e];exact ajS af
  ·obtain⟨p,aJ,ae,aZ⟩:=Yp af ai e;have aa:=H2 af m p aJ (by omega);rw[EI af aJ]at aa;have:=Yq (g:=l9 t.ns) ae;omega
def H3(g:Int->Nat)(a b:List Int):gQ g (a++b)=gQ g a+gQ g b:=by simp[gQ]
def LQ{t:bk}(af:right t=true):∀ {l:List Int},valid t.ns.length l->l.length<=gQ (l9 t.ns) l
 |[],_=>by simp
 |a::l,aj=>by have aa:=LQ af (l:=l) λk ae=>aj k (.tail _ ae);have ad:=aj a (.head _);obtain⟨a,rfl⟩:=eG ad.1;have ak:=EI af (j:=a) (by omega);simp only[gQ,b5,hj,et]at aa |-;have aK:l9 t.ns (Int.ofNat a)=l9 t.ns a:=rfl;omega
def yv(ns:List al):Nat->List Int->List Int->List Int
 |0,_,b=>b
 |f+1,todo,b=>match todo.getLast? with
  |none=>b| some n=>yv ns f (todo.dropLast++(nodeAt ns n.toNat).au) (b++[n])
def CE(ns:List al)(node:Int):List Int:=yv ns (ns.length+1) [node] []
def Yr(ns:List al)(f:Nat)(b:List Int):yv ns f [] b=b:=by cases f<;>rfl
def Ys(ns:List al)(f:Nat)(todo:List Int)(n:Int)(b:List Int):yv ns (f+1) (todo++[n]) b=yv ns f (todo++(nodeAt ns n.toNat).au) (b++[n]):=by rw[yv];simp only[List.getLast?_concat,List.dropLast_concat]
def al.a4(d:al):al:=⟨d.k,d.cx,d.s1,d.s2,d.cY,d.t,d.lo,d.hi,none,0,0,d.au⟩
def al.dX(d:al)(l:List Int):al:=⟨d.k,d.cx,d.s1,d.s2,d.cY,d.t,d.lo,d.hi,none,0,0,l⟩
def LR(ns:List al)(a0:List Int×List al)(b:Int):List Int×List al:=
 (a0.1.set b.toNat a0.2.length,a0.2++[(nodeAt ns b.toNat).dX ((nodeAt ns b.toNat).au.map λk=>(a0.1.set b.toNat a0.2.length).getD k.toNat 0)])
def wI(ns:List al)(node:Int):List al:=((CE ns node).reverse.foldl (LR ns) (List.replicate ns.length 0,[])).2
def aR.pop{x:Value}(h:os.ok 1 (xs++[x])):aR.ok ⟨os.a,os.n-1,os.c,os.aS⟩ 1 xs:=by
 have ax:=h.len;simp only[cr,et,hB,gM]at ax;refine⟨by simp only;omega,λa7=>?_,λg aw=>?_⟩
 ·have:=h.nil a7;simp only;omega
 ·obtain⟨aa,ad,ak,aK⟩:=h.cap g aw;refine⟨aa,by simp only;omega,ak,?_⟩;simp only;have e:os.n*1=xs.length+1:=by omega
  rw[e]at aK;have:os.aS.take xs.length=(os.aS.take (xs.length+1)).take xs.length:=by rw[zB];congr 1;omega
  rw[show(os.n-1)*1=xs.length by omega,this,aK,we]
structure ajT(t:bk)(node:Int)(x:aR×List Int×aR×List Int×Nat):Prop where
 todo:x.1.ok 1 (x.2.1.map (.int .i64 ·))
 back:x.2.2.1.ok 1 (x.2.2.2.1.map (.int .i64 ·))
 avA:valid t.ns.length x.2.1
 avB:valid t.ns.length x.2.2.2.1
 sum:gQ (l9 t.ns) x.2.1+x.2.2.2.1.length=l9 t.ns node
 fc:gQ (l9 t.ns) x.2.1+1<=x.2.2.2.2
 eq:CE t.ns node=yv t.ns x.2.2.2.2 x.2.1 x.2.2.2.1
structure Yt(I:aH)(t:bk)(rb:List Int)(x:Nat×List Int×aR×List al×aH):Prop where
 j:x.1<=rb.length
 len:x.2.1.length=t.ns.length
 out:x.2.2.1.ok 9 (x.2.2.2.1.flatMap al.cells)
 on:x.2.2.2.1.length=x.1
 eq:(rb.take x.1).foldl (LR t.ns) (List.replicate t.ns.length 0,[])=(x.2.1,x.2.2.2.1.map al.a4)
 ok:∀ d∈x.2.2.2.1,d.ok x.2.2.2.2
 le:∀ b o,I b=some o->x.2.2.2.2 b=some o
 H4:∀ c∈x.2.1,0<=c/\c<=rb.length
 Qy:∀ d∈x.2.2.2.1,∀ k∈d.au,0<=k/\k<=rb.length
structure aW where
 z:Bool
 s:Bool
 f:Bool
 deriving DecidableEq
def aW.cells(x:aW):List Value:=[.bool x.z,.bool x.s,.bool x.f]
def aW.val(x:aW):Value:=.agg #[.bool x.z,.bool x.s,.bool x.f]
def aW.cL(x:aW):x.cells.length=3:=rfl
def aW.j2(x:aW):Bool:=x.z||x.s
def ajU(x y:aW)(p q:Operand)(w:World):(do eqGuard .neq 311 p q x.val y.val;binOp .neq 311 x.val y.val:Sem Value).run Tryz.prog w=.ok (.bool (!decide (x=y))) w:=by
 obtain⟨a,b,c⟩:=x;obtain⟨d,e,f⟩:=y;cases a<;>cases b<;>cases c<;>cases d<;>cases e<;>cases f<;>kernel_rfl
def fT.Yu{x:Operand}{p q:aW}{V:Value->Prop}(h:V (.bool (!decide (p=q)))):fT Tryz.prog .neq 311 x y (.val (.agg #[.bool p.z,.bool p.s,.bool p.f])) (.val (.agg #[.bool q.z,.bool q.s,.bool q.f])) V other:=
 .mk _ _ _ rfl rfl (λw=>ajU p q x y w) h
def Qz{s:Bool}{x:aW}(aa:z=x.z)(ad:s=x.s)(ak:f=x.f):Value.agg #[.bool z,.bool s,.bool f]=x.val:=by subst aa ad ak;rfl
def Yv{s:Bool}{x:aW}(aa:z=x.z)(ad:s=x.s)(ak:f=x.f):[Value.bool z,Value.bool s,Value.bool f]=x.cells:=by subst aa ad ak;rfl
def ajV{a b:Bool}(h:a=b):zu (.val (.bool a)) (.val (.bool b)):=by subst h;exact .refl
def LS{a b:Bool}(h:a=b):zu (.lit a) (.val (.bool b)):=by subst h;exact .lit
def perm_nil:M.Perm (M++[]):=by simp
def fT.ajW{E:Env}(aN:cW P E){t:Nat}{x:Operand}(aq:E t=some db)(dk:db.bP=.array 4 e)(he:E e=some aF){k:IntKind}(kt:aF.bP=.int k)(aw:P.eqGuardType P.depth t=false){ga cQ ef eD qz b1 b8 ev:Int}{V:Value->Prop}
  (h:V (.bool (!(ga == qz&&(cQ == b1&&(ef == b8&&eD == ev)))))):fT P .neq t x y (.val (.agg #[.int k ga,.int k cQ,.int k ef,.int k eD])) (.val (.agg #[.int k qz,.int k b1,.int k b8,.int k ev])) V other:=by
 obtain⟨d,fP,fl⟩:=(aN _ _ aq).fs;obtain⟨qA,Pr,Ps⟩:=(aN _ _ he).fs;obtain⟨inf,z,hi,ft,_⟩:=(aN _ _ he).inf;have aa:d=.array 4 e:=by rw[dk]at fl;cases d<;>simp_all[fr]
 have ad:qA=.int k:=by rw[kt]at Ps;cases qA<;>simp_all[fr]
 subst aa;subst ad;have gg:inf.size=1:=by rw[ft];exact(aN _ _ he).Kz (by rw[kt];rfl)
 refine .mk _ _ _ rfl rfl (λw=>?_) h;simp only[cp,run_eqGuard_agg (hm:=aw),bZ,binOp,WI fP Pr hi gg,da]
def QA(x:aW):Spec Tryz.prog 336 [x.val] I M λv I' M'=>v=.bool x.j2/\I'=I/\M'=M:=by
 obtain⟨a,b,c⟩:=x;refine bV [] aY Tryz.func336 rfl rfl rfl ?_;intro B ay;refine bX.mk (λh=>?_) (λh=>?_)
 ·exact⟨_,_,.refl,by rw[show a=false from h];rfl,rfl,rfl⟩
 ·exact⟨_,_,.refl,by rw[show a=true from h];rfl,rfl,rfl⟩
structure l'(I:aH)(M:List aE)(a:Option Addr)(n:Nat)(ks:List aW):Prop where
 n:ks.length=n
 rd:∀ j (h:j<ks.length),∃ aM,a=some aM/\cR I M (aM.add (j*3)) 3 ks[j].cells
def k2(a0:aW×Bool)(k:aW):aW×Bool:=(⟨a0.1.z&&k.z,a0.1.s||k.s,a0.1.f||(a0.2&&k.f)⟩,a0.2&&k.j2)
def hP(ks:List aW):aW×Bool:=ks.foldl k2 (⟨true,false,false⟩,true)
def hD(ks:List aW):aW:=⟨(hP ks).1.z,(hP ks).1.s&&(hP ks).2,(hP ks).1.f⟩
def o2(f k:aW):aW:=⟨f.z||(f.f&&k.z),f.s||(f.f&&k.s),f.f&&k.f⟩
def pX(ks:List aW):aW:=ks.foldl o2 ⟨false,false,true⟩
def cf:aW:=⟨false,false,false⟩
def yw(d:al)(k:aW):aW:=bif decide (d.hi=0)then⟨true,false,false⟩else⟨k.z||(decide (d.lo=0)&&k.f),k.s,decide (0<d.lo)&&k.f⟩
def gz(d:al)(ks:List aW):aW:=
 bif decide (d.k=0)then⟨true,false,false⟩else
 bif decide (d.k=1)then⟨false,!d.kT,true⟩else
 bif decide (d.k=2)then⟨false,true,true⟩else
 bif decide (d.k=3)then ks.headD cf else
 bif decide (d.k=4)then hD ks else
 bif decide (d.k=5)then pX ks else
 bif decide (d.k=6)then yw d (ks.headD cf)else
 bif decide (d.k=7)then⟨(ks.headD cf).j2,false,(ks.headD cf).f⟩else
 bif decide (d.k=8)then⟨(ks.headD cf).f,false,(ks.headD cf).j2⟩else ks.headD cf
section
variable{I:aH}{M:List aE}{d:al}{a:Option Addr}{n c:Nat}{ks:List aW}
def l'.head(ae:l' I M a n ks)(ay:0<n):∃ aM,a=some aM/\cR I M (aM.add (0*3)) 3 (ks.headD cf).cells:=by
 have aa:0<ks.length:=by rw[ae.n];exact ay
 obtain⟨aM,ad,ak⟩:=ae.rd 0 aa;refine⟨aM,ad,?_⟩;cases ks with
 |nil=>simp at aa| cons k ks=>exact ak
def ajX:Spec Tryz.prog 309 [d.val,.slice a n c] I M λv I' M'=>v=aW.val ⟨true,false,false⟩/\I'=I/\M'=M:=by refine bV [] aY Tryz.func309 rfl rfl rfl ?_;intro B ay;exact⟨_,_,.refl,rfl,rfl,rfl⟩
def ajY:Spec Tryz.prog 311 [d.val,.slice a n c] I M λv I' M'=>v=aW.val ⟨false,true,true⟩/\I'=I/\M'=M:=by refine bV [] aY Tryz.func311 rfl rfl rfl ?_;intro B ay;exact⟨_,_,.refl,rfl,rfl,rfl⟩
def Yw(ae:l' I M a n ks)(ay:0<n):Spec Tryz.prog 312 [d.val,.slice a n c] I M λv I' M'=>v=(ks.headD cf).val/\I'=I/\M'=M:=by refine bV [] aY Tryz.func312 rfl rfl rfl ?_;intro B hg;obtain⟨aM,bB,bp⟩:=ae.head ay;refine bm.mk aM 0 bB rfl ay ?_;refine aO.mk _ bp ?_;exact⟨_,_,.refl,rfl,rfl,rfl⟩
def ajZ(ae:l' I M a n ks)(ay:0<n):Spec Tryz.prog 316 [d.val,.slice a n c] I M λv I' M'=>v=aW.val ⟨(ks.headD cf).j2,false,(ks.headD cf).f⟩/\I'=I/\M'=M:=by refine bV [] aY Tryz.func316 rfl rfl rfl ?_;intro B hg;obtain⟨aM,bB,bp⟩:=ae.head ay;refine cT.draw aY rfl rfl rfl ?_;refine bm.mk aM 0 bB rfl ay ?_;refine aO.mk _ bp ?_;refine bm.mk aM 0 bB rfl ay ?_;refine aO.mk _ (bp.part (k:=2) (m:=1) (by decide)) ?_;refine eJ.oJ M [] _ perm_nil (QA (ks.headD cf)) (λv I' M' h x ab=>by rw[h.2.2];exact ab) ?_;rintro v I' M' -⟨rfl,rfl,rfl⟩;rw[dF];exact⟨_,_,.refl,rfl,rfl,rfl⟩
def aj0(ae:l' I M a n ks)(ay:0<n):Spec Tryz.prog 317 [d.val,.slice a n c] I M λv I' M'=>v=aW.val ⟨(ks.headD cf).f,false,(ks.headD cf).j2⟩/\I'=I/\M'=M:=by refine bV [] aY Tryz.func317 rfl rfl rfl ?_;intro B hg;obtain⟨aM,bB,bp⟩:=ae.head ay;refine cT.draw aY rfl rfl rfl ?_;refine bm.mk aM 0 bB rfl ay ?_;refine aO.mk _ (bp.part (k:=2) (m:=1) (by decide)) ?_;refine bm.mk aM 0 bB rfl ay ?_;refine aO.mk _ bp ?_;refine eJ.oJ M [] _ perm_nil (QA (ks.headD cf)) (λv I' M' h x ab=>by rw[h.2.2];exact ab) ?_;rintro v I' M' -⟨rfl,rfl,rfl⟩;rw[dF];exact⟨_,_,.refl,rfl,rfl,rfl⟩
def aj1:Spec Tryz.prog 310 [d.val,.slice a n c] I M λv I' M'=>v=aW.val ⟨false,!d.kT,true⟩/\I'=I/\M'=M:=by refine bV [] aY Tryz.func310 rfl rfl rfl ?_;intro B ay;refine fT.ajW aY (e:=60) rfl rfl rfl rfl (by kernel_rfl) ?_;exact⟨_,_,.refl,rfl,rfl,rfl⟩
def aj2(ae:l' I M a n ks)(ay:0<n):Spec Tryz.prog 315 [d.val,.slice a n c] I M λv I' M'=>v=(yw d (ks.headD cf)).val/\I'=I/\M'=M:=by
 refine bV [] aY Tryz.func315 rfl rfl rfl ?_;intro B hg;obtain⟨aM,bB,bp⟩:=ae.head ay;generalize ks.headD cf=k at bp;obtain⟨QB,QC,QD⟩:=k;refine aX.mk (λh=>?_) (λh=>?_)
 ·refine⟨_,_,.refl,Qz ?_ ?_ ?_,rfl,rfl⟩<;>simp[yw,h]
 refine bm.mk aM 0 bB rfl ay ?_;refine aO.mk _ bp ?_
 repeat' refine bX.mk (λh=>?_) (λh=>?_)
 all_goals refine⟨_,_,.refl,Qz ?_ ?_ ?_,rfl,rfl⟩
 all_goals first | (simp_all[yw];done) | (simp_all[yw];intros;omega)
def aj3(ae:l' I M a n ks)(aD:n<=140737488355328):Spec Tryz.prog 314 [d.val,.slice a n c] I M λv I' M'=>v=(pX ks).val/\I'=I/\M'=M:=by
 refine bV [] aY Tryz.func314 rfl rfl rfl ?_;intro B hg;have fj:=ae.n;refine dt.inv (ι:=Nat×aW) (λx=>{ bo:=[(4,.ref 4 0),(5,.ref 5 0),(9,.val (.slice a n c)),(10,.val (.int .i64 n)),(11,.val (.int .i64 x.1))],cl:=[(4,cf.cells),(5,x.2.cells)],cH:=I,dd:=M }) (λx=>x.1<=n/\x.2=(ks.take x.1).foldl o2 ⟨false,false,true⟩) (λx=>n-x.1) ?_ ?_
 ·exact⟨(0,⟨false,false,true⟩),⟨dp _,rfl⟩,.refl,hx,.cons rfl (.cons rfl .nil)⟩
 rintro⟨i,f⟩⟨hi,aB⟩;simp only at hi aB;refine aX.mk (λh=>?_) (λh=>?_)
 rotate_left
 ·have c0:n<=i:=by have:=dv h;omega
  refine⟨_,_,.refl,?_,rfl,rfl⟩;rw[fC (by omega)]at aB;rw[pX,<-aB];rfl
 have aZ:i<n:=by have:=cJ h;omega
 obtain⟨aM,bB,bp⟩:=ae.rd i (by omega);have fu:∀ g:aW,g=o2 f (ks[i]'(by omega))->g=(ks.take (i+1)).foldl o2 ⟨false,false,true⟩:=λg aw=>by rw[gj (by omega),tL,<-aB,aw];rfl
 generalize ks[i]'(by omega)=k at bp fu;obtain⟨QB,QC,QD⟩:=k;obtain⟨z,s,QE⟩:=f;refine bm.mk aM i bB rfl aZ ?_;refine aO.mk _ bp ?_
 repeat' refine bX.mk (λh=>?_) (λh=>?_)
 all_goals refine bd.mk _ (c8 (i:=i) (by omega)) ?_
 all_goals refine⟨(i+1,_),⟨⟨by simp only;omega,fu _ rfl⟩,by simp only;omega⟩,.refl,hx,.cons rfl (.cons ?_ .nil)⟩
 all_goals clear fu aB bp
 all_goals (refine congrArg some (Yv ?_ ?_ ?_)<;>simp_all[o2])
def aj4(l:List aW)(k:aW):hP (l++[k])=k2 (hP l) k:=by simp[hP]
def aj5(ae:l' I M a n ks)(aD:n<=140737488355328):Spec Tryz.prog 313 [d.val,.slice a n c] I M λv I' M'=>v=(hD ks).val/\I'=I/\M'=M:=by
 refine bV [] aY Tryz.func313 rfl rfl rfl ?_;intro B hg;have fj:=ae.n;refine dt.inv (ι:=Nat×aW×Bool) (λx=>{ bo:=[(4,.ref 4 0),(5,.ref 5 0),(6,.val (.bool x.2.2)),(10,.val (.slice a n c)),(11,.val (.int .i64 n)),(12,.val (.int .i64 x.1))],cl:=[(4,cf.cells),(5,x.2.1.cells)],cH:=I,dd:=M }) (λx=>x.1<=n/\x.2=hP (ks.take x.1)) (λx=>n-x.1) ?_ ?_
 ·exact⟨(0,⟨true,false,false⟩,true),⟨dp _,rfl⟩,.refl,.cons .refl (.cons .refl (.cons .lit (fG))),.cons rfl (.cons rfl .nil)⟩
 rintro⟨i,f,Aj⟩⟨hi,aB⟩;simp only at hi aB;refine aX.mk (λh=>?_) (λh=>?_)
 rotate_left
 ·have c0:n<=i:=by have:=dv h;omega
  rw[fC (by omega)]at aB;obtain⟨z,s,QE⟩:=f;have aI:(hP ks).1=⟨z,s,QE⟩:=by rw[<-aB]
  have a6:(hP ks).2=Aj:=by rw[<-aB]
  refine bX.mk (λad=>?_) (λad=>?_)
  all_goals refine⟨_,_,.refl,Qz ?_ ?_ ?_,rfl,rfl⟩
  all_goals simp_all[hD]
 have aZ:i<n:=by have:=cJ h;omega
 obtain⟨aM,bB,bp⟩:=ae.rd i (by omega);have fu:∀ g:aW×Bool,g=k2 (f,Aj) (ks[i]'(by omega))->g=hP (ks.take (i+1)):=λg aw=>by rw[gj (by omega),aj4,<-aB,aw]
 generalize ks[i]'(by omega)=k at bp fu;obtain⟨QB,QC,QD⟩:=k;obtain⟨z,s,QE⟩:=f;refine bm.mk aM i bB rfl aZ ?_;refine aO.mk _ bp ?_
 repeat' first
  |refine bX.mk (λh=>?_) (λh=>?_)|(refine a8.mk M [] _ perm_nil (QA ⟨QB,QC,QD⟩) ?_;rintro v I' M' -⟨rfl,rfl,rfl⟩;rw[dF])
 all_goals refine bd.mk _ (c8 (i:=i) (by omega)) ?_
 all_goals refine⟨(i+1,_),⟨⟨by simp only;omega,fu _ rfl⟩,by simp only;omega⟩,.refl,.cons .refl (.cons .refl (.cons ?_ (fG))),.cons rfl (.cons ?_ .nil)⟩
 all_goals clear fu aB bp
 all_goals first
  |(refine congrArg some (Yv ?_ ?_ ?_)<;>simp_all[k2])|(refine ajV ?_;simp_all[k2])|(refine LS ?_;simp_all[k2])
end
def tM(t:bk):List al:=wI t.ns t.bC
def cR.mono{a:Addr}{n:Nat}(h:cR I M a n vs)(bA:∀ b o,I b=some o->I' b=some o):cR I' M a n vs:=by obtain⟨aa,cs,T,an,ad,ak⟩:=h;exact⟨aa,cs,T,an,ad.imp (bA _ _) id,ak⟩
def cR.sub{I:aH}{M M':List aE}{a:Addr}{n:Nat}{vs:List Value}(h:cR I M a n vs)(ba:∀ x∈M,x∈M'):cR I M' a n vs:=by obtain⟨aa,cs,T,an,ad,ak⟩:=h;refine⟨aa,cs,T,an,ad.imp id ?_,ak⟩;rintro⟨x,ab,aI,a6⟩;exact⟨x,ba x ab,aI,a6⟩
def js(a0:List al×List Int)(l:List al):List al×List Int:=
 (a0.1++l.map (λx=>x.dX (x.au.map λk=>(a0.1.length:Int)+k)),a0.2++[((a0.1.length+l.length:Nat):Int)-1])
def sO(d:al)(fX:List (List al)):List al:=(fX.foldl js ([],[])).1++[d.dX (fX.foldl js ([],[])).2]
structure aj6(I:aH)(L:List bk)(x:Nat×aR×List al×aR×List Int×aH):Prop where
 i:x.1<=L.length
 out:x.2.1.ok 9 (x.2.2.1.flatMap al.cells)
 cd:x.2.2.2.1.ok 1 (x.2.2.2.2.1.map (.int .i64 ·))
 fy:x.2.2.2.2.1.length=x.1
 eq:((L.take x.1).map tM).foldl js ([],[])=(x.2.2.1.map al.a4,x.2.2.2.2.1)
 ok:∀ d∈x.2.2.1,d.ok x.2.2.2.2.2
 le:∀ b o,I b=some o->x.2.2.2.2.2 b=some o
 n:x.2.2.1.length<=((L.take x.1).map (·.n)).sum
 Qy:∀ k∈x.2.2.2.2.1,-1<=k/\k<=((L.take x.1).map (·.n)).sum
def Yx(L:List bk)(i:Nat):((L.take i).map (·.n)).sum<=(L.map (·.n)).sum:=by have h:=congrArg (λl:List bk=>(l.map (·.n)).sum) (pM i L);simp only[cM,oT]at h;omega
def Yy(L:List bk)(i:Nat)(hi:i<L.length):((L.take (i+1)).map (·.n)).sum=((L.take i).map (·.n)).sum+L[i].n:=by rw[gj hi,cM,oT];simp
section
variable{X:c3}{β:Nat->Nat}{a:Act}{w:World}{F:Fr}{C:dN}{I:aH}{M:List aE}{o:Oper}{Q:Exit->Act->World->Prop}{K:gl}
def Yz(aN:cW X.P X.E){t:Nat}{k:Nat}(aq:X.E t=some db)(dk:db.bP=.map k e)(ae:X.E k=some tC)(er:tC.bP=.string)(bb:∀ w,(zeroValue e).run X.P w=.ok (.int .i64 0) w){g:Nat}{l:List (ByteArray×Int)}{s:ByteArray}(aw:w.heap[g]?=some (jJ l))(ok:Bool) :
  (Instr.lookup t (.map (some g)) (.string s) ok).run X.P w=.ok (bif ok then .tuple #[.int .i64 ((eW s l).getD 0),.bool (eW s l).isSome]else .int .i64 ((eW s l).getD 0)) w:=by
 obtain⟨d,fP,fl⟩:=(aN _ _ aq).fs;have aa:d=.map k e:=by rw[dk]at fl;cases d<;>simp_all[fr]
 subst aa;obtain⟨dK,sM,gm⟩:=(aN _ _ ae).fs;have ad:dK=.string:=by rw[er]at gm;cases dK<;>simp_all[fr]
 subst ad;have aw:w.heap[g]?=some (.map (o0 l 0).toArray l.length):=aw;obtain⟨r,v',mB⟩:=Lt s l 0 0;have ao:(Instr.checkKey (o0 l 0).toArray.isEmpty 10000 k (.string s)).run X.P w=.ok () w:=Ei (k:=.string s) sM (by simp[MapKept.IsKey]) _ 9999;have vb:(Instr.findKey k (.string s) (o0 l 0)).run X.P w=.ok r w:=Ek sM v';unfold Instr.lookup;simp only[cp,run_underlying fP,bZ,Eg aw,da,ao,vb];cases r with
 |none=>
  cases ax:eW s l with
  |none=>cases ok<;>simp[bb]
  |some v=>rw[ax]at mB;simp at mB
 |some p=>
  cases ax:eW s l with
  |none=>rw[ax]at mB;simp at mB
  |some v=>
   rw[ax]at mB;simp only[lg,kK]at mB;cases ok<;>simp[mB]
def bD.YA(aN:cW X.P X.E){t:Nat}{x:Operand}(aA:o.op=.lookup t x y true)(ah:∀ d,o.dst=some d->d<X.n){k:Nat}(aq:X.E t=some db)(dk:db.bP=.map k e)(ae:X.E k=some tC)(er:tC.bP=.string)(bb:∀ w,(zeroValue e).run X.P w=.ok (.int .i64 0) w){g:Nat}{l:List (ByteArray×Int)}{s:ByteArray}(ab:bH F x=.val (.map (some g)))(aC:bH F y=.val (.string s))(ba:ik I M g (jJ l))
  (h:K (put o.dst (.val (.tuple #[.int .i64 ((eW s l).getD 0),.bool (eW s l).isSome])) F) C I M):bD X o F C I M K:=by
 refine⟨λa w Q ⟨β,aV⟩=>?_⟩;have fb:=Yz aN aq dk ae er bb (ba.heap aV.holds) (s:=s) true;have ex:=dj aV.an ab;have oP:=dj aV.an aC;refine v9 aV ah (by rw[aA];simp) ?_ h;unfold execOp;simp only[aA,ex,oP,cp,fb,bZ,da,cF]
def bD.aj7(aN:cW X.P X.E){t:Nat}{x:Operand}(aA:o.op=.lookup t x y false)(ah:∀ d,o.dst=some d->d<X.n){k:Nat}(aq:X.E t=some db)(dk:db.bP=.map k e)(ae:X.E k=some tC)(er:tC.bP=.string)(bb:∀ w,(zeroValue e).run X.P w=.ok (.int .i64 0) w){g:Nat}{l:List (ByteArray×Int)}{s:ByteArray}(ab:bH F x=.val (.map (some g)))(aC:bH F y=.val (.string s))(ba:ik I M g (jJ l))
  (h:K (put o.dst (.val (.int .i64 ((eW s l).getD 0))) F) C I M):bD X o F C I M K:=by
 refine⟨λa w Q ⟨β,aV⟩=>?_⟩;have fb:=Yz aN aq dk ae er bb (ba.heap aV.holds) (s:=s) false;have ex:=dj aV.an ab;have oP:=dj aV.an aC;refine v9 aV ah (by rw[aA];simp) ?_ h;unfold execOp;simp only[aA,ex,oP,cp,fb,bZ,da,cE]
end
def ob:List (ByteArray×Int)->Nat->List a3->List (ByteArray×Int)
 |a2,_,[]=>a2| a2,i,d::ds=>ob (bif (eW d.name a2).isSome then a2 else a2++[(d.name,(i:Int))]) (i+1) ds
def bM(ds:List a3):List (ByteArray×Int):=ob [] 0 ds
def YB(aw:g.ok I):Spec Tryz.prog 271 [g.val] I [] λv I' M'=>(∀ b o,I b=some o->I' b=some o)/\M'=[]/\∃ h1,v=.map (some h1)/\I' h1=some (jJ (bM g.ds)):=by
 refine xQ [] aY Tryz.func271 rfl rfl rfl ?_;intro B ay;have iG:=aw.n;have hA:=aw.a'.cap;refine bD.makeMap aY rfl (by simp) rfl rfl rfl λj1=>?_;refine dt.inv (ι:=Nat×List (ByteArray×Int)) (λx=>{ bo:=[(1,.ref 1 0),(3,.val (.map (some j1))),(13,.val (.slice g.a g.n g.c)),(14,.val (.int .i64 g.n)),(15,.val (.int .i64 x.1))],cl:=[(1,[.slice g.a g.n g.c])],cH:=I,dd:=[⟨j1,jJ x.2⟩] }) (λx=>x.1<=g.n/\bM g.ds=ob x.2 x.1 (g.ds.drop x.1)) (λx=>g.n-x.1) ?_ ?_
 ·exact⟨(0,[]),⟨dp _,rfl⟩,.refl,hx,.cons rfl .nil⟩
 rintro⟨i,a2⟩⟨hi,aJ⟩;simp only at hi aJ;refine aX.mk (λh=>?_) (λh=>?_)
 ·have aZ:i<g.n:=by have:(i:Int)<(g.n:Int):=cJ h;omega
  have cy:i<g.ds.length:=by omega
  obtain⟨aM,bB,bp⟩:=aw.a'.row a3.cL aZ cy;rw[fg cy,ob]at aJ;refine bm.mk aM i bB rfl aZ ?_;refine aO.mk _ (bp _) ?_;refine bD.YA aY rfl (by simp) rfl rfl rfl rfl (λw=>HS w) (l:=a2) (g:=j1) rfl rfl (.inr ⟨_,.head _,rfl,rfl⟩) ?_;refine aX.mk (λak=>?_) (λak=>?_)
  ·have aD:(eW g.ds[i].name a2).isSome=false:=by simpa using ak
   have ax:eW g.ds[i].name a2=none:=by simpa using aD
   rw[aD,cE]at aJ;refine bD.XY aY rfl rfl rfl rfl rfl rfl rfl rfl rfl ax (Mr:=[]) (.refl _) ?_;refine bd.mk _ (c8 (i:=i) (by omega)) ?_;exact⟨(i+1,_),⟨⟨by simp only;omega,aJ⟩,by simp only;omega⟩,.refl,hx,.cons rfl .nil⟩
  ·have aD:(eW g.ds[i].name a2).isSome=true:=by simpa using ak
   rw[aD,cF]at aJ;refine bd.mk _ (c8 (i:=i) (by omega)) ?_;exact⟨(i+1,_),⟨⟨by simp only;omega,aJ⟩,by simp only;omega⟩,.refl,hx,.cons rfl .nil⟩
 have c0:g.n<=i:=by have:¬ (i:Int)<(g.n:Int):=dv h;omega
 rw[lW (by omega),ob]at aJ;intro eF;have ag:=eF.d ⟨j1,jJ a2⟩ (.head _);exact⟨_,_,.mP rfl (by simp) .refl,lz ag,rfl,j1,rfl,by rw[aJ];exact n8 ..⟩
def aj8:List Nat:=[309,310,311,312,313,314,315,316,317,312]
def QF:List Value:=[.func (.func 309) #[] #[],.func (.func 310) #[] #[],.func (.func 311) #[] #[],.func (.func 312) #[] #[],.func (.func 313) #[] #[],.func (.func 314) #[] #[],.func (.func 315) #[] #[],.func (.func 316) #[] #[],.func (.func 317) #[] #[],.func (.func 312) #[] #[]]
def aj9:Spec Tryz.prog 296 [] I [] λv I' M'=>v=.agg QF.toArray/\I'=I/\M'=[]:=by refine bV [] aY Tryz.func296 rfl rfl rfl ?_;intro B ay;exact⟨_,_,.refl,rfl,rfl,rfl⟩
def wJ{d:al}{a:Option Addr}{n c:Nat}{ks:List aW}(ae:l' I M a n ks)(aD:n<=140737488355328)(j:Nat)(ai:j<10)(ah:d.k=j)(ay:(j=3\/6<=j)->0<n) :
  Spec Tryz.prog (aj8.getD j 0) [d.val,.slice a n c] I M λv I' M'=>v=(gz d ks).val/\I'=I/\M'=M:=by
 match j,ai,ah,ay with
 |0,_,ah,_=>rw[show gz d ks=⟨true,false,false⟩ by simp[gz,ah]];exact ajX (I:=I) (M:=M) (d:=d) (a:=a) (n:=n) (c:=c)| 1,_,ah,_=>rw[show gz d ks=⟨false,!d.kT,true⟩ by simp[gz,ah]];exact aj1 (I:=I) (M:=M) (d:=d) (a:=a) (n:=n) (c:=c)| 2,_,ah,_=>rw[show gz d ks=⟨false,true,true⟩ by simp[gz,ah]];exact ajY (I:=I) (M:=M) (d:=d) (a:=a) (n:=n) (c:=c)| 3,_,ah,ay=>rw[show gz d ks=ks.headD cf by simp[gz,ah]];exact Yw (d:=d) (c:=c) ae (ay (by omega))| 4,_,ah,_=>rw[show gz d ks=hD ks by simp[gz,ah]];exact aj5 (d:=d) (c:=c) ae aD| 5,_,ah,_=>rw[show gz d ks=pX ks by simp[gz,ah]];exact aj3 (d:=d) (c:=c) ae aD| 6,_,ah,ay=>rw[show gz d ks=yw d (ks.headD cf) by simp[gz,ah]];exact aj2 (d:=d) (c:=c) ae (ay (by omega))| 7,_,ah,ay=>rw[show gz d ks=⟨(ks.headD cf).j2,false,(ks.headD cf).f⟩ by simp[gz,ah]];exact ajZ (d:=d) (c:=c) ae (ay (by omega))| 8,_,ah,ay=>rw[show gz d ks=⟨(ks.headD cf).f,false,(ks.headD cf).j2⟩ by simp[gz,ah]];exact aj0 (d:=d) (c:=c) ae (ay (by omega))| 9,_,ah,ay=>rw[show gz d ks=ks.headD cf by simp[gz,ah]];exact Yw (d:=d) (c:=c) ae (ay (by omega))
def fR(b:Nat)(l:List aW):aE:=⟨b,.cells (l.flatMap aW.cells).toArray 311 (0,0)⟩
def CF(l:List aW):(l.flatMap aW.cells).length=l.length*3:=gO _ 3 aW.cL l
def EJ{b:Nat}{l:List aW}(ba:fR b l∈M){j:Nat}(ai:j<l.length):cR I M ((⟨b,0,none⟩:Addr).add (j*3)) 3 l[j].cells:=by have h:=dr (I:=I) (cs:=l.flatMap aW.cells) (k:=j*3) (n:=3) ba (by rw[CF];omega);rwa [Ed aW.cells 3 aW.cL l j ai]at h
def QG(l:List aW)(j:Nat)(ai:j<l.length)(x:aW):cj (l.flatMap aW.cells) (j*3) x.cells=(l.set j x).flatMap aW.cells:=by
 have e:l.flatMap aW.cells=(l.take j).flatMap aW.cells++(l[j].cells++(l.drop (j+1)).flatMap aW.cells):=by
  have aa:l=l.take j++(l[j]::l.drop (j+1)):=by rw[<-fg ai,pM]
  have ad:=congrArg (λq:List aW=>q.flatMap aW.cells) aa;simp only[fI,iS]at ad;exact ad
 have ax:((l.take j).flatMap aW.cells).length=j*3:=by rw[CF,fO];congr 1;omega
 unfold cj;rw[GX,bT ai,fI,iS,e,dW];congr 1
 ·rw[<-ax,we]
 ·congr 1;rw[aW.cL,<-ax,<-dW,Hn (by rw[cr,aW.cL])]
def YC(l:List aW)(x:aW):(l++[x]).flatMap aW.cells=l.flatMap aW.cells++x.cells:=by simp
def aR.zero(h:os.ok size xs):aR.ok ⟨os.a,0,os.c,os.aS⟩ size []:=by refine⟨by simp,λa7=>⟨rfl,(h.nil a7).2⟩,λg aw=>?_⟩;obtain⟨aa,ad,ak,aK⟩:=h.cap g aw;exact⟨aa,dp _,ak,by simp⟩
def aR.YD{l:List aW}(h:os.ok 3 (l.flatMap aW.cells))(ba:∀ x∈os.ar e,x∈M):l' I M (os.a.map λg=>⟨g,0,none⟩) os.n l:=by
 have ax:=h.len;rw[CF]at ax;refine⟨by omega,λj ai=>?_⟩;obtain⟨a,n,c,aS⟩:=os;simp only at ax;cases a with
 |none=>have:=(h.nil rfl).1;simp only at this;omega
 |some g=>
  obtain⟨aa,ad,ak,aK⟩:=h.cap g rfl;simp only at aa ad aK;refine⟨⟨g,0,none⟩,rfl,?_⟩;have hm:(⟨g,.cells aS.toArray e (0,0)⟩:aE)∈M:=ba _ (by simp[aR.ar]);have af:=dr (I:=I) (cs:=aS) (k:=j*3) (n:=3) hm (by omega);have aI:(aS.drop (j*3)).take 3=((aS.take (n*3)).drop (j*3)).take 3:=by rw[D5,zB];congr 1;omega
  rw[aI,aK,Ed aW.cells 3 aW.cL l j ai]at af;exact af
def sP(pl:List (ByteArray×Int))(bo a2:List aW)(d:al):List aW:=
 d.au.map (λk=>a2.getD k.toNat cf)++bif decide (d.k=3)then [bo.getD ((eW d.t pl).getD 0).toNat cf]else []
def eB(pl:List (ByteArray×Int))(bo:List aW):List al->List aW->List aW
 |[],a2=>a2| d::ds,a2=>eB pl bo ds (a2++[gz d (sP pl bo a2 d)])
def H5(pl:List (ByteArray×Int))(bo:List aW):∀ (ds:List al) (a2:List aW),(eB pl bo ds a2).length=a2.length+ds.length
 |[],a2=>rfl| d::ds,a2=>by rw[eB,H5];simp;omega
def YE(pl:List (ByteArray×Int))(n:Nat)(ns:List al):Prop:=∀ d∈ns,d.k=3->∃ i:Nat,eW d.t pl=some (i:Int)/\i<n
def QH{d:al}{n:Int}(h:fits d n=true):d.k<10:=by apply Int.lt_of_not_ge;intro c0;have:(10:Int)<=d.k:=c0;simp[fits,this]at h
def YF{d:al}{n:Int}(ay:0<=d.k)(h:fits d n=true)(ae:6<=d.k):0<n:=by
 have qB:=QH h;have EK:d.k=6\/d.k=7\/d.k=8\/d.k=9:=by omega
 rcases EK with e | e | e | e<;>(simp[fits,e,oR,nH,jG]at h;omega)
def aka(a2:List aW)(n i:Nat)(ax:a2.length=i)(hi:i<n)(x:aW):(a2++List.replicate (n-i) cf).set i x=(a2++[x])++List.replicate (n-(i+1)) cf:=by subst ax;rw[Ct _ _ (b' _),mC,show n-a2.length=(n-(a2.length+1))+1 by omega,Qd,Cu];simp
def YG:∀ n:Nat,rowOf cf.cells (n*3)=(List.replicate n cf).flatMap aW.cells:=λn=>by
 apply oH
 ·rw[CF,zQ];simp[ti,madeCells]
 intro i aa ad;have ak:∀ x∈(List.replicate n cf).flatMap aW.cells,x=Value.bool false:=λx ab=>by obtain⟨y,aC,ab⟩:=hl.1 ab;have:=Qb aC;subst this;simpa[aW.cells,cf]using ab
 rw[ak _ (bJ ad)];have bb:∀ j,j<3->cf.cells[j]! = Value.bool false:=λj ai=>by
  match j,ai with
  |0,_=>rfl| 1,_=>rfl| 2,_=>rfl
 simp only[rowOf,fW,wE];exact bb _ (Nat.mod_lt _ (by decide))
def wK{a2:List aW}{n i:Nat}(mv:a2.length=i)(aZ:i<n)(x:aW):Nat.ble (0+i*3+x.cells.length) ((a2++List.replicate (n-i) cf).flatMap aW.cells).length=true:=by rw[nR,CF,aW.cL,cr,zQ];omega
def YH(aq:t.ok I)(af:right t=true)(hm:I h1=some (jJ pl)){bo:List aW}(l8:l' I M0 la ln bo)(ao:YE pl ln t.ns) :
  Spec Tryz.prog 273 [.map (some h1),.slice la ln lc,t.val] I M0 λv I' M'=>I'=I/\∃ b,v=.slice (some ⟨b,0,none⟩) t.n t.n/\M'=fR b (eB pl bo t.ns [])::M0:=by
 refine bV [] aY Tryz.func273 rfl rfl rfl ?_;intro B ay;have hk:=aq.n;have hA:=aq.a'.cap;refine a8.mk [] M0 _ (.refl _) aj9 ?_;rintro v I1 M1 -⟨rfl,rfl,rfl⟩;refine pB.mk t.n t.n rfl rfl (b' _) (by show 3*t.n<=_;omega) (by omega) ?_;refine bW.mk λdP sQ akb=>?_;refine dt.inv (ι:=Nat×List aW×aR) (λx=>{ bo:=[(0,.val (.map (some h1))),(1,.val (.slice la ln lc)),(5,.ref 5 0),(7,.ref 7 0),(8,.val (.slice (some ⟨dP,0,none⟩) t.n t.n)),(9,.val x.2.2.val),(20,.val (.slice t.a t.n t.c)),(21,.val (.int .i64 t.n)),(22,.val (.int .i64 x.1))],cl:=[(5,t.cells),(7,QF)],cH:=I1,dd:=fR dP (x.2.1++List.replicate (t.n-x.1) cf)::(x.2.2.ar 311++M0) }) (λx=>x.1<=t.n/\x.2.1.length=x.1/\eB pl bo t.ns []=eB pl bo (t.ns.drop x.1) x.2.1/\∃ ks,x.2.2.ok 3 ks) (λx=>t.n-x.1) ?_ ?_
 ·refine⟨(0,[],h2),⟨dp _,rfl,rfl,[],k1 3⟩,?_,lV,.cons rfl (.cons rfl .nil)⟩;have e:rowOf cf.cells (t.n*3)=(List.replicate t.n cf).flatMap aW.cells:=YG t.n;simp only[fR,hX,Ab];rw[<-e];exact .refl
 rintro⟨i,a2,eb⟩⟨hi,mv,EL,avC,jt⟩;simp only at hi mv EL jt;refine aX.mk (λh=>?_) (λh=>?_)
 rotate_left
 ·have c0:i=t.n:=by have:¬ (i:Int)<(t.n:Int):=dv h;omega
  subst c0;rw[lW (by omega),eB]at EL;refine⟨I1,fR dP (a2++List.replicate (t.n-t.n) cf)::M0,.sub (.cons_cons _ (mT _ _)) .refl,rfl,dP,rfl,?_⟩;rw[EL,mC,List.replicate_zero,dF]
 have aZ:i<t.n:=by have:(i:Int)<(t.n:Int):=cJ h;omega
 have cy:i<t.ns.length:=by omega
 obtain⟨aM,bB,bp⟩:=aq.a'.row al.cL aZ cy;have g9:=bJ cy;have ah:=aq.ns _ g9;have fj:=ah.aG;have pY:=ah.a'.cap;have hZ:=ly af i cy;have tN:=Em af cy;have YI:=ao _ g9;have YJ:eB pl bo t.ns []=eB pl bo (t.ns.drop (i+1)) (a2++[gz t.ns[i] (sP pl bo a2 t.ns[i])]):=by rw[EL,fg cy,eB]
 generalize t.ns[i]=d at bp ah fj pY hZ tN YI YJ;have lx:=ah.k.1;have avD:=QH tN;have wL:∀ {M:List aE} {q:Int},fR dP (a2++List.replicate (t.n-i) cf)∈M->q∈d.au->cR I1 M ((⟨dP,0,none⟩:Addr).add (q.toNat*3)) 3 (a2.getD q.toNat cf).cells:=fun {M q} ba aL=>by
  have wM:=hZ q aL;have hC:q.toNat<a2.length:=by omega
  have:=EJ (I:=I1) ba (j:=q.toNat) (by rw[cr];omega);rw[yh hC]at this;simpa[bS,hC]using this
 refine bm.mk aM i bB rfl aZ ?_;refine aO.mk _ (bp _) ?_;refine jR.mk 0 0 rfl rfl (b' _) (dp _) ?_;refine dt.inv (ι:=Nat×aR×List aW) (λx=>{ bo:=[(0,.val (.map (some h1))),(1,.val (.slice la ln lc)),(5,.ref 5 0),(7,.ref 7 0),(8,.val (.slice (some ⟨dP,0,none⟩) t.n t.n)),(9,.val x.2.1.val),(10,.val (.int .i64 i)),(11,.ref 11 0),(20,.val (.slice t.a t.n t.c)),(21,.val (.int .i64 t.n)),(22,.val (.int .i64 i)),(30,.val (.slice d.b0 d.aG d.ch)),(31,.val (.int .i64 d.aG)),(32,.val (.int .i64 x.1))],cl:=[(5,t.cells),(7,QF),(11,d.cells)],cH:=I1,dd:=fR dP (a2++List.replicate (t.n-i) cf)::(x.2.1.ar 311++M0) }) (λx=>x.1<=d.aG/\x.2.1.ok 3 (x.2.2.flatMap aW.cells)/\x.2.2=(d.au.take x.1).map λk=>a2.getD k.toNat cf) (λx=>d.aG-x.1) ?_ ?_
 ·exact⟨(0,⟨eb.a,0,eb.c,eb.aS⟩,[]),⟨dp _,aR.zero jt,rfl⟩,.refl,GW,.cons rfl (.cons rfl (.cons rfl .nil))⟩
 rintro⟨k,c4,fy⟩⟨ae,e1,c7⟩;simp only at ae e1 c7;have avE:c4.n=fy.length:=by have:=e1.len;rw[CF]at this;omega
 have EM:fy.length<=k:=by rw[c7,bx];exact Ej _ _
 refine aX.mk (λh=>?_) (λh=>?_)
 ·have e0:k<d.aG:=by have:(k:Int)<(d.aG:Int):=cJ h;omega
  have ji:k<d.au.length:=by omega
  obtain⟨gn,fo,fh⟩:=ah.a'.one e0 ji;have aL:=hZ _ (bJ ji);refine bm.mk gn k fo rfl e0 ?_;refine aO.mk _ (fh _) ?_;refine bm.mk ⟨dP,0,none⟩ d.au[k].toNat rfl (by omega) (by omega) ?_;refine aO.mk _ (wL (.head _) (bJ ji)) ?_;refine bW.mk λb9 m8 Cq=>?_;refine bD.append aY rfl (by simp) (e:=311) rfl rfl rfl c4 e1 rfl (m:=1) rfl (cb:=(a2.getD d.au[k].toNat cf).cells) (by decide) (dr (b:=b9) (cs:=(a2.getD d.au[k].toNat cf).cells) (k:=0) (n:=3) (T:=311) (.head _) (bK rfl)) rfl (Mr:=⟨b9,.cells (a2.getD d.au[k].toNat cf).cells.toArray 311 (0,0)⟩::fR dP (a2++List.replicate (t.n-i) cf)::M0) (by
   have:=yg [(⟨b9,.cells (a2.getD d.au[k].toNat cf).cells.toArray 311 (0,0)⟩:aE),fR dP (a2++List.replicate (t.n-i) cf)] (c4.ar 311) M0;exact this) (by simp only[maxLen];omega) (by show(c4.n+1)*3<=_;omega) ?_
  intro bi fz CG hn o1 qI Af;refine bd.mk _ (c8 (i:=k) (by omega)) ?_;refine⟨(k+1,⟨some bi,c4.n+1,fz,CG⟩,fy++[a2.getD d.au[k].toNat cf]),⟨⟨by simp only;omega,?_,?_⟩,by simp only;omega⟩,.sub (M1:=[(⟨bi,.cells CG.toArray 311 (0,0)⟩:aE),fR dP (a2++List.replicate (t.n-i) cf)]++M0) (.cons_cons _ (.cons _ (.refl _))) (.perm (List.Perm.swap _ _ _) .refl),GW,.cons rfl (.cons rfl (.cons rfl .nil))⟩;·simp only;rw[YC];exact Ym e1 (aW.cL _) hn o1 qI Af
  ·simp only;rw[gj ji,cM,<-c7];rfl
 have c0:d.aG<=k:=by have:¬ (k:Int)<(d.aG:Int):=dv h;omega
 rw[fC (by omega)]at c7;have avF:fy.length=d.au.length:=by rw[c7,bx]
 have iQ:c4.n+1<=140737488355328:=by omega
 clear h ae EM;have g2:∀ x:aW,cj ((a2++List.replicate (t.n-i) cf).flatMap aW.cells) (0+i*3) x.cells=((a2++[x])++List.replicate (t.n-(i+1)) cf).flatMap aW.cells:=λx=>by rw[du,QG _ _ (by simp;omega),aka a2 t.n i mv aZ]
 have hinv:∀ (o3:aR) (wN:List Value),o3.ok 3 wN->((i+1<=t.n/\(a2++[gz d (sP pl bo a2 d)]).length=i+1/\eB pl bo t.ns []=eB pl bo (t.ns.drop (i+1)) (a2++[gz d (sP pl bo a2 d)])/\∃ ks,o3.ok 3 ks)/\t.n-(i+1)<t.n-i):=λo3 wN ad=>
  ⟨⟨aZ,by simp[mv],YJ,wN,ad⟩,by omega⟩
 by_cases ak:d.k=3
 ·refine aX.mk (λ_=>?_) (λh=>absurd h (by simp[ak]));obtain⟨q,H6,tO⟩:=YI ak;have Ak:sP pl bo a2 d=fy++[bo.getD q cf]:=by rw[sP,<-c7,H6,ak];rfl
  have hC:q<bo.length:=by rw[l8.n];exact tO
  obtain⟨ju,Ex,eH⟩:=l8.rd q hC;have akc:bo.getD q cf=bo[q]:=by simp[bS,hC]
  refine bD.aj7 aY rfl (by simp) rfl rfl rfl rfl (λw=>HS w) (l:=pl) (g:=h1) rfl rfl (.inl hm) ?_;rw[H6];refine bm.mk ju q Ex rfl tO ?_;refine aO.mk _ (eH.sub λx ab=>by simp[ab]) ?_;refine bW.mk λb9 m8 Cq=>?_;refine bD.append aY rfl (by simp) (e:=311) rfl rfl rfl c4 e1 rfl (m:=1) rfl (cb:=bo[q].cells) (by decide) (dr (b:=b9) (cs:=bo[q].cells) (k:=0) (n:=3) (T:=311) (.head _) (bK rfl)) rfl (Mr:=⟨b9,.cells bo[q].cells.toArray 311 (0,0)⟩::fR dP (a2++List.replicate (t.n-i) cf)::M0) (by
   have:=yg [(⟨b9,.cells bo[q].cells.toArray 311 (0,0)⟩:aE),fR dP (a2++List.replicate (t.n-i) cf)] (c4.ar 311) M0;exact this) (by simp only[maxLen];omega) (by show(c4.n+1)*3<=_;omega) ?_
  intro bi fz CG hn o1 qI Af;have iE:=Ym (g:=bi) e1 (aW.cL bo[q]) hn o1 qI Af;rw[<-YC,<-akc,<-Ak]at iE;have er:=aR.YD (I:=I1) (M:=⟨bi,.cells CG.toArray 311 (0,0)⟩::⟨b9,.cells bo[q].cells.toArray 311 (0,0)⟩::fR dP (a2++List.replicate (t.n-i) cf)::M0) (e:=311) iE (λx ab=>by
   simp only[aR.ar,eN]at ab;subst ab;exact .head _)
  refine cT.draw aY rfl rfl rfl ?_;obtain⟨dK,cx,s1,s2,cY,g3,lo,cC,tP,tQ,tR,tS⟩:=d;simp only at ak;subst ak;refine cw.mk 3 rfl (by decide) ?_;refine eJ.oJ _ [] _ perm_nil (wJ (d:=⟨3,cx,s1,s2,cY,g3,lo,cC,tP,tQ,tR,tS⟩) er iQ 3 (by decide) rfl (λ_=>Nat.succ_pos _)) (λv I' M' h x ab=>by rw[h.2.2];exact ab) ?_;rintro v eA dD -⟨rfl,rfl,rfl⟩;rw[dF];refine bm.mk ⟨dP,0,none⟩ i rfl rfl aZ ?_;refine ck.iV [(⟨bi,.cells CG.toArray 311 (0,0)⟩:aE),⟨b9,.cells bo[q].cells.toArray 311 (0,0)⟩] M0 ((a2++List.replicate (t.n-i) cf).flatMap aW.cells) _ rfl (wK mv aZ _) rfl _ (g2 _) ?_;refine bd.mk _ (c8 (i:=i) (by omega)) ?_;exact⟨(i+1,_,⟨some bi,c4.n+1,fz,CG⟩),hinv _ _ iE,.sub (M1:=[(⟨bi,.cells CG.toArray 311 (0,0)⟩:aE),fR dP _]++M0) (.cons_cons _ (.cons _ (.refl _))) (.perm (List.Perm.swap _ _ _) .refl),lV,.cons rfl (.cons rfl .nil)⟩
 refine aX.mk (λh=>absurd (cJ h) ak) (λ_=>?_);have Ak:sP pl bo a2 d=fy:=by rw[sP,<-c7,eY ak];simp
 rw[Ak]at hinv;have er:=aR.YD (I:=I1) (M:=fR dP (a2++List.replicate (t.n-i) cf)::(c4.ar 311++M0)) (e:=311) e1 (λx ab=>by simp[ab]);have ms:6<=d.k->0<c4.n:=λcu=>by have:=YF lx tN cu;omega
 have EK:d.k=0\/d.k=1\/d.k=2\/d.k=4\/d.k=5\/d.k=6\/d.k=7\/d.k=8\/d.k=9:=by omega
 obtain⟨dK,cx,s1,s2,cY,g3,lo,cC,tP,tQ,tR,tS⟩:=d;simp only at EK ms ak;refine cT.draw aY rfl rfl rfl ?_;rcases EK with rfl | rfl | rfl | rfl | rfl | rfl | rfl | rfl | rfl
 ·refine cw.mk 0 rfl (by decide) ?_;refine eJ.oJ _ [] _ perm_nil (wJ (d:=⟨0,cx,s1,s2,cY,g3,lo,cC,tP,tQ,tR,tS⟩) er (yk iQ) 0 (by decide) rfl (λh=>by omega)) (λv I' M' h x ab=>by rw[h.2.2];exact ab) ?_;rintro v eA dD -⟨rfl,rfl,rfl⟩;rw[dF];refine bm.mk ⟨dP,0,none⟩ i rfl rfl aZ ?_;refine ck.iV [] (c4.ar 311++M0) ((a2++List.replicate (t.n-i) cf).flatMap aW.cells) _ rfl (wK mv aZ _) rfl _ (g2 _) ?_;refine bd.mk _ (c8 (i:=i) (by omega)) ?_;exact⟨(i+1,_,c4),hinv _ _ e1,.refl,lV,.cons rfl (.cons rfl .nil)⟩
 ·refine cw.mk 1 rfl (by decide) ?_;refine eJ.oJ _ [] _ perm_nil (wJ (d:=⟨1,cx,s1,s2,cY,g3,lo,cC,tP,tQ,tR,tS⟩) er (yk iQ) 1 (by decide) rfl (λh=>by omega)) (λv I' M' h x ab=>by rw[h.2.2];exact ab) ?_;rintro v eA dD -⟨rfl,rfl,rfl⟩;rw[dF];refine bm.mk ⟨dP,0,none⟩ i rfl rfl aZ ?_;refine ck.iV [] (c4.ar 311++M0) ((a2++List.replicate (t.n-i) cf).flatMap aW.cells) _ rfl (wK mv aZ _) rfl _ (g2 _) ?_;refine bd.mk _ (c8 (i:=i) (by omega)) ?_;exact⟨(i+1,_,c4),hinv _ _ e1,.refl,lV,.cons rfl (.cons rfl .nil)⟩
 ·refine cw.mk 2 rfl (by decide) ?_;refine eJ.oJ _ [] _ perm_nil (wJ (d:=⟨2,cx,s1,s2,cY,g3,lo,cC,tP,tQ,tR,tS⟩) er (yk iQ) 2 (by decide) rfl (λh=>by omega)) (λv I' M' h x ab=>by rw[h.2.2];exact ab) ?_;rintro v eA dD -⟨rfl,rfl,rfl⟩;rw[dF];refine bm.mk ⟨dP,0,none⟩ i rfl rfl aZ ?_;refine ck.iV [] (c4.ar 311++M0) ((a2++List.replicate (t.n-i) cf).flatMap aW.cells) _ rfl (wK mv aZ _) rfl _ (g2 _) ?_;refine bd.mk _ (c8 (i:=i) (by omega)) ?_;exact⟨(i+1,_,c4),hinv _ _ e1,.refl,lV,.cons rfl (.cons rfl .nil)⟩
 ·refine cw.mk 4 rfl (by decide) ?_;refine eJ.oJ _ [] _ perm_nil (wJ (d:=⟨4,cx,s1,s2,cY,g3,lo,cC,tP,tQ,tR,tS⟩) er (yk iQ) 4 (by decide) rfl (λh=>by omega)) (λv I' M' h x ab=>by rw[h.2.2];exact ab) ?_;rintro v eA dD -⟨rfl,rfl,rfl⟩;rw[dF];refine bm.mk ⟨dP,0,none⟩ i rfl rfl aZ ?_;refine ck.iV [] (c4.ar 311++M0) ((a2++List.replicate (t.n-i) cf).flatMap aW.cells) _ rfl (wK mv aZ _) rfl _ (g2 _) ?_;refine bd.mk _ (c8 (i:=i) (by omega)) ?_;exact⟨(i+1,_,c4),hinv _ _ e1,.refl,lV,.cons rfl (.cons rfl .nil)⟩
 ·refine cw.mk 5 rfl (by decide) ?_;refine eJ.oJ _ [] _ perm_nil (wJ (d:=⟨5,cx,s1,s2,cY,g3,lo,cC,tP,tQ,tR,tS⟩) er (yk iQ) 5 (by decide) rfl (λh=>by omega)) (λv I' M' h x ab=>by rw[h.2.2];exact ab) ?_;rintro v eA dD -⟨rfl,rfl,rfl⟩;rw[dF];refine bm.mk ⟨dP,0,none⟩ i rfl rfl aZ ?_;refine ck.iV [] (c4.ar 311++M0) ((a2++List.replicate (t.n-i) cf).flatMap aW.cells) _ rfl (wK mv aZ _) rfl _ (g2 _) ?_;refine bd.mk _ (c8 (i:=i) (by omega)) ?_;exact⟨(i+1,_,c4),hinv _ _ e1,.refl,lV,.cons rfl (.cons rfl .nil)⟩
 ·refine cw.mk 6 rfl (by decide) ?_;refine eJ.oJ _ [] _ perm_nil (wJ (d:=⟨6,cx,s1,s2,cY,g3,lo,cC,tP,tQ,tR,tS⟩) er (yk iQ) 6 (by decide) rfl (λ_=>ms (by decide))) (λv I' M' h x ab=>by rw[h.2.2];exact ab) ?_;rintro v eA dD -⟨rfl,rfl,rfl⟩;rw[dF];refine bm.mk ⟨dP,0,none⟩ i rfl rfl aZ ?_;refine ck.iV [] (c4.ar 311++M0) ((a2++List.replicate (t.n-i) cf).flatMap aW.cells) _ rfl (wK mv aZ _) rfl _ (g2 _) ?_;refine bd.mk _ (c8 (i:=i) (by omega)) ?_;exact⟨(i+1,_,c4),hinv _ _ e1,.refl,lV,.cons rfl (.cons rfl .nil)⟩
 ·refine cw.mk 7 rfl (by decide) ?_;refine eJ.oJ _ [] _ perm_nil (wJ (d:=⟨7,cx,s1,s2,cY,g3,lo,cC,tP,tQ,tR,tS⟩) er (yk iQ) 7 (by decide) rfl (λ_=>ms (by decide))) (λv I' M' h x ab=>by rw[h.2.2];exact ab) ?_;rintro v eA dD -⟨rfl,rfl,rfl⟩;rw[dF];refine bm.mk ⟨dP,0,none⟩ i rfl rfl aZ ?_;refine ck.iV [] (c4.ar 311++M0) ((a2++List.replicate (t.n-i) cf).flatMap aW.cells) _ rfl (wK mv aZ _) rfl _ (g2 _) ?_;refine bd.mk _ (c8 (i:=i) (by omega)) ?_;exact⟨(i+1,_,c4),hinv _ _ e1,.refl,lV,.cons rfl (.cons rfl .nil)⟩
 ·refine cw.mk 8 rfl (by decide) ?_;refine eJ.oJ _ [] _ perm_nil (wJ (d:=⟨8,cx,s1,s2,cY,g3,lo,cC,tP,tQ,tR,tS⟩) er (yk iQ) 8 (by decide) rfl (λ_=>ms (by decide))) (λv I' M' h x ab=>by rw[h.2.2];exact ab) ?_;rintro v eA dD -⟨rfl,rfl,rfl⟩;rw[dF];refine bm.mk ⟨dP,0,none⟩ i rfl rfl aZ ?_;refine ck.iV [] (c4.ar 311++M0) ((a2++List.replicate (t.n-i) cf).flatMap aW.cells) _ rfl (wK mv aZ _) rfl _ (g2 _) ?_;refine bd.mk _ (c8 (i:=i) (by omega)) ?_;exact⟨(i+1,_,c4),hinv _ _ e1,.refl,lV,.cons rfl (.cons rfl .nil)⟩
 ·refine cw.mk 9 rfl (by decide) ?_;refine eJ.oJ _ [] _ perm_nil (wJ (d:=⟨9,cx,s1,s2,cY,g3,lo,cC,tP,tQ,tR,tS⟩) er (yk iQ) 9 (by decide) rfl (λ_=>ms (by decide))) (λv I' M' h x ab=>by rw[h.2.2];exact ab) ?_;rintro v eA dD -⟨rfl,rfl,rfl⟩;rw[dF];refine bm.mk ⟨dP,0,none⟩ i rfl rfl aZ ?_;refine ck.iV [] (c4.ar 311++M0) ((a2++List.replicate (t.n-i) cf).flatMap aW.cells) _ rfl (wK mv aZ _) rfl _ (g2 _) ?_;refine bd.mk _ (c8 (i:=i) (by omega)) ?_;exact⟨(i+1,_,c4),hinv _ _ e1,.refl,lV,.cons rfl (.cons rfl .nil)⟩
structure aW.le(a b:aW):Prop where
 z:a.z=true->b.z=true
 s:a.s=true->b.s=true
 f:a.f=true->b.f=true
def aW.le_refl(a:aW):a.le a:=⟨id,id,id⟩
def aW.le.trans{a b c:aW}(h:a.le b)(bq:b.le c):a.le c:=⟨λx=>bq.z (h.z x),λx=>bq.s (h.s x),λx=>bq.f (h.f x)⟩
def aW.le.antisymm{a b:aW}(h:a.le b)(bq:b.le a):a=b:=by
 obtain⟨cQ,ef,eD⟩:=a;obtain⟨b1,b8,ev⟩:=b;have e:∀ {x y:Bool},(x=true->y=true)->(y=true->x=true)->x=y:=fun {x y} h bq=>by cases x<;>cases y<;>simp_all
 have aI:cQ=b1:=e h.z bq.z;have a6:ef=b8:=e h.s bq.s;have cq:eD=ev:=e h.f bq.f;subst aI a6 cq;rfl
def aW.qJ(a:aW):cf.le a:=⟨(λh=>by cases h),(λh=>by cases h),(λh=>by cases h)⟩
def aW.QI{a b:aW}(h:a.le b):a.j2=true->b.j2=true:=by intro av;simp only[aW.j2,lp]at av |-;exact av.imp h.z h.s
inductive dT:List aW->List aW->Prop
 |nil:dT [] []| cons {a b l m} (h:aW.le a b) (t:dT l m):dT (a::l) (b::m)
def dT.refl:∀ l,dT l l
 |[]=>.nil| a::l=>.cons a.le_refl (dT.refl l)
def dT.trans:∀ {a b c},dT a b->dT b c->dT a c
 |_,_,_,.nil,.nil=>.nil| _,_,_,.cons h t,.cons bq bn=>.cons (h.trans bq) (t.trans bn)
def dT.antisymm:∀ {a b},dT a b->dT b a->a=b
 |_,_,.nil,_=>rfl| _,_,.cons h t,.cons bq bn=>by rw[h.antisymm bq,t.antisymm bn]
def dT.len:∀ {a b},dT a b->a.length=b.length
 |_,_,.nil=>rfl| _,_,.cons h t=>by simp[t.len]
def dT.append:∀ {a b c d},dT a b->dT c d->dT (a++c) (b++d)
 |_,_,_,_,.nil,h=>h| _,_,_,_,.cons h t,bq=>.cons h (t.append bq)
def dT.getD:∀ {a b},dT a b->∀ i,(a.getD i cf).le (b.getD i cf)
 |_,_,.nil,i=>by simp;exact aW.le_refl _
 |_,_,.cons h t,0=>h| _,_,.cons h t,i+1=>by simpa using t.getD i
def dT.of:∀ {a b:List aW},a.length=b.length->(∀ i,i<a.length->(a.getD i cf).le (b.getD i cf))->dT a b
 |[],[],_,_=>.nil| x::a,y::b,ax,h=>.cons (by simpa using h 0 (by simp)) (dT.of (by simpa using ax) λi hi=>by simpa using h (i+1) (by simpa using hi))
def dT.map{α:Type}{f g:α->aW}:∀ {l:List α},(∀ x∈l,(f x).le (g x))->dT (l.map f) (l.map g)
 |[],_=>.nil| x::l,h=>.cons (h x (.head _)) (dT.map λy aC=>h y (.tail _ aC))
def dT.head{a b:List aW}(h:dT a b):(a.headD cf).le (b.headD cf):=by
 cases h with
 |nil=>exact aW.le_refl _| cons h _=>exact h
def dT.qJ:∀ l:List aW,dT (List.replicate l.length cf) l
 |[]=>.nil| a::l=>.cons a.qJ (dT.qJ l)
def YK:∀ {a b:List aW},dT a b->∀ {x y:aW×Bool},x.1.le y.1->(x.2=true->y.2=true)->(a.foldl k2 x).1.le (b.foldl k2 y).1/\((a.foldl k2 x).2=true->(b.foldl k2 y).2=true)
 |_,_,.nil,_,_,aa,ad=>⟨aa,ad⟩
 |_,_,.cons h t,x,y,aa,ad=>by
  refine YK t ⟨?_,?_,?_⟩ ?_;·simp only[k2,cB];exact λg=>⟨aa.z g.1,h.z g.2⟩
  ·simp only[k2,lp];exact λg=>g.imp aa.s h.s
  ·simp only[k2,lp,cB];exact λg=>g.imp aa.f λg=>⟨ad g.1,h.f g.2⟩
  ·simp only[k2,cB];exact λg=>⟨ad g.1,aW.QI h g.2⟩
def YL:∀ {a b:List aW},dT a b->∀ {x y:aW},x.le y->(a.foldl o2 x).le (b.foldl o2 y)
 |_,_,.nil,_,_,aa=>aa
 |_,_,.cons h t,x,y,aa=>by
  refine YL t ⟨?_,?_,?_⟩;·simp only[o2,lp,cB];exact λg=>g.imp aa.z λg=>⟨aa.f g.1,h.z g.2⟩
  ·simp only[o2,lp,cB];exact λg=>g.imp aa.s λg=>⟨aa.f g.1,h.s g.2⟩
  ·simp only[o2,cB];exact λg=>⟨aa.f g.1,h.f g.2⟩
def akd(d:al){a b:aW}(h:a.le b):(yw d a).le (yw d b):=by
 unfold yw;cases decide (d.hi=0)with
 |true=>exact aW.le_refl _
 |false=>
  refine⟨?_,h.s,?_⟩;·simp only[cE,lp,cB];exact λg=>g.imp h.z λg=>⟨g.1,h.f g.2⟩
  ·simp only[cE,cB];exact λg=>⟨g.1,h.f g.2⟩
def YM(d:al){a b:List aW}(h:dT a b):(gz d a).le (gz d b):=by
 have cG:=h.head;unfold gz;cases decide (d.k=0)with
 |true=>exact aW.le_refl _| false=>
 cases decide (d.k=1)with
 |true=>exact aW.le_refl _| false=>
 cases decide (d.k=2)with
 |true=>exact aW.le_refl _| false=>
 cases decide (d.k=3)with
 |true=>exact cG| false=>
 cases decide (d.k=4)with
 |true=>have av:=YK h (x:=(⟨true,false,false⟩,true)) (y:=(⟨true,false,false⟩,true)) (aW.le_refl _) id;refine⟨av.1.z,?_,av.1.f⟩;simp only[cF,cE,hD,hP,cB];exact λg=>⟨av.1.s g.1,av.2 g.2⟩
 |false=>
 cases decide (d.k=5)with
 |true=>exact YL h (aW.le_refl _)| false=>
 cases decide (d.k=6)with
 |true=>exact akd d cG| false=>
 cases decide (d.k=7)with
 |true=>exact⟨aW.QI cG,id,cG.f⟩| false=>
 cases decide (d.k=8)with
 |true=>exact⟨cG.f,id,aW.QI cG⟩| false=>exact cG
def ake{bo Al a2 EN:List aW}(h:dT bo Al)(a7:dT a2 EN)(d:al):dT (sP pl bo a2 d) (sP pl Al EN d):=by
 unfold sP;refine(dT.map λk _=>a7.getD _).append ?_;cases decide (d.k=3)with
 |true=>exact .cons (h.getD _) .nil| false=>exact .nil
def YN{pl:List (ByteArray×Int)}{bo Al:List aW}(h:dT bo Al):∀ (ds:List al) {a2 EN:List aW},dT a2 EN->dT (eB pl bo ds a2) (eB pl Al ds EN)
 |[],_,_,a7=>a7| d::ds,_,_,a7=>YN h ds (a7.append (.cons (YM d (ake h a7 d)) .nil))
def i'(pl:List (ByteArray×Int))(bo:List aW)(d:a3):aW:=(eB pl bo d.t.ns []).getD d.t.bC.toNat cf
def H7{bo Al:List aW}(h:dT bo Al)(d:a3):(i' pl bo d).le (i' pl Al d):=(YN h d.t.ns .nil).getD _
def nS(pl:List (ByteArray×Int)):Nat->List a3->List aW->List aW
 |_,[],l=>l| i,d::ds,l=>nS pl (i+1) ds (l.set i (i' pl l d))
structure o4(ds:List a3)(l:List aW):Prop where
 len:l.length=ds.length
 up:∀ i (h:i<ds.length),(l.getD i cf).le (i' (bM ds) l ds[i])
 least:∀ m:List aW,m.length=ds.length->(∀ i (h:i<ds.length),(i' (bM ds) m ds[i]).le (m.getD i cf))->dT l m
def H8(l:List aW)(i j:Nat)(x:aW)(hi:i<l.length):(l.set i x).getD j cf=if i=j then x else l.getD j cf:=by
 simp only[bS,iW];by_cases e:i=j
 ·subst e;simp[hi]
 ·rw[bN e,bN e]
def o4.start(ds:List a3):o4 ds (List.replicate ds.length cf):=by
 refine⟨by simp,λi h=>?_,λm hm _=>by rw[<-hm];exact dT.qJ m⟩;have:(List.replicate ds.length cf).getD i cf=cf:=by simp[bS,h]
 rw[this];exact aW.qJ _
def o4.step{ds:List a3}{l:List aW}(h:o4 ds l){i:Nat}(hi:i<ds.length):o4 ds (l.set i (i' (bM ds) l ds[i]))/\dT l (l.set i (i' (bM ds) l ds[i])):=by
 have eo:i<l.length:=by rw[h.len];exact hi
 have bf:dT l (l.set i (i' (bM ds) l ds[i])):=dT.of (by simp) λj ai=>by
  rw[H8 _ _ _ _ eo];by_cases e:i=j;·subst e;rw[bT rfl];exact h.up i hi
  ·rw[bN e];exact aW.le_refl _
 refine⟨⟨by simpa using h.len,λj ai=>?_,λm hm ao=>?_⟩,bf⟩
 ·rw[H8 _ _ _ _ eo];by_cases e:i=j
  ·subst e;rw[bT rfl];exact H7 bf _
  ·rw[bN e];exact(h.up j ai).trans (H7 bf _)
 ·have YO:=h.least m hm ao;refine dT.of (by simp[h.len,hm]) λj ai=>?_;rw[H8 _ _ _ _ eo];by_cases e:i=j
  ·subst e;rw[bT rfl];exact(H7 YO _).trans (ao i hi)
  ·rw[bN e];exact YO.getD j
def QJ{ds:List a3}:∀ (bl a9:List a3) {l:List aW},ds=a9++bl->o4 ds l->o4 ds (nS (bM ds) a9.length bl l)/\dT l (nS (bM ds) a9.length bl l) /\ (nS (bM ds) a9.length bl l=l->∀ i (h:i<ds.length),a9.length<=i->l.getD i cf=i' (bM ds) l ds[i])
 |[],a9,l,fD,h=>⟨h,dT.refl l,λ_ i hi c0=>by rw[fD,dF]at hi;omega⟩
 |d::bl,a9,l,fD,h=>by
  have hi:a9.length<ds.length:=by rw[fD];simp
  have ah:ds[a9.length]=d:=by simp[fD]
  have eo:a9.length<l.length:=by rw[h.len];exact hi
  obtain⟨s1,s2⟩:=h.step hi;rw[ah]at s1 s2;obtain⟨hn,o1,qI⟩:=QJ bl (a9++[d]) (by rw[fD];simp) s1;rw[cr,et,hB,du]at hn o1 qI;refine⟨hn,s2.trans o1,λe i hW c0=>?_⟩;have aI:l.set a9.length (i' (bM ds) l d)=l:=by refine dT.antisymm ?_ s2;have:nS (bM ds) a9.length (d::bl) l=nS (bM ds) (a9.length+1) bl (l.set a9.length (i' (bM ds) l d)):=rfl;rw[this]at e;rw[e]at o1;exact o1
  have a6:nS (bM ds) (a9.length+1) bl l=l:=by have:nS (bM ds) a9.length (d::bl) l=nS (bM ds) (a9.length+1) bl (l.set a9.length (i' (bM ds) l d)):=rfl;rw[this,aI]at e;exact e
  rw[aI]at qI;by_cases aJ:i=a9.length;·subst aJ;have aK:=H8 l a9.length a9.length (i' (bM ds) l d) eo;rw[aI,bT rfl]at aK;rw[aK,ah]
  ·exact qI a6 i hW (by omega)
structure iw(ds:List a3)(l:List aW):Prop where
 len:l.length=ds.length
 fix:∀ i (h:i<ds.length),l.getD i cf=i' (bM ds) l ds[i]
 least:∀ m:List aW,m.length=ds.length->(∀ i (h:i<ds.length),(i' (bM ds) m ds[i]).le (m.getD i cf))->dT l m
def o4.done{ds:List a3}{l:List aW}(h:o4 ds l)(aB:nS (bM ds) 0 ds l=l):iw ds l:=
 ⟨h.len,λi hi=>(QJ ds [] rfl h).2.2 aB i hi (dp _),h.least⟩
def iw.unique{ds:List a3}{l eu:List aW}(h:iw ds l)(bq:iw ds eu):l=eu:=
 dT.antisymm (h.least eu bq.len λi hi=>by rw[<-bq.fix i hi];exact aW.le_refl _) (bq.least l h.len λi hi=>by rw[<-h.fix i hi];exact aW.le_refl _)
def EO(x:aW):Nat:=(bif x.z then 0 else 1)+((bif x.s then 0 else 1)+(bif x.f then 0 else 1))
def Am(l:List aW):Nat:=(l.map EO).sum
def akf{a b:aW}(h:a.le b):EO b<=EO a/\(EO a<=EO b->a=b):=by
 obtain⟨cQ,ef,eD⟩:=a;obtain⟨b1,b8,ev⟩:=b;obtain⟨aa,ad,ak⟩:=h;cases cQ<;>cases b1<;>cases ef<;>cases b8<;>cases eD<;>cases ev<;>simp_all[EO]
def YP:∀ {l m:List aW},dT l m->Am m<=Am l/\(Am l<=Am m->l=m)
 |_,_,.nil=>⟨b' _,λ_=>rfl⟩| _,_,.cons h t=>by obtain⟨aa,ad⟩:=akf h;obtain⟨t1,t2⟩:=YP t;simp only[Am,b5,hj]at t1 t2 |-;refine⟨by omega,λh=>?_⟩;rw[ad (by omega),t2 (by omega)]
def akg{l m:List aW}(h:dT l m)(bt:m≠l):Am m<Am l:=by obtain⟨aa,ad⟩:=YP h;apply Nat.lt_of_le_of_ne aa;intro e;exact bt (ad (by omega)).symm
def yx(nm:ByteArray):List a3->Nat->Option Int
 |[],_=>none| d::ds,i=>bif decide (nm=d.name)then some (i:Int)else yx nm ds (i+1)
def YQ(s n:ByteArray)(v:Int):∀ l:List (ByteArray×Int),eW s (l++[(n,v)])=match eW s l with
  |some x=>some x| none=>bif decide (s=n)then some v else none
 |[]=>rfl
 |p::l=>by
  have aQ:=YQ s n v l;simp only[pN,eW];cases decide (s=p.1)with
  |true=>rfl| false=>simpa using aQ
def YR:∀ (ds:List a3) (a2:List (ByteArray×Int)) (i:Nat) (nm:ByteArray),eW nm (ob a2 i ds)=match eW nm a2 with
  |some x=>some x| none=>yx nm ds i
 |[],a2,i,nm=>by rw[ob,yx];cases eW nm a2<;>rfl
 |d::ds,a2,i,nm=>by
  rw[ob,YR ds,yx];cases ah:(eW d.name a2).isSome with
  |true=>
   simp only[cF];cases ax:eW nm a2 with
   |some x=>rfl
   |none=>
    have:decide (nm=d.name)=false:=by rw[st];intro e;rw[<-e,ax]at ah;cases ah
    rw[this];rfl
  |false=>
   simp only[cE,YQ];cases ax:eW nm a2 with
   |some x=>rfl| none=>cases decide (nm=d.name)<;>rfl
def QK(ds:List a3)(nm:ByteArray):eW nm (bM ds)=yx nm ds 0:=YR ds [] 0 nm
def QL:∀ {ds:List a3} {i:Nat} {nm:ByteArray} {v:Int},yx nm ds i=some v->∃ j:Nat,v=((i+j:Nat):Int)/\j<ds.length
 |d::ds,i,nm,v,h=>by
  unfold yx at h;cases ah:decide (nm=d.name)with
  |true=>rw[ah]at h;simp only[cF,kK]at h;exact⟨0,by rw[<-h];rfl,by simp⟩| false=>rw[ah]at h;obtain⟨j,aa,ad⟩:=QL h;exact⟨j+1,by rw[aa];congr 1;omega,by simpa using ad⟩
def wO(pl:List (ByteArray×Int))(ns:List al):Bool:=ns.all λd=>!decide (d.k=3)||(eW d.t pl).isSome
def YS{ds:List a3}(h:wO (bM ds) ns=true):YE (bM ds) ds.length ns:=by intro d ah ae;have:=fS.1 h d ah;simp only[ae,Ly,wg,uM]at this;obtain⟨v,aj⟩:=Option.isSome_iff_exists.1 this;have lk:=aj;rw[QK]at lk;obtain⟨j,aa,ad⟩:=QL lk;rw[du]at aa;exact⟨j,by rw[aj,aa],ad⟩
def YT:∀ (ds:List a3) {a2 r:List (ByteArray×Int)} {i:Nat},l7 a2 i ds=some r->ob a2 i ds=r
 |[],a2,r,i,h=>by simp only[l7,kK]at h;exact h
 |d::ds,a2,r,i,h=>by
  unfold l7 at h;cases ah:(eW d.name a2).isSome with
  |true=>rw[ah]at h;cases h| false=>rw[ah]at h;rw[ob,ah];exact YT ds h
def akh{d:a3}{b3:al}(aD:b3∈d.t.ns):∀ (ds:List a3) (i:Nat),d∈ds->∃ j,(j,b3)∈qH i ds:=by
 intro ds
 induction ds with
 |nil=>intro i ah;cases ah
 |cons x ds aQ=>
  intro i ah;rcases eI.1 ah with e | ah;·subst e;exact⟨i,cv.2 (.inl (cP.2 ⟨b3,aD,rfl⟩))⟩
  ·obtain⟨j,ai⟩:=aQ (i+1) ah;exact⟨j,cv.2 (.inr ai)⟩
def aki(h:c6 az g=0):∀ d∈g.ds,wO (bM g.ds) d.t.ns=true:=by
 unfold c6 at h;cases aa:decide ((g.n:Int)=0)with
 |true=>rw[aa]at h;cases h| false=>
 cases ad:oa g.ds with
 |false=>rw[aa,ad]at h;cases h| true=>
 cases ak:pV az g with
 |true=>rw[aa,ad,ak]at h;cases h| false=>
 rw[aa,ad,ak]at h;simp only[cE,wg]at h;split at h
 ·cases h
 ·rename_i a2 mv;have aJ:bM g.ds=a2:=YT g.ds mv;cases aK:rP a2 g.ds with
  |false=>rw[aK]at h;cases h| true=>intro d ah;rw[aJ,wO,fS];intro b3 bU;obtain⟨j,ai⟩:=akh bU g.ds 0 ah;exact fS.1 aK _ ai
def akj(h:c6 az g=0):oa g.ds=true:=by
 unfold c6 at h;cases aa:decide ((g.n:Int)=0)with
 |true=>rw[aa]at h;cases h| false=>
 cases ad:oa g.ds with
 |false=>rw[aa,ad]at h;cases h| true=>rfl
def l'.mono{a:Option Addr}{n:Nat}{ks:List aW}(h:l' I M a n ks)(bA:∀ b o,I b=some o->I' b=some o):l' I' M a n ks:=
 ⟨h.n,λj ai=>by
  obtain⟨aM,aa,ad⟩:=h.rd j ai;exact⟨aM,aa,ad.mono bA⟩⟩
def l'.sub{I:aH}{M M':List aE}{a:Option Addr}{n:Nat}{ks:List aW}(h:l' I M a n ks)(ba:∀ x∈M,x∈M'):l' I M' a n ks:=
 ⟨h.n,λj ai=>by
  obtain⟨aM,aa,ad⟩:=h.rd j ai;exact⟨aM,aa,ad.sub ba⟩⟩
def LU{b:Nat}{l:List aW}(ba:fR b l∈M):l' I M (some ⟨b,0,none⟩) l.length l:=
 ⟨rfl,λj ai=>⟨_,rfl,EJ ba ai⟩⟩
def An(g:cU)(bo:List aW)(t:bk):Option (List aW):=bif decide (bo.length=g.n)&&(right t&&wO (bM g.ds) t.ns)then some (eB (bM g.ds) bo t.ns [])else none
def akk(be:e2 I az)(aw:g.ok I)(aq:t.ok I){bo:List aW}(l8:l' I M0 la ln bo) :
  Spec Tryz.prog 217 [g.val,.slice la ln lc,t.val] I M0 λv I' M'=>(∀ b o,I b=some o->I' b=some o) /\
   ((An g bo t=none/\v=.tuple #[.slice none 0 0,.bool false]/\M'=M0)\/∃ r b,An g bo t=some r/\v=.tuple #[.slice (some ⟨b,0,none⟩) t.n t.n,.bool true]/\M'=fR b r::M0):=by
 refine bV [] aY Tryz.func217 rfl rfl rfl ?_;intro B ay;have iG:=aw.n;have hk:=aq.n;have hA:=aq.a'.cap;have yy:=l8.n;refine bX.mk (λh=>?_) (λh=>?_)
 rotate_left
 ·refine⟨_,_,.refl,λ_ _ h=>h,.inl ⟨?_,rfl,rfl⟩⟩;have bt:¬ (ln:Int)=(g.n:Int):=by simpa using h
  have:decide (bo.length=g.n)=false:=eY (by omega);simp[An,this]
 have sR:ln=g.n:=by
  have:(ln:Int)=(g.n:Int):=by simpa using h
  omega
 have iY:decide (bo.length=g.n)=true:=iX (by omega);refine a8.mk [] M0 _ (.refl _) (n7 be.c aq) ?_;rintro v I1 M1 -⟨rfl,rfl,rfl⟩;refine aX.mk (λh=>?_) (λh=>?_)
 ·refine⟨_,_,.refl,λ_ _ h=>h,.inl ⟨?_,rfl,rfl⟩⟩;have:right t=false:=by simpa using h
  simp[An,this]
 have af:right t=true:=by simpa using h
 refine a8.mk [] M0 _ (.refl _) (YB aw) ?_;rintro v eA dD -⟨gq,rfl,h1,rfl,EP⟩;have nO:=aq.mono gq;refine dt.inv (ι:=Nat) (λx=>{ bo:=[(1,.val (.slice la ln lc)),(3,.ref 3 0),(5,.ref 5 0),(8,.val (.map (some h1))),(27,.val (.slice t.a t.n t.c)),(28,.val (.int .i64 t.n)),(29,.val (.int .i64 x))],cl:=[(3,[.slice g.a g.n g.c]),(5,t.cells)],cH:=eA,dd:=M0 }) (λx=>x<=t.n/\∀ d∈t.ns.take x,(!decide (d.k=3)||(eW d.t (bM g.ds)).isSome)=true) (λx=>t.n-x) ?_ ?_
 ·exact⟨0,⟨dp _,λd ah=>by simp at ah⟩,.refl,rh,.cons rfl (.cons rfl .nil)⟩
 rintro i⟨hi,mu⟩;refine aX.mk (λh=>?_) (λh=>?_)
 ·have aZ:i<t.n:=by have:(i:Int)<(t.n:Int):=cJ h;omega
  have cy:i<t.ns.length:=by omega
  obtain⟨aM,bB,bp⟩:=nO.a'.row al.cL aZ cy;have m1:t.ns.take (i+1)=t.ns.take i++[t.ns[i]]:=gj cy;have gh:=bJ cy;have next:(!decide (t.ns[i].k=3)||(eW t.ns[i].t (bM g.ds)).isSome)=true->∀ d∈t.ns.take (i+1),(!decide (d.k=3)||(eW d.t (bM g.ds)).isSome)=true:=λh d ah=>by
   rw[m1]at ah;rcases cv.1 ah with ah | ah;·exact mu d ah
   ·simp only[eN]at ah;rw[ah];exact h
  refine bm.mk aM i bB rfl aZ ?_;refine aO.mk _ (bp _) ?_;refine aX.mk (λak=>?_) (λak=>?_);·refine bd.mk _ (c8 (i:=i) (by omega)) ?_;refine⟨i+1,⟨⟨by omega,next ?_⟩,by omega⟩,.refl,rh,.cons rfl (.cons rfl .nil)⟩;rw[show(!decide (t.ns[i].k=3))=true from ak];rfl
  ·refine bD.YA aY rfl (by simp) rfl rfl rfl rfl (λw=>HS w) (l:=bM g.ds) (g:=h1) rfl rfl (.inl EP) ?_;refine aX.mk (λaK=>?_) (λaK=>?_)
   ·refine⟨_,_,.refl,gq,.inl ⟨?_,rfl,rfl⟩⟩;have bz:wO (bM g.ds) t.ns=false:=by
     rw[wO,Lb];refine⟨_,gh,?_⟩;have cu:(eW t.ns[i].t (bM g.ds)).isSome=false:=by simpa using aK
     rw[cu,show(!decide (t.ns[i].k=3))=false from ak];simp
    simp[An,bz]
   ·refine bd.mk _ (c8 (i:=i) (by omega)) ?_;refine⟨i+1,⟨⟨by omega,next ?_⟩,by omega⟩,.refl,rh,.cons rfl (.cons rfl .nil)⟩;have cu:(eW t.ns[i].t (bM g.ds)).isSome=true:=by simpa using aK
    rw[cu];simp
 have c0:i=t.n:=by have:¬ (i:Int)<(t.n:Int):=dv h;omega
 rw[fC (by omega)]at mu;have eK:wO (bM g.ds) t.ns=true:=fS.2 mu;have EQ:=YS eK;rw[iG,<-sR]at EQ;refine a8.mk M0 [] _ perm_nil (YH nO af EP (l8.mono gq) EQ) ?_;rintro v lu oM -⟨rfl,b,rfl,rfl⟩;rw[dF];exact⟨_,_,.refl,gq,.inr ⟨_,b,by rw[An,iY,af,eK];rfl,rfl,rfl⟩⟩
structure wP(g:cU):Prop where
 n:g.ds.length=g.n
 right:∀ d∈g.ds,right d.t=true
 named:∀ d∈g.ds,wO (bM g.ds) d.t.ns=true
def LV(aD:g.ds.length=g.n)(h:c6 az g=0):wP g:=by refine⟨aD,λd ah=>?_,aki h⟩;have:=fS.1 (akj h) d ah;simp only[normal,cB]at this;exact this.2.1
def ofM(b6 h1 dU gH b1:Nat)(g:cU)(l:List aW):List aE:=[⟨b6,.cells #[.map (some h1)] 155 (0,0)⟩,⟨dU,.cells #[.slice (some ⟨gH,0,none⟩) g.n g.n] 259 (0,0)⟩,fR gH l,⟨b1,.cells #[.slice g.a g.n g.c] 30 (0,0)⟩]
def H9(a b c d:α):[a,b,c,d].Perm ([c]++[a,b,d]):=na (l₁:=[a,b]) (l₂:=[d])
def akl(x a b c d:α):[x,a,b,c,d].Perm ([c]++[x,a,b,d]):=na (l₁:=[x,a,b]) (l₂:=[d])
def LW{b:Nat}{f:aW}(ba:(⟨b,.cells f.cells.toArray 311 (0,0)⟩:aE)∈M):cR I M (⟨b,0,none⟩:Addr) 3 f.cells:=⟨rfl,_,_,_,.inr ⟨_,ba,rfl,rfl⟩,rfl,rfl⟩
def YU{l:List aW}{i:Nat}(hi:i<l.length){x:aW}:Nat.ble (0+i*3+x.cells.length) (l.flatMap aW.cells).length=true:=by rw[nR,CF,aW.cL];omega
def ck.rS{a:Addr}{K:List aE->Prop}(a9 post:List aE)(cs:Array Value)(T:Nat)(ba:M=a9++⟨a.block,.cells cs T (0,0)⟩::post)(av:a.spot=none)(ag:Nat.ble (a.off+vs.length) cs.size=true)(aa:fK vs=true)(cs':List Value)(he:cj cs.toList a.off vs=cs')(k:K (a9++⟨a.block,.cells cs'.toArray T (0,0)⟩::post)):ck M a vs K:=
 ⟨a9,post,cs,T,ba,av,bK ag,aa,by rw[he];exact k⟩
def akm(aw:g.ok I)(hm:wP g){b6 dU gH b1:Nat}(EP:I h1=some (jJ (bM g.ds))){fH:List aW}(BM:o4 g.ds fH) :
  Spec Tryz.prog 272 [ptr b1,ptr b6,ptr dU] I (ofM b6 h1 dU gH b1 g fH) λv I' M'=>v=.bool (decide (nS (bM g.ds) 0 g.ds fH≠fH))/\I'=I/\M'=ofM b6 h1 dU gH b1 g (nS (bM g.ds) 0 g.ds fH):=by
 refine bV [] aY Tryz.func272 rfl rfl rfl ?_;intro B ay;have iG:=aw.n;have hA:=aw.a'.cap;have LX:∀ {M:List aE},(⟨b1,.cells #[.slice g.a g.n g.c] 30 (0,0)⟩:aE)∈M->cR I M ((⟨b1,0,none⟩:Addr).add 0) 1 [.slice g.a g.n g.c]:=λba=>dr (cs:=[.slice g.a g.n g.c]) (k:=0) (n:=1) ba (by simp);have akn:∀ {M:List aE},(⟨b6,.cells #[.map (some h1)] 155 (0,0)⟩:aE)∈M->cR I M (⟨b6,0,none⟩:Addr) 1 [.map (some h1)]:=λba=>⟨rfl,_,_,_,.inr ⟨_,ba,rfl,rfl⟩,rfl,rfl⟩;have CH:∀ {M:List aE},(⟨dU,.cells #[.slice (some ⟨gH,0,none⟩) g.n g.n] 259 (0,0)⟩:aE)∈M->cR I M (⟨dU,0,none⟩:Addr) 1 [.slice (some ⟨gH,0,none⟩) g.n g.n]:=λba=>⟨rfl,_,_,_,.inr ⟨_,ba,rfl,rfl⟩,rfl,rfl⟩;refine aO.mk _ (LX (by simp[ofM])) ?_;refine dt.inv (ι:=Nat×List aW) (λx=>{ bo:=[(0,.val (ptr b1)),(1,.val (ptr b6)),(2,.val (ptr dU)),(4,.val (.bool (decide (x.2≠fH)))),(9,.val (.slice g.a g.n g.c)),(10,.val (.int .i64 g.n)),(11,.val (.int .i64 x.1))],cH:=I,dd:=ofM b6 h1 dU gH b1 g x.2 }) (λx=>x.1<=g.n/\o4 g.ds x.2/\dT fH x.2/\nS (bM g.ds) 0 g.ds fH=nS (bM g.ds) x.1 (g.ds.drop x.1) x.2) (λx=>g.n-x.1) ?_ ?_
 ·refine⟨(0,fH),⟨dp _,BM,dT.refl _,rfl⟩,.refl,.cons .refl (.cons .refl (.cons .refl (.cons ?_ (fG)))),.nil⟩;exact LS (by simp)
 rintro⟨i,l⟩⟨hi,qK,bf,fv⟩;simp only at hi qK bf fv;have nD:=qK.len;refine aX.mk (λh=>?_) (λh=>?_)
 rotate_left
 ·have c0:i=g.n:=by have:¬ (i:Int)<(g.n:Int):=dv h;omega
  rw[lW (by omega),nS]at fv;exact⟨_,_,.refl,by rw[fv],rfl,by rw[fv]⟩
 have aZ:i<g.n:=by have:(i:Int)<(g.n:Int):=cJ h;omega
 have cy:i<g.ds.length:=by omega
 have eo:i<l.length:=by omega
 obtain⟨aM,bB,bp⟩:=aw.a'.row a3.cL aZ cy;have g9:=bJ cy;have ah:=aw.ds _ g9;have af:=hm.right _ g9;have EQ:=YS (hm.named _ g9);rw[show g.ds.length=l.length from nD.symm]at EQ;obtain⟨tT,g0⟩:=qK.step cy;have yz:nS (bM g.ds) 0 g.ds fH=nS (bM g.ds) (i+1) (g.ds.drop (i+1)) (l.set i (i' (bM g.ds) l g.ds[i])):=by rw[fv,fg cy,nS]
 have H':i' (bM g.ds) l g.ds[i]=(eB (bM g.ds) l g.ds[i].t.ns []).getD g.ds[i].t.bC.toNat cf:=rfl;generalize i' (bM g.ds) l g.ds[i]=f at tT g0 yz H';generalize g.ds[i]=d at bp ah af EQ H';have m5:=l4 af;have hk:=ah.t.n;have oL:=H5 (bM g.ds) l d.t.ns [];simp only[hB,du]at oL;have eH:d.t.bC.toNat<(eB (bM g.ds) l d.t.ns []).length:=by omega
 have wa:(eB (bM g.ds) l d.t.ns [])[d.t.bC.toNat]=f:=by rw[H'];simp[bS,eH]
 have QM:=YH (M0:=[fR gH l]) (ln:=l.length) (lc:=g.n) ah.t af EP (LU (I:=I) (eN.2 rfl)) EQ;rw[show l.length=g.n by omega]at QM;refine bm.mk aM i bB rfl aZ ?_;refine aO.mk _ (bp _) ?_;have ako:l.getD i cf=l[i]:=by simp[bS,eo]
 have more:(!decide (f=l[i]))=true->decide (l.set i f≠fH)=true:=λh=>by
  have bt:f≠l[i]:=by simpa using h
  rw[h6];intro e;have a6:l.set i f=l:=by refine dT.antisymm ?_ g0;rw[e];exact bf
  have ak:=H8 l i i f eo;rw[a6,bT rfl,ako]at ak;exact bt ak.symm
 have same:(!decide (f=l[i]))=false->l.set i f=l:=λh=>by
  have he:f=l[i]:=by simpa using h
  rw[he];exact List.set_getElem_self eo
 refine cT.draw aY rfl rfl rfl ?_;refine aO.mk _ (akn (by simp[ofM])) ?_;refine aO.mk _ (CH (by simp[ofM])) ?_;refine⟨?_,?_⟩
 ·refine eJ.oJ [fR gH l] [⟨b6,.cells #[.map (some h1)] 155 (0,0)⟩,⟨dU,.cells #[.slice (some ⟨gH,0,none⟩) g.n g.n] 259 (0,0)⟩,⟨b1,.cells #[.slice g.a g.n g.c] 30 (0,0)⟩] _ (H9 ..) QM (λv I' M' h x ab=>by obtain⟨-,b,-,rfl⟩:=h;exact .tail _ ab) ?_;rintro v eA dD -⟨rfl,b,rfl,rfl⟩;refine bm.mk ⟨b,0,none⟩ d.t.bC.toNat rfl (by omega) (by omega) ?_;refine aO.mk _ (EJ (.head _) eH) ?_;rw[wa];refine bW.mk λb7 Ia LY=>?_;refine ck.rS [] [fR b (eB (bM g.ds) l d.t.ns []),fR gH l,⟨b6,.cells #[.map (some h1)] 155 (0,0)⟩,⟨dU,.cells #[.slice (some ⟨gH,0,none⟩) g.n g.n] 259 (0,0)⟩,⟨b1,.cells #[.slice g.a g.n g.c] 30 (0,0)⟩] _ _ rfl rfl rfl rfl f.cells rfl ?_;refine cT.draw aY rfl rfl rfl ?_;refine aO.mk f.cells (LW (by simp)) ?_;refine aO.mk _ (CH (by simp)) ?_;refine bm.mk ⟨gH,0,none⟩ i rfl rfl aZ ?_;refine aO.mk _ (EJ (by simp) eo) ?_;refine fT.Yu (p:=f) (q:=l[i]) ?_;refine aX.mk (λh=>?_) (λh=>?_)
  ·refine aO.mk _ (CH (by simp)) ?_;refine aO.mk f.cells (LW (by simp)) ?_;refine bm.mk ⟨gH,0,none⟩ i rfl rfl aZ ?_;refine ck.iV [(⟨b7,.cells f.cells.toArray 311 (0,0)⟩:aE),fR b (eB (bM g.ds) l d.t.ns [])] [⟨b6,.cells #[.map (some h1)] 155 (0,0)⟩,⟨dU,.cells #[.slice (some ⟨gH,0,none⟩) g.n g.n] 259 (0,0)⟩,⟨b1,.cells #[.slice g.a g.n g.c] 30 (0,0)⟩] (l.flatMap aW.cells) _ rfl (YU eo) rfl ((l.set i f).flatMap aW.cells) (by rw[du];exact QG l i eo f) ?_;refine bd.mk _ (c8 (i:=i) (by omega)) ?_;refine⟨(i+1,l.set i f),⟨⟨by simp only;omega,tT,bf.trans g0,yz⟩,by simp only;omega⟩,.sub (M1:=[fR gH (l.set i f),⟨b6,.cells #[.map (some h1)] 155 (0,0)⟩,⟨dU,.cells #[.slice (some ⟨gH,0,none⟩) g.n g.n] 259 (0,0)⟩,⟨b1,.cells #[.slice g.a g.n g.c] 30 (0,0)⟩]) (by exact .cons _ (.cons _ (.refl _))) (.perm (H9 ..).symm .refl),.cons .refl (.cons .refl (.cons .refl (.cons (LS (more h).symm) (fG)))),.nil⟩
  ·have he:l.set i f=l:=same h;rw[he]at yz;refine bd.mk _ (c8 (i:=i) (by omega)) ?_;exact⟨(i+1,l),⟨⟨by simp only;omega,qK,bf,yz⟩,by simp only;omega⟩,.sub (M1:=[fR gH l,⟨b6,.cells #[.map (some h1)] 155 (0,0)⟩,⟨dU,.cells #[.slice (some ⟨gH,0,none⟩) g.n g.n] 259 (0,0)⟩,⟨b1,.cells #[.slice g.a g.n g.c] 30 (0,0)⟩]) (by exact .cons _ (.cons _ (.refl _))) (.perm (H9 ..).symm .refl),rh,.nil⟩
 ·refine bW.mk λb7 Ia LY=>?_;refine eJ.oJ [fR gH l] [(⟨b7,.cells cf.cells.toArray 311 (0,0)⟩:aE),⟨b6,.cells #[.map (some h1)] 155 (0,0)⟩,⟨dU,.cells #[.slice (some ⟨gH,0,none⟩) g.n g.n] 259 (0,0)⟩,⟨b1,.cells #[.slice g.a g.n g.c] 30 (0,0)⟩] _ (akl ..) QM (λv I' M' h x ab=>by obtain⟨-,b,-,rfl⟩:=h;exact .tail _ ab) ?_;rintro v eA dD -⟨rfl,b,rfl,rfl⟩;refine bm.mk ⟨b,0,none⟩ d.t.bC.toNat rfl (by omega) (by omega) ?_;refine aO.mk _ (EJ (.head _) eH) ?_;rw[wa];refine ck.rS [fR b (eB (bM g.ds) l d.t.ns []),fR gH l] [⟨b6,.cells #[.map (some h1)] 155 (0,0)⟩,⟨dU,.cells #[.slice (some ⟨gH,0,none⟩) g.n g.n] 259 (0,0)⟩,⟨b1,.cells #[.slice g.a g.n g.c] 30 (0,0)⟩] _ _ rfl rfl rfl rfl f.cells rfl ?_;refine cT.draw aY rfl rfl rfl ?_;refine aO.mk f.cells (LW (by simp)) ?_;refine aO.mk _ (CH (by simp)) ?_;refine bm.mk ⟨gH,0,none⟩ i rfl rfl aZ ?_;refine aO.mk _ (EJ (by simp) eo) ?_;refine fT.Yu (p:=f) (q:=l[i]) ?_;refine aX.mk (λh=>?_) (λh=>?_)
  ·refine aO.mk _ (CH (by simp)) ?_;refine aO.mk f.cells (LW (by simp)) ?_;refine bm.mk ⟨gH,0,none⟩ i rfl rfl aZ ?_;refine ck.iV [fR b (eB (bM g.ds) l d.t.ns [])] [(⟨b7,.cells f.cells.toArray 311 (0,0)⟩:aE),⟨b6,.cells #[.map (some h1)] 155 (0,0)⟩,⟨dU,.cells #[.slice (some ⟨gH,0,none⟩) g.n g.n] 259 (0,0)⟩,⟨b1,.cells #[.slice g.a g.n g.c] 30 (0,0)⟩] (l.flatMap aW.cells) _ rfl (YU eo) rfl ((l.set i f).flatMap aW.cells) (by rw[du];exact QG l i eo f) ?_;refine bd.mk _ (c8 (i:=i) (by omega)) ?_;refine⟨(i+1,l.set i f),⟨⟨by simp only;omega,tT,bf.trans g0,yz⟩,by simp only;omega⟩,.sub (M1:=[fR gH (l.set i f),⟨b6,.cells #[.map (some h1)] 155 (0,0)⟩,⟨dU,.cells #[.slice (some ⟨gH,0,none⟩) g.n g.n] 259 (0,0)⟩,⟨b1,.cells #[.slice g.a g.n g.c] 30 (0,0)⟩]) (by exact .cons _ (.cons_cons _ (.cons _ (.refl _)))) (.perm (H9 ..).symm .refl),.cons .refl (.cons .refl (.cons .refl (.cons (LS (more h).symm) (fG)))),.nil⟩
  ·have he:l.set i f=l:=same h;rw[he]at yz;refine bd.mk _ (c8 (i:=i) (by omega)) ?_;exact⟨(i+1,l),⟨⟨by simp only;omega,qK,bf,yz⟩,by simp only;omega⟩,.sub (M1:=[fR gH l,⟨b6,.cells #[.map (some h1)] 155 (0,0)⟩,⟨dU,.cells #[.slice (some ⟨gH,0,none⟩) g.n g.n] 259 (0,0)⟩,⟨b1,.cells #[.slice g.a g.n g.c] 30 (0,0)⟩]) (by exact .cons _ (.cons_cons _ (.cons _ (.refl _)))) (.perm (H9 ..).symm .refl),rh,.nil⟩
def akp(be:e2 I az)(aw:g.ok I):Spec Tryz.prog 216 [g.val] I [] λv I' M'=>(∀ b o,I b=some o->I' b=some o) /\
  ((c6 az g≠0/\v=.tuple #[.slice none 0 0,.int .i64 (c6 az g)]/\M'=[])\/(c6 az g=0/\∃ b l,v=.tuple #[.slice (some ⟨b,0,none⟩) g.n g.n,.int .i64 0]/\M'=[fR b l]/\iw g.ds l)):=by
 refine bV [1,5,6] aY Tryz.func216 rfl rfl rfl ?_;intro B ay;have iG:=aw.n;have hA:=aw.a'.cap;refine bW.mk λb1 jF QN=>?_;refine aO.mk [.slice g.a g.n g.c] ⟨rfl,_,_,_,.inr ⟨_,.head _,rfl,rfl⟩,rfl,rfl⟩ ?_;refine a8.mk [] [⟨b1,.cells #[.slice g.a g.n g.c] 30 (0,0)⟩] _ (.refl _) (Lz be aw) ?_;rintro v I1 M1 -⟨rfl,de,rfl⟩;refine aX.mk (λh=>?_) (λh=>?_)
 ·have hm:c6 az g≠0:=by simpa using h
  exact⟨_,_,.sub (gd _) .refl,de,.inl ⟨hm,rfl,rfl⟩⟩
 have hm:c6 az g=0:=by simpa using h
 have ba:=LV iG hm;refine aO.mk _ (dr (b:=b1) (cs:=[.slice g.a g.n g.c]) (k:=0) (n:=1) (T:=30) (.head _) (by simp)) ?_;refine pB.mk g.n g.n rfl rfl (b' _) (by show 3*g.n<=_;omega) (by omega) ?_;refine bW.mk λgH kR avG=>?_;have e:rowOf cf.cells (g.n*3)=(List.replicate g.ds.length cf).flatMap aW.cells:=by rw[iG];exact YG g.n
 refine bW.mk λdU Cy LA=>?_;refine ck.rS [] _ _ _ rfl rfl rfl rfl [.slice (some ⟨gH,0,none⟩) g.n g.n] rfl ?_;refine aO.mk [.slice g.a g.n g.c] ⟨rfl,_,_,_,.inr ⟨_,.tail _ (.tail _ (.head _)),rfl,rfl⟩,rfl,rfl⟩ ?_;refine a8.mk [] _ _ (.refl _) (YB (aw.mono de)) ?_;rintro v eA dD -⟨gq,rfl,h1,rfl,EP⟩;refine bW.mk λb6 Lr XO=>?_;refine ck.rS [] _ _ _ rfl rfl rfl rfl [.map (some h1)] rfl ?_;refine dt.inv (ι:=List aW) (λl=>{ bo:=[(5,.val (ptr dU)),(7,.val (.func (.func 272) #[] #[ptr b1,ptr b6,ptr dU]))],cH:=eA,dd:=ofM b6 h1 dU gH b1 g l }) (o4 g.ds) Am ?_ ?_
 ·refine⟨List.replicate g.ds.length cf,.start g.ds,?_,xR,.nil⟩;simp only[ofM,fR];rw[<-e];exact .refl
 intro l ax;refine a8.mk (ofM b6 h1 dU gH b1 g l) [] _ (.refl _) (akm ((aw.mono de).mono gq) ba EP ax) ?_;rintro v lu oM -⟨rfl,rfl,rfl⟩;obtain⟨hn,o1,-⟩:=QJ g.ds [] rfl ax;refine aX.mk (λh=>?_) (λh=>?_)
 ·exact⟨_,⟨hn,akg o1 (cJ h)⟩,.refl,xR,.nil⟩
 ·have aB:nS (bM g.ds) 0 g.ds l=l:=by have:=dv h;exact Classical.not_not.1 this
  rw[aB];refine aO.mk [.slice (some ⟨gH,0,none⟩) g.n g.n] ⟨rfl,_,_,_,.inr ⟨_,.tail _ (.head _),rfl,rfl⟩,rfl,rfl⟩ ?_;refine⟨lu,[fR gH l],.sub (.cons _ (.cons _ (.cons_cons _ (gd _)))) .refl,λb o h=>gq _ _ (de _ _ h),.inr ⟨hm,gH,l,rfl,rfl,ax.done aB⟩⟩
def bk.a4(t:bk):bk:=⟨t.ns.map al.a4,none,t.n,0,t.bC⟩
def a3.a4(d:a3):a3:=⟨d.name,d.t.a4⟩
def cU.a4(g:cU):cU:=⟨g.ds.map a3.a4,none,g.n,0⟩
def YV:∀ (ds:List al) (i:Nat) (s:List Bool),jH i (ds.map al.a4) s=jH i ds s
 |[],i,s=>rfl| d::ds,i,s=>by have h:∀ cg,jH (i+1) (ds.map al.a4) cg=jH (i+1) ds cg:=λcg=>YV ds (i+1) cg;rw[b5,jH,jH];simp only[h];rfl
def wQ(t:bk):right t.a4=right t:=by unfold right bk.a4;simp only[YV,bx]
def YW(ns:List al)(k:Int):iF (ns.map al.a4) k=iF ns k:=by unfold iF;rw[gu];rfl
def YX(ns:List al)(kind:Int):∀ ks,ky (ns.map al.a4) kind ks=ky ns kind ks
 |[]=>rfl| k::ks=>by rw[ky,ky,YW,YX ns kind ks]
def YY(ns:List al):∀ ds:List al,kY (ns.map al.a4) (ds.map al.a4)=kY ns ds
 |[]=>rfl| d::ds=>by have h:=YX ns d.k d.au;rw[b5,kY,kY,YY ns ds];show(bif !decide (d.k=4) && !decide (d.k=5)then kY ns ds else bif ky (ns.map al.a4) d.k d.au then kY ns ds else false)=_;rw[h]
def akq(t:bk):normal t.a4=normal t:=by unfold normal;rw[wQ];congr 1;exact YY t.ns t.ns
def YZ:∀ (ds:List al) (i:Nat) (g4:List Int),wA i (ds.map al.a4) g4=wA i ds g4
 |[],i,g4=>rfl| d::ds,i,g4=>by rw[b5,wA,wA,YZ ds];rfl
def akr(t:bk):depth t.a4=depth t:=by unfold depth;rw[wQ];simp only[bk.a4,YZ,bx]
def aks(t:bk):pO t.a4=pO t:=by unfold pO;rw[wQ,akr];rfl
def Ib{α:Type}{z:α}{f g:al->(Int->α)->α}(h:∀ d q,f d.a4 q=g d q):∀ (ds:List al) (a2:List α),gF z f (ds.map al.a4) a2=gF z g ds a2
 |[],a2=>rfl| d::ds,a2=>by rw[b5,gF,gF,h,Ib h ds]
def akt(az:List Int)(ns:List al)(k:Int):kW az (ns.map al.a4) k=kW az ns k:=by unfold kW mA;rw[Ib (g:=Ew az ns) (λd q=>?_)];show rJ az d++(u4 (Ev d) (λk=>paren (hN d.k (iF (ns.map al.a4) k)) (q k)) false d.au++pT d)=_;simp only[YW];rfl
def aku(az:List Int)(t:bk):nM az t.a4=nM az t:=by unfold nM;rw[wQ];have:kW az t.a4.ns t.a4.bC=kW az t.ns t.bC:=akt az t.ns t.bC;rw[this]
def akv(az:List Int)(d:a3):qE az d.a4=qE az d:=by unfold qE;have:nM az d.a4.t=nM az d.t:=aku az d.t;rw[this];rfl
def Y0(az:List Int):∀ (ds:List a3) (a2:List UInt8),qF az (ds.map a3.a4) a2=qF az ds a2
 |[],a2=>rfl| d::ds,a2=>by rw[b5,qF,qF,akv,Y0 az ds]
def akw(g:cU):va g.a4=va g:=by unfold va cU.a4;rw[gu];congr 1;refine fV λd _=>?_;show sK d.t.a4=sK d.t;unfold sK;rw[wQ];rfl
def Y1{q:a3->Bool}(h:∀ d,q d.a4=q d)(ds:List a3):(ds.map a3.a4).all q=ds.all q:=by rw[Lw];congr 1;funext d;exact h d
def akx(az:List Int)(g:cU):pV az g.a4=pV az g:=by unfold pV;rw[akw];have aa:(g.a4.ds.all λd=>pO d.t)=g.ds.all λd=>pO d.t:=Y1 (λd=>aks d.t) g.ds;have ad:qF az g.a4.ds []=qF az g.ds []:=Y0 az g.ds [];rw[aa,ad];rfl
def aky(ds:List a3):oa (ds.map a3.a4)=oa ds:=Y1 (q:=λd=>nG d.name&&normal d.t) (λd=>by
 show(nG d.name&&normal d.t.a4)=_;rw[akq]) ds
def Y2:∀ (ds:List a3) (a2:List (ByteArray×Int)) (i:Nat),l7 a2 i (ds.map a3.a4)=l7 a2 i ds
 |[],a2,i=>rfl| d::ds,a2,i=>by rw[b5,l7,l7];show(bif (eW d.name a2).isSome then none else l7 (a2++[(d.name,(i:Int))]) (i+1) (ds.map a3.a4))=_;rw[Y2 ds]
def Y3:∀ (ds:List a3) (i:Nat),qH i (ds.map a3.a4)=(qH i ds).map λp=>(p.1,p.2.a4)
 |[],i=>rfl| d::ds,i=>by rw[b5,qH,qH,Y3 ds,cM,gu];show(d.t.ns.map al.a4).map (λn=>(i,n))++_=_;rw[gu];rfl
def akz(a2:List (ByteArray×Int))(ds:List a3):rP a2 (ds.map a3.a4)=rP a2 ds:=by unfold rP;rw[Y3,Lw];rfl
def CI(az:List Int)(g:cU):c6 az g.a4=c6 az g:=by unfold c6;rw[akx];have aa:oa g.a4.ds=oa g.ds:=aky g.ds;have ad:l7 [] 0 g.a4.ds=l7 [] 0 g.ds:=Y2 g.ds [] 0;have ak:∀ a2,rP a2 g.a4.ds=rP a2 g.ds:=λa2=>akz a2 g.ds;rw[aa,ad];simp only[ak];rfl
def Y4(pl:List (ByteArray×Int))(bo:List aW):∀ (ds:List al) (a2:List aW),eB pl bo (ds.map al.a4) a2=eB pl bo ds a2
 |[],a2=>rfl| d::ds,a2=>by rw[b5,eB,eB,Y4 pl bo ds];rfl
def Y5:∀ (ds:List a3) (a2:List (ByteArray×Int)) (i:Nat),ob a2 i (ds.map a3.a4)=ob a2 i ds
 |[],a2,i=>rfl| d::ds,a2,i=>by rw[b5,ob,ob,Y5 ds];rfl
def ER(ds:List a3):bM (ds.map a3.a4)=bM ds:=Y5 ds [] 0
def LZ(pl:List (ByteArray×Int))(bo:List aW)(d:a3):i' pl bo d.a4=i' pl bo d:=by unfold i';have:eB pl bo d.a4.t.ns []=eB pl bo d.t.ns []:=Y4 pl bo d.t.ns [];rw[this];rfl
def akA{ds:List a3}{l:List aW}(h:iw ds l):iw (ds.map a3.a4) l:=by
 refine⟨by rw[h.len,bx],λi hi=>?_,λm hm ao=>?_⟩
 ·have cC:i<ds.length:=by simpa using hi
  rw[ER,fW,LZ];exact h.fix i cC
 ·refine h.least m (by rw[hm,bx]) λi hi=>?_;have:=ao i (by simpa using hi);rwa [ER,fW,LZ]at this
def jK(l:List al):bk:=⟨l,none,l.length,0,(l.length:Int)-1⟩
structure Y6(I:aH)(t:bk)(l:List al):Prop where
 ok:t.ok I
 a4:t.ns.map al.a4=l
 bC:t.bC=(l.length:Int)-1
def Y6.len{l:List al}(h:Y6 I t l):t.n=l.length:=by rw[<-h.ok.n,<-h.a4,bx]
def eL(ns:List al):List Int:=ns.flatMap (·.au)
def hQ(l:List Int):Prop:=l.Pairwise (·≠·)
def ES(s:List Bool)(l:List Int):Prop:=∀ j,s.getD j false=true ↔ ((j:Int)∈l/\j<s.length)
def Y7{i:Nat}:∀ {ks seen:List Int} {s:List Bool},i<=s.length->ES s seen->hQ seen -> ((∃ cg,kU i ks s=some cg) ↔ ((∀ k∈ks,0<=k/\k<i)/\hQ (seen++ks)))/\∀ cg,kU i ks s=some cg->cg.length=s.length/\ES cg (seen++ks)
 |[],seen,s,hi,hm,ah=>by refine⟨⟨λ_=>⟨λk ae=>by(cases ae),by simpa using ah⟩,λ_=>⟨s,rfl⟩⟩,λcg h=>?_⟩;simp only[kU,kK]at h;subst h;exact⟨rfl,by simpa using hm⟩
 |k::ks,seen,s,hi,hm,ah=>by
  unfold kU;cases ag:decide (k<0)||(decide ((i:Int)<=k)||s.getD k.toNat false)with
  |true=>
   refine⟨⟨λ⟨cg,h⟩=>(by cases h),λ⟨aa,ad⟩=>?_⟩,λcg h=>by cases h⟩;exfalso;have ak:=aa k (.head _);simp only[lp,h6]at ag;rcases ag with ag | ag | ag;·omega
   ·omega
   ·have:=(hm _).1 ag;rw[zS ak.1]at this;exact(rN.1 ad).2.2 k this.1 k (.head _) rfl
  |false=>
   simp only[tB,st]at ag;obtain⟨b1,b8,ev⟩:=ag;have ae:k.toNat<s.length:=by omega
   have er:k ∉ seen:=λh=>by have:=(hm k.toNat).2 ⟨by rw[zS (by omega)];exact h,ae⟩;rw[ev]at this;cases this
   have sv:ES (s.set k.toNat true) (seen++[k]):=λj=>by
    have:=hm j;simp only[bS,iW,rO,cv,eN]at this |-;by_cases e:k.toNat=j;·subst e;rw[bT rfl,bT ae];simp only[kL,true_iff];exact⟨.inr (by omega),ae⟩
    ·rw[bN e,this];constructor
     ·rintro⟨aa,ad⟩;exact⟨.inl aa,ad⟩
     ·rintro⟨aa | aa,ad⟩
      ·exact⟨aa,ad⟩
      ·omega
   have fE:hQ (seen++[k]):=rN.2 ⟨ah,by simp,λa a7 b ag e=>by
    simp only[eN]at ag;subst ag;subst e;exact er a7⟩
   have aQ:=Y7 (i:=i) (ks:=ks) (seen:=seen++[k]) (s:=s.set k.toNat true) (by simpa using hi) sv fE;simp only[cE];rw[dW,qG]at aQ;refine⟨aQ.1.trans ⟨λ⟨aa,ad⟩=>⟨λx ab=>?_,ad⟩,λ⟨aa,ad⟩=>⟨λx ab=>aa x (.tail _ ab),ad⟩⟩,λcg h=>?_⟩
   ·rcases eI.1 ab with rfl | ab
    ·omega
    ·exact aa x ab
   ·have:=aQ.2 cg h;simpa using this
def Y8:∀ {ds:List al} {i:Nat} {seen:List Int} {s:List Bool},i+ds.length<=s.length->ES s seen->hQ seen -> ((∃ cg,jH i ds s=some cg) ↔ ((∀ j (h:j<ds.length),fits ds[j] ds[j].au.length=true/\∀ k∈ds[j].au,0<=k/\k<i+j)/\hQ (seen++eL ds)))/\∀ cg,jH i ds s=some cg->cg.length=s.length/\ES cg (seen++eL ds)
 |[],i,seen,s,hi,hm,ah=>by refine⟨⟨λ_=>⟨λj ai=>by simp at ai,by simpa[eL]using ah⟩,λ_=>⟨s,rfl⟩⟩,λcg h=>?_⟩;simp only[jH,kK]at h;subst h;exact⟨rfl,by simpa[eL]using hm⟩
 |d::ds,i,seen,s,hi,hm,ah=>by
  unfold jH;have ae:=Y7 (i:=i) (ks:=d.au) (by simp at hi;omega) hm ah;have eO:eL (d::ds)=d.au++eL ds:=rfl;cases aB:fits d d.au.length with
  |false=>refine⟨⟨λ⟨cg,h⟩=>(by cases h),λ⟨aa,ad⟩=>?_⟩,λcg h=>by cases h⟩;have:=(aa 0 (by simp)).1;simp only[tp]at this;rw[aB]at this;cases this
  |true=>
   simp only[cF];cases aL:kU i d.au s with
   |none=>
    refine⟨⟨λ⟨cg,h⟩=>(by cases h),λ⟨aa,ad⟩=>?_⟩,λcg h=>by cases h⟩;exfalso;have:∃ cg,kU i d.au s=some cg:=ae.1.2 ⟨λk ae=>by
     have:=(aa 0 (by simp)).2 k ae;omega,by
     rw[eO,<-dW]at ad;exact(rN.1 ad).1⟩
    obtain⟨cg,h⟩:=this;rw[aL]at h;cases h
   |some s1=>
    obtain⟨akB,c1⟩:=ae.2 s1 aL;obtain⟨hn,d1⟩:=ae.1.1 ⟨s1,aL⟩;have aQ:=Y8 (ds:=ds) (i:=i+1) (seen:=seen++d.au) (s:=s1) (by simp at hi;omega) c1 d1;rw[dW,<-eO]at aQ;simp only;refine⟨aQ.1.trans ⟨λ⟨aa,ad⟩=>⟨λj ai=>?_,ad⟩,λ⟨aa,ad⟩=>⟨λj ai=>?_,ad⟩⟩,λcg h=>?_⟩
    ·cases j with
     |zero=>exact⟨aB,λk ae=>by have:=hn k ae;omega⟩| succ j=>have:=aa j (by simpa using ai);refine⟨this.1,λk ae=>?_⟩;have:=this.2 k ae;omega
    ·have:=aa (j+1) (by simpa using ai);refine⟨this.1,λk ae=>?_⟩;have:=this.2 k ae;omega
    ·have:=aQ.2 cg h;exact⟨this.1.trans akB,this.2⟩
def akC(n:Nat):ES (List.replicate n false) []:=λj=>by
 by_cases h:j<n<;>simp[bS,List.getElem?_replicate,h]
structure g'(t:bk):Prop where
 bC:0<=t.bC/\t.bC<t.ns.length
 fits:∀ j (h:j<t.ns.length),fits t.ns[j] t.ns[j].au.length=true
 au:∀ j (h:j<t.ns.length),∀ k∈t.ns[j].au,0<=k/\k<j
 diff:hQ (eL t.ns)
 all:∀ j:Nat,j<t.ns.length->((j:Int)∈eL t.ns ↔ (j:Int)≠t.bC)
def jv:right t=true ↔ g' t:=by
 have h:=Y8 (ds:=t.ns) (i:=0) (seen:=[]) (s:=List.replicate t.ns.length false) (by simp) (akC _) (by simp[hQ]);simp only[hX,du,zQ]at h;unfold right;constructor
 ·intro af;simp only[cB,h6]at af;obtain⟨hn,o1,qI⟩:=af;split at qI
  ·rename_i s av;obtain⟨ew,e'⟩:=h.1.1 ⟨s,av⟩;obtain⟨c1,m2⟩:=h.2 s av;refine⟨⟨hn,o1⟩,λj ai=>(ew j ai).1,λj ai k ae=>(by have:=(ew j ai).2 k ae;omega),e',λj ai=>?_⟩;have ag:(s.getD j false == decide (((0+j:Nat):Int)=t.bC))=false:=by
    cases ag:(s.getD j false == decide (((0+j:Nat):Int)=t.bC))with
    |false=>rfl| true=>have:=Qx (by omega) ag;rw[this]at qI;cases qI
   rw[du]at ag;have hm:=m2 j;constructor;·intro ab e;have:=hm.2 ⟨ab,by omega⟩;rw[this,iX e]at ag;cases ag
   ·intro bt;rw[eY bt]at ag;have:s.getD j false=true:=by
     revert ag;cases s.getD j false<;>simp
    exact(hm.1 this).1
  ·cases qI
 ·intro af;obtain⟨s,av⟩:=h.1.2 ⟨λj ai=>⟨af.fits j ai,λk ae=>by have:=af.au j ai k ae;omega⟩,af.diff⟩;obtain⟨c1,m2⟩:=h.2 s av;rw[av];simp only[cB,h6];refine⟨af.bC.1,af.bC.2,Yk λj ai=>?_⟩;rw[du];have a7:=af.all j (by omega);have hm:=m2 j;by_cases e:(j:Int)=t.bC
  ·have aB:s.getD j false=false:=by
    cases ag:s.getD j false with
    |false=>rfl| true=>exact absurd e (a7.1 (hm.1 ag).1)
   rw[aB,iX e];rfl
  ·have:=hm.2 ⟨a7.2 e,by omega⟩;rw[this,eY e];rfl
def g'.node(af:g' t){j:Nat}(ai:j<t.ns.length){k:Int}(ae:k∈(nodeAt t.ns j).au):0<=k/\k<j:=by rw[gr ai]at ae;exact af.au j ai k ae
def g'.two(af:g' t){i j:Nat}(hi:i<t.ns.length)(ai:j<t.ns.length)(bt:i≠j){k:Int}(aa:k∈(nodeAt t.ns i).au)(ad:k∈(nodeAt t.ns j).au):False:=by
 rw[gr hi]at aa;rw[gr ai]at ad;have:=(Ez.1 af.diff).2;rw[Qa]at this;rcases Nat.lt_or_gt_of_ne bt with h | h
 ·exact this i j hi ai h k aa k ad rfl
 ·exact this j i ai hi h k ad k aa rfl
def g'.Y9(af:g' t){j:Nat}(ai:j<t.ns.length):hQ (nodeAt t.ns j).au:=by rw[gr ai];exact(Ez.1 af.diff).1 _ (bJ ai)
def ET(ns:List al):Nat->Int->List Int
 |0,_=>[]| f+1,n=>(nodeAt ns n.toNat).au.flatMap (ET ns f)++[n]
def ej(ns:List al)(n:Int):List Int:=ET ns (n.toNat+1) n
def rT{α β:Type}{f g:α->List β}:∀ {l:List α},(∀ x∈l,f x=g x)->l.flatMap f=l.flatMap g
 |[],_=>rfl| a::l,h=>by rw[iS,iS,h a (.head _),rT λx ab=>h x (.tail _ ab)]
section
variable{t:bk}(af:g' t)
include af
theorem akD:∀ (f j:Nat),j<t.ns.length->j<f->ET t.ns f j=ej t.ns j:=by
 intro f
 induction f using Nat.strongRecOn with
 |_ f aQ=>
  intro j ai aB
  match f,aB,aQ with
  |f+1,aB,aQ=>unfold ej;rw[ET,ET];congr 1;refine rT λk ae=>?_;obtain⟨ay,aa⟩:=af.node ai ae;obtain⟨k,rfl⟩:=eG ay;have aI:=aQ f (by omega) k (by omega) (by omega);have a6:=aQ j (by omega) k (by omega) (by omega);exact aI.trans a6.symm
theorem kz{j:Nat}(ai:j<t.ns.length):ej t.ns j=(nodeAt t.ns j).au.flatMap (ej t.ns)++[(j:Int)]:=by unfold ej;rw[ET];congr 1;refine rT λk ae=>?_;obtain⟨ay,aa⟩:=af.node ai ae;obtain⟨k,rfl⟩:=eG ay;exact akD af _ k (by omega) (by omega)
theorem Ao:∀ (j:Nat),j<t.ns.length->∀ x∈ej t.ns j,(0<=x/\x<=j)/\(x=j\/∃ y:Nat,(y:Int)∈ej t.ns j/\y<t.ns.length/\x∈(nodeAt t.ns y).au):=by
 intro j
 induction j using Nat.strongRecOn with
 |_ j aQ=>
  intro ai x ab;rw[kz af ai]at ab;rcases cv.1 ab with ab | ab
  ·obtain⟨k,ae,ab⟩:=hl.1 ab;obtain⟨ay,aa⟩:=af.node ai ae;obtain⟨k,rfl⟩:=eG ay;obtain⟨b,c⟩:=aQ k (by omega) (by omega) x ab;refine⟨by omega,.inr ?_⟩;rcases c with rfl | ⟨y,aC,Hw,QO⟩
   ·exact⟨j,by rw[kz af ai];simp,ai,ae⟩
   ·exact⟨y,by rw[kz af ai];exact cv.2 (.inl (hl.2 ⟨k,ae,aC⟩)),Hw,QO⟩
  ·simp only[eN]at ab;subst ab;exact⟨by omega,.inl rfl⟩
theorem akE{j:Nat}(ai:j<t.ns.length){a b:Nat}(a7:(a:Int)∈(nodeAt t.ns j).au)(ag:(b:Int)∈(nodeAt t.ns j).au)(bt:a≠b):∀ (m:Nat) (x:Int),x∈ej t.ns a->x∈ej t.ns b->t.ns.length-x.toNat<=m->False:=by
 have aa:=af.node ai a7;have ad:=af.node ai ag;intro m
 induction m with
 |zero=>intro x QP iv hm;have:=(Ao af a (by omega) x QP).1;omega
 |succ m aQ=>
  intro x QP iv hm;obtain⟨avH,akF⟩:=Ao af a (by omega) x QP;obtain⟨avI,Y'⟩:=Ao af b (by omega) x iv;rcases akF with QQ | ⟨rU,tU,QR,QS⟩
  ·rcases Y' with L0 | ⟨QT,g5,QU,QV⟩
   ·omega
   ·have:=(Ao af b (by omega) QT g5).1;subst QQ;exact af.two ai QU (by omega) a7 QV
  ·rcases Y' with L0 | ⟨QT,g5,QU,QV⟩
   ·have:=(Ao af a (by omega) rU tU).1;subst L0;exact af.two ai QR (by omega) ag QS
   ·by_cases e:rU=QT
    ·subst e;have:=af.node QR QS;exact aQ rU tU g5 (by omega)
    ·exact af.two QR QU e QS QV
theorem Ic:∀ (j:Nat),j<t.ns.length->hQ (ej t.ns j):=by
 intro j
 induction j using Nat.strongRecOn with
 |_ j aQ=>
  intro ai;rw[kz af ai];have cd:=af.Y9 ai;refine rN.2 ⟨Ez.2 ⟨λk ae=>?_,?_⟩,by simp,λx ab y aC=>?_⟩;·obtain⟨ay,aa⟩:=af.node ai ae;obtain⟨k,rfl⟩:=eG ay;exact aQ k (by omega) (by omega)
  ·refine cd.imp_of_mem ?_;intro a b a7 ag bt x ab y aC e;subst e;obtain⟨ay,aa⟩:=af.node ai a7;obtain⟨ad,ak⟩:=af.node ai ag;obtain⟨a,rfl⟩:=eG ay;obtain⟨b,rfl⟩:=eG ad;exact akE af ai a7 ag (by intro e;subst e;exact bt rfl) _ x ab aC (b' _)
  ·simp only[eN]at aC;subst aC;obtain⟨k,ae,ab⟩:=hl.1 ab;obtain⟨ay,aa⟩:=af.node ai ae;obtain⟨k,rfl⟩:=eG ay;have:=(Ao af k (by omega) x ab).1;omega
def pZ(ns:List al)(l:List Int):Prop:=∀ i (h:i<l.length),∀ k∈(nodeAt ns (l[i]).toNat).au,k∈l.take i
omit af in
theorem pZ.append{l m:List Int}(h:pZ ns l)(bq:pZ ns m):pZ ns (l++m):=by
 intro i hi k ae;by_cases ax:i<l.length
 ·rw[yh ax]at ae;rw[BV (by omega)];exact h i ax k ae
 ·rw[Cs (by omega)]at ae;have:=bq (i-l.length) (by simp at hi;omega) k ae;rw[HO,fC (by omega)];exact cv.2 (.inr this)
omit af in
theorem pZ.flat{ns:List al}{f:Int->List Int}:∀ {ks:List Int},(∀ k∈ks,pZ ns (f k))->pZ ns (ks.flatMap f)
 |[],_=>λi h=>by simp at h
 |k::ks,h=>by rw[iS];exact(h k (.head _)).append (pZ.flat λx ab=>h x (.tail _ ab))
theorem Za{j:Nat}(ai:j<t.ns.length):(j:Int)∈ej t.ns j:=by rw[kz af ai];simp
theorem QW:∀ (j:Nat),j<t.ns.length->pZ t.ns (ej t.ns j):=by
 intro j
 induction j using Nat.strongRecOn with
 |_ j aQ=>
  intro ai;have ae:∀ k∈(nodeAt t.ns j).au,∃ q:Nat,k=q/\q<j:=λk ae=>by obtain⟨ay,aa⟩:=af.node ai ae;exact⟨k.toNat,by omega,by omega⟩
  have aa:pZ t.ns ((nodeAt t.ns j).au.flatMap (ej t.ns)):=pZ.flat λk hR=>by obtain⟨q,rfl,aL⟩:=ae k hR;exact aQ q aL (by omega)
  rw[kz af ai];intro i hi k oc;by_cases ax:i<((nodeAt t.ns j).au.flatMap (ej t.ns)).length;·rw[yh ax]at oc;rw[BV (by omega)];exact aa i ax k oc
  ·rw[Cs (by omega)]at oc;have e:i-((nodeAt t.ns j).au.flatMap (ej t.ns)).length=0:=by simp only[cr,et,hB]at hi;omega
   simp only[e,tp,hH]at oc;rw[HO,fC (by omega)];refine cv.2 (.inl (hl.2 ⟨k,oc,?_⟩));obtain⟨q,rfl,aL⟩:=ae k oc;exact Za af (by omega)
theorem Zb{j:Nat}(ai:j<t.ns.length):(ej t.ns j).getLast?=some (j:Int):=by rw[kz af ai];simp
theorem QX:∀ (j:Nat),j<t.ns.length->(ej t.ns j).length=l9 t.ns j:=by
 intro j
 induction j using Nat.strongRecOn with
 |_ j aQ=>
  intro ai;rw[kz af ai,EI (jv.2 af) ai,<-gr ai];simp only[cr,yi,et,hB,gQ];have:(nodeAt t.ns j).au.map (λa=>(ej t.ns a).length)=(nodeAt t.ns j).au.map (l9 t.ns):=fV λk ae=>by obtain⟨ay,aa⟩:=af.node ai ae;obtain⟨k,rfl⟩:=eG ay;exact aQ k (by omega) (by omega)
  rw[this];omega
theorem Zc:∀ (f:Nat) (todo b:List Int),(∀ k∈todo,0<=k/\k<t.ns.length)->(todo.map λn=>(ej t.ns n).length).sum<=f->yv t.ns f todo b=b++todo.reverse.flatMap (λn=>(ej t.ns n).reverse)
 |0,todo,b,aj,aB=>by
  rcases zR todo with h | ⟨r,p,h⟩;·subst h;simp[yv]
  ·subst h;obtain⟨ay,aa⟩:=aj p (by simp);obtain⟨p,rfl⟩:=eG ay;have:=congrArg List.length (kz af (j:=p) (by omega));simp at aB this;have ad:(ej t.ns (p:Int)).length=0:=by rw[aB.2];rfl
   omega
 |f+1,todo,b,aj,aB=>by
  rcases zR todo with h | ⟨r,p,h⟩;·subst h;rw[Yr];simp
  ·rw[List.concat_eq_append]at h;subst h;obtain⟨ay,aa⟩:=aj p (by simp);obtain⟨p,rfl⟩:=eG ay;have aJ:p<t.ns.length:=by omega
   have he:=kz af aJ;have ax:=congrArg List.length he;simp only[cr,yi,et,hB]at ax;have lk:∀ k∈r++(nodeAt t.ns p).au,0<=k/\k<t.ns.length:=λk ae=>by
    rcases cv.1 ae with ae | ae;·exact aj k (by simp[ae])
    ·have:=af.node aJ ae;omega
   have wq:((r++(nodeAt t.ns p).au).map λn=>(ej t.ns n).length).sum<=f:=by simp only[cM,oT,b5,hy,hj,zW]at aB |-;omega
   rw[Ys,hH,Zc f _ _ lk wq];rw[yj,yj,fI,fI,zP,nQ,he,yj,dW];congr 1;rw[<-dW];congr 1;simp[List.reverse_flatMap];rfl
theorem akG{j:Nat}(ai:j<t.ns.length):(CE t.ns j).reverse=ej t.ns j:=by unfold CE;have aa:=QX af j ai;have ad:=H2 (jv.2 af) t.ns.length j ai (by omega);rw[Zc af _ _ _ (λk ae=>by simp only[eN]at ae;omega) (by simp;omega)];simp
def k3(rb:List Int)(k:Int):Int:=(rb.idxOf k:Nat)
def nT(ns:List al)(rb:List Int)(b:Int):al:=(nodeAt ns b.toNat).dX ((nodeAt ns b.toNat).au.map (k3 rb))
omit af in
theorem hQ.idx{l:List Int}(h:hQ l){i:Nat}(hi:i<l.length):l.idxOf l[i]=i:=by
 have aa:=Lu (bJ hi);have ad:=Lv aa;have ak:=Qa.1 h;rcases Nat.lt_trichotomy (l.idxOf l[i]) i with aK | aK | aK
 ·exact absurd ad (ak _ _ aa hi aK)
 ·exact aK
 ·exact absurd ad.symm (ak _ _ hi aa aK)
omit af in
theorem hQ.nodup{l:List Int}(h:hQ l){i j:Nat}(hi:i<l.length)(ai:j<l.length)(e:l[i]=l[j]):i=j:=by rw[<-h.idx hi,<-h.idx ai,e]
omit af in
theorem sub_fold{rb:List Int}(ah:hQ rb)(aJ:pZ t.ns rb)(aj:∀ k∈rb,0<=k/\k<t.ns.length):∀ i,i<=rb.length->∃ P:List Int,(rb.take i).foldl (LR t.ns) (List.replicate t.ns.length 0,[])=(P,(rb.take i).map (nT t.ns rb))/\P.length=t.ns.length/\∀ q (h:q<rb.length),q<i->P.getD rb[q].toNat 0=(q:Int)
 |0,_=>⟨List.replicate t.ns.length 0,rfl,by simp,λq h aL=>by omega⟩
 |i+1,hi=>by
  obtain⟨P,aa,ad,ak⟩:=sub_fold ah aJ aj i (by omega);have eo:i<rb.length:=by omega
  have avJ:=aj _ (bJ eo);have key:∀ q (h:q<rb.length),q<i+1->(P.set rb[i].toNat (i:Nat)).getD rb[q].toNat 0=(q:Int):=λq h aL=>by
   have Wq:=aj _ (bJ h);by_cases e:q=i;·subst e;simp[bS,iW,show rb[q].toNat<P.length by omega]
   ·have bt:rb[i].toNat≠rb[q].toNat:=λcZ=>e (ah.nodup h eo (by omega));have:=ak q h (by omega);simp only[bS,iW]at this |-;rw[bN bt];exact this
  refine⟨P.set rb[i].toNat (i:Nat),?_,by simpa using ad,key⟩;rw[gj eo,tL,aa,cM];simp only[km,HP,LR,bx,fO,pA (Nat.le_of_lt eo),b5,hy];have:nT t.ns rb rb[i]=(nodeAt t.ns rb[i].toNat).dX ((nodeAt t.ns rb[i].toNat).au.map λk=>(P.set rb[i].toNat (i:Nat)).getD k.toNat 0):=by unfold nT;congr 1;refine fV λk ae=>?_;have hm:=aJ i eo k ae;obtain⟨q,aL,e⟩:=hO hm;rw[fO]at aL;rw[Qh]at e;rw[<-e,key q (by omega) (by omega)];unfold k3;rw[ah.idx]
  rw[this]
theorem EU{j:Nat}(ai:j<t.ns.length):wI t.ns j=(ej t.ns j).map (nT t.ns (ej t.ns j)):=by obtain⟨P,aa,-,-⟩:=sub_fold (Ic af j ai) (QW af j ai) (λk ae=>by have:=(Ao af j ai k ae).1;omega) (ej t.ns j).length (b' _);rw[D4]at aa;unfold wI;rw[akG af ai,aa]
theorem akH{j:Nat}(ai:j<t.ns.length):g' (jK (wI t.ns j)):=by
 have ah:=Ic af j ai;have aJ:=QW af j ai;have hm:=Ao af j ai;have yA:=Zb af ai;rw[EU af ai];generalize ej t.ns j=rb at *;have cS:0<rb.length:=by
  cases rb with
  |nil=>simp at yA| cons a l=>simp
 have EV:rb[rb.length-1]=(j:Int):=by rw[XZ,dg (by omega)]at yA;exact eX yA
 have aD:∀ i (h:i<rb.length),rb[i].toNat<t.ns.length:=λi h=>by have:=(hm _ (bJ h)).1;omega
 have ms:∀ i (h:i<rb.length),∀ k∈(nodeAt t.ns rb[i].toNat).au,k∈rb/\rb.idxOf k<i:=λi h k ae=>by have:=aJ i h k ae;refine⟨sA this,?_⟩;obtain⟨q,aL,e⟩:=hO this;rw[fO]at aL;rw[Qh]at e;rw[<-e,ah.idx];omega
 have Cr:∀ a∈rb,∀ b∈rb,k3 rb a=k3 rb b->a=b:=λa a7 b ag e=>by
  unfold k3 at e;have cZ:rb.idxOf a=rb.idxOf b:=by omega
  rw[<-Lv (Lu a7),<-Lv (Lu ag)];simp only[cZ]
 have eO:eL (rb.map (nT t.ns rb))=rb.flatMap λb=>(nodeAt t.ns b.toNat).au.map (k3 rb):=by unfold eL;rw[yl];rfl
 have ei:∀ b∈rb,∀ k∈(nodeAt t.ns b.toNat).au,k∈rb:=λb ag k ae=>by obtain⟨i,hi,rfl⟩:=hO ag;exact(ms i hi k ae).1
 refine⟨by simp[jK];omega,λi hi=>?_,λi hi k ae=>?_,?_,λi hi=>?_⟩
 ·have cC:i<rb.length:=by simpa[jK]using hi
  have aB:=af.fits _ (aD i cC);rw[<-gr (aD i cC)]at aB;simp only[jK,fW];have e:(nT t.ns rb rb[i]).au.length=(nodeAt t.ns rb[i].toNat).au.length:=by show((nodeAt t.ns rb[i].toNat).au.map (k3 rb)).length=_;rw[bx]
  rw[e];exact aB
 ·have cC:i<rb.length:=by simpa[jK]using hi
  simp only[jK,fW]at ae;obtain⟨q,aL,rfl⟩:=cP.1 ae;have:=(ms i cC q aL).2;unfold k3;omega
 ·show hQ (eL (rb.map (nT t.ns rb)));rw[eO];refine Ez.2 ⟨λb ag=>?_,?_⟩
  ·have hd:=(hm b ag).1;refine Cv.2 ((af.Y9 (j:=b.toNat) (by omega)).imp_of_mem ?_);intro x y ab aC bt e;exact bt (Cr x (ei b ag x ab) y (ei b ag y aC) e)
  ·refine ah.imp_of_mem ?_;intro a b a7 ag bt x ab y aC e;obtain⟨p,yq,rfl⟩:=cP.1 ab;obtain⟨q,wM,rfl⟩:=cP.1 aC;have aI:=Cr p (ei a a7 p yq) q (ei b ag q wM) e;subst aI;have sS:=(hm a a7).1;have hd:=(hm b ag).1;exact af.two (i:=a.toNat) (j:=b.toNat) (by omega) (by omega) (by omega) yq wM
 ·have cC:i<rb.length:=by simpa[jK]using hi
  show(i:Int)∈eL (rb.map (nT t.ns rb)) ↔ (i:Int)≠((rb.map (nT t.ns rb)).length:Int)-1;rw[eO,bx];constructor
  ·intro h e;obtain⟨b,ag,h⟩:=hl.1 h;obtain⟨k,ae,a6⟩:=cP.1 h;have akI:=ei b ag k ae;have cq:k=rb[i]:=by
    rw[<-Lv (Lu akI)];unfold k3 at a6;have:rb.idxOf k=i:=by omega
    simp only[this]
   have dS:i=rb.length-1:=by omega
   subst dS;rw[EV]at cq;have hd:=(hm b ag).1;have:=af.node (j:=b.toNat) (by omega) ae;omega
  ·intro h;obtain⟨ag,ao⟩:=hm _ (bJ cC);rcases ao with e | ⟨y,aC,Hw,akJ⟩
   ·have:=ah.nodup cC (show rb.length-1<rb.length by omega) (e.trans EV.symm);omega
   ·refine hl.2 ⟨y,aC,cP.2 ⟨rb[i],by simpa using akJ,?_⟩⟩;unfold k3;rw[ah.idx]
end
structure bj where
 a:BitVec 64
 b:BitVec 64
 c:BitVec 64
 d:BitVec 64
 deriving DecidableEq
def bj.zero:bj:=⟨0,0,0,0⟩
def bj.or(x y:bj):bj:=⟨x.a ||| y.a,x.b ||| y.b,x.c ||| y.c,x.d ||| y.d⟩
def bj.and(x y:bj):bj:=⟨x.a &&& y.a,x.b &&& y.b,x.c &&& y.c,x.d &&& y.d⟩
def bj.sub(x y:bj):Bool:=decide (x.and y=x)
def bj.cells(x:bj):List Value:=[.int .u64 x.a.toNat,.int .u64 x.b.toNat,.int .u64 x.c.toNat,.int .u64 x.d.toNat]
def bj.val(x:bj):Value:=.agg #[.int .u64 x.a.toNat,.int .u64 x.b.toNat,.int .u64 x.c.toNat,.int .u64 x.d.toNat]
structure k4 where
 w:bj
 f:Bool
 deriving DecidableEq
def k4.cells(x:k4):List Value:=[.int .u64 x.w.a.toNat,.int .u64 x.w.b.toNat,.int .u64 x.w.c.toNat,.int .u64 x.w.d.toNat,.bool x.f]
def QY:k4:=⟨.zero,false⟩
def bj.ext'{x y:bj}(aa:x.a=y.a)(ad:x.b=y.b)(ak:x.c=y.c)(aK:x.d=y.d):x=y:=by obtain⟨a,b,c,d⟩:=x;obtain⟨bL,jh,c',d'⟩:=y;simp only at aa ad ak aK;subst aa ad ak aK;rfl
def bj.or_assoc(x y z:bj):(x.or y).or z=x.or (y.or z):=by simp only[bj.or,BitVec.or_assoc]
def bj.or_comm(x y:bj):x.or y=y.or x:=by simp only[bj.or,BitVec.or_comm]
def bj.or_self(x:bj):x.or x=x:=by simp[bj.or]
def bj.zero_or(x:bj):bj.zero.or x=x:=by simp[bj.or,bj.zero]
def Ap{x y:BitVec 64}:x &&& y=x ↔ x ||| y=y:=by
 constructor
 ·intro h;apply BitVec.eq_of_getElem_eq;intro i hi;have:=congrArg (λw:BitVec 64=>w[i]) h;simp only[BitVec.getElem_and,BitVec.getElem_or]at this |-;revert this;cases x[i]<;>cases y[i]<;>simp
 ·intro h;apply BitVec.eq_of_getElem_eq;intro i hi;have:=congrArg (λw:BitVec 64=>w[i]) h;simp only[BitVec.getElem_and,BitVec.getElem_or]at this |-;revert this;cases x[i]<;>cases y[i]<;>simp
def bj.L1{x y:bj}:x.sub y=true ↔ x.or y=y:=by
 unfold bj.sub;rw[h6];constructor
 ·intro h;have aa:=congrArg bj.a h;have ad:=congrArg bj.b h;have ak:=congrArg bj.c h;have aK:=congrArg bj.d h;exact bj.ext' (Ap.1 aa) (Ap.1 ad) (Ap.1 ak) (Ap.1 aK)
 ·intro h;have aa:=congrArg bj.a h;have ad:=congrArg bj.b h;have ak:=congrArg bj.c h;have aK:=congrArg bj.d h;exact bj.ext' (Ap.2 aa) (Ap.2 ad) (Ap.2 ak) (Ap.2 aK)
def bj.akK(x:bj):x.sub x=true:=bj.L1.2 x.or_self
def bj.akL{x y z:bj}(h:x.sub y=true)(bq:y.sub z=true):x.sub z=true:=by rw[bj.L1]at h bq |-;rw[<-bq,<-bj.or_assoc,h]
def bj.akM{x y:bj}(h:x.sub y=true)(bq:y.sub x=true):x=y:=by rw[bj.L1]at h bq;exact bq.symm.trans ((bj.or_comm y x).trans h)
def bj.zero_sub(x:bj):bj.zero.sub x=true:=by rw[bj.L1,bj.zero_or]
structure k4.le(a b:k4):Prop where
 w:a.w.sub b.w=true
 f:a.f=true->b.f=true
def k4.le_refl(a:k4):a.le a:=⟨bj.akK _,id⟩
def k4.le.trans{a b c:k4}(h:a.le b)(bq:b.le c):a.le c:=⟨bj.akL h.w bq.w,λx=>bq.f (h.f x)⟩
def k4.le.antisymm{a b:k4}(h:a.le b)(bq:b.le a):a=b:=by
 have aa:=bj.akM h.w bq.w;obtain⟨avK,akN⟩:=a;obtain⟨avL,tV⟩:=b;simp only at aa;subst aa;have aB:=h.f;have wq:=bq.f;cases akN<;>cases tV<;>simp_all
def k4.qJ(a:k4):QY.le a:=⟨bj.zero_sub _,λh=>by cases h⟩
def CJ(x:BitVec 64):BitVec.ofInt 64 (x.toNat:Int)=x:=by rw[BitVec.ofInt_natCast,BitVec.ofNat_toNat,BitVec.setWidth_eq]
def QZ(x:BitVec 64):IntKind.u64.wrap (x.toNat:Int)=(x.toNat:Int):=by have:=x.isLt;unfold IntKind.wrap;simp only[IntKind.bits,IntKind.signed];simp;omega
def EW{x y:BitVec 64}:((x.toNat:Int) == (y.toNat:Int))=decide (x=y):=by rw[tc];simp[BitVec.toNat_eq];omega
def bj.lS(x y:bj):(((x.a.toNat:Int) == y.a.toNat)&&(((x.b.toNat:Int) == y.b.toNat)&&(((x.c.toNat:Int) == y.c.toNat)&&((x.d.toNat:Int) == y.d.toNat))))=decide (x=y):=by obtain⟨a,b,c,d⟩:=x;obtain⟨bL,jh,c',d'⟩:=y;rw[EW,EW,EW,EW,tc];simp[and_assoc]
def akO{x:Int}(h:0<=x/\x<18446744073709551616):∃ w:BitVec 64,x=(w.toNat:Int):=by refine⟨BitVec.ofNat 64 x.toNat,?_⟩;rw[EA,EC (by omega)];omega
structure Q0(α:Type) where
 le:α->α->Prop
 qJ:α
 refl:∀ a,le a a
 trans:∀ {a b c},le a b->le b c->le a c
 Zd:∀ {a b},le a b->le b a->a=b
 low:∀ a,le qJ a
structure CK{α:Type}(O:Q0 α)(l m:List α):Prop where
 len:l.length=m.length
 at':∀ i,O.le (l.getD i O.qJ) (m.getD i O.qJ)
section
variable{α:Type}{O:Q0 α}
def CK.trans{a b c:List α}(h:CK O a b)(bq:CK O b c):CK O a c:=⟨h.len.trans bq.len,λi=>O.trans (h.at' i) (bq.at' i)⟩
def CK.of{a b:List α}(ax:a.length=b.length)(h:∀ i,i<a.length->O.le (a.getD i O.qJ) (b.getD i O.qJ)):CK O a b:=⟨ax,λi=>by
 by_cases hi:i<a.length
 ·exact h i hi
 ·have e:a.getD i O.qJ=O.qJ:=by simp[bS,qn (Nat.le_of_not_lt hi)]
  rw[e];exact O.low _⟩
section
end
end
def Ze{α:Type}{p q:α->Bool}:∀ {l:List α},(∀ x∈l,p x=true->q x=true)->l.countP q<=l.countP p->∀ x∈l,q x=true->p x=true
 |[],_,_,x,ab,_=>by cases ab
 |y::l,h,bf,x,ab,aL=>by
  have hm:=List.countP_mono_left (p:=p) (q:=q) (l:=l) (λx ab=>h x (.tail _ ab));rw[List.countP_cons,List.countP_cons]at bf;have aC:=h y (.head _);have key:(q y=true->p y=true)/\l.countP q<=l.countP p:=by cases aJ:p y<;>cases avM:q y<;>simp_all<;>omega
  rcases eI.1 ab with rfl | ab;·exact key.1 aL
  ·exact Ze (λx ab=>h x (.tail _ ab)) key.2 x ab aL
def Ie(x:BitVec 64):Nat:=(List.range 64).countP λi=>!x.getLsbD i
def akP{x y:BitVec 64}(h:x &&& y=x):Ie y<=Ie x/\(Ie x<=Ie y->x=y):=by
 have ag:∀ i,x.getLsbD i=true->y.getLsbD i=true:=λi ab=>by have:=congrArg (λw:BitVec 64=>w.getLsbD i) h;simp only[Qe,ab,qC]at this;exact this
 have aJ:∀ i∈List.range 64,(!y.getLsbD i)=true->(!x.getLsbD i)=true:=λi _ hi=>by
  have aa:=ag i;cases ab:x.getLsbD i with
  |false=>rfl| true=>rw[aa ab]at hi;cases hi
 refine⟨List.countP_mono_left aJ,λbf=>?_⟩;have:=Ze aJ bf;apply Qc;intro i hi;have aa:=ag i;have ad:=this i (j9.2 hi);cases ab:x.getLsbD i<;>cases aC:y.getLsbD i<;>simp_all
def Zf:Q0 k4:=⟨k4.le,QY,k4.le_refl,λh bq=>h.trans bq,λh bq=>h.antisymm bq,k4.qJ⟩
def bj.one(i:Nat)(x:BitVec 64):bj:=⟨bif decide (i=0)then x else 0,bif decide (i=1)then x else 0,bif decide (i=2)then x else 0,bif decide (i=3)then x else 0⟩
def ve(b:UInt8):bj:=.one (b.toNat/64) (1#64 <<< (b.toNat%64))
def o5(l:List UInt8):bj:=l.foldl (λw b=>w.or (ve b)) .zero
def al.ws(d:al):bj:=⟨BitVec.ofInt 64 d.cx,BitVec.ofInt 64 d.s1,BitVec.ofInt 64 d.s2,BitVec.ofInt 64 d.cY⟩
def avN.map{f g:α->k4}{l:List α}(h:∀ x∈l,(f x).le (g x)):CK Zf (l.map f) (l.map g):=.of (by simp) λi hi=>by
 have cC:i<l.length:=by simpa using hi
 have:=h _ (bJ cC);simpa[bS,cC]using(show Zf.le _ _ from this)
structure EX(x:aW)(k:k4):Prop where
 z:x.z=true->k.f=true
 s:x.s=true->k.w≠.zero
def EX.none(k:k4):EX cf k:=⟨λh=>(by cases h),λh=>(by cases h)⟩
inductive Aq:List aW->List k4->Prop
 |nil:Aq [] []| cons {x k l m} (h:EX x k) (t:Aq l m):Aq (x::l) (k::m)
def Aq.head{l:List aW}{m:List k4}(h:Aq l m):EX (l.headD cf) (m.headD QY):=by
 cases h with
 |nil=>exact EX.none _| cons h t=>exact h
def Aq.map{α:Type}{f:α->aW}{g:α->k4}:∀ {l:List α},(∀ x∈l,EX (f x) (g x))->Aq (l.map f) (l.map g)
 |[],_=>.nil| x::l,h=>.cons (h x (.head _)) (Aq.map λy aC=>h y (.tail _ aC))
structure qL(t:bk)(k:Int)(bn:bk):Prop where
 a4:bn.ns.map al.a4=wI t.ns k
 bC:bn.bC=(bn.ns.length:Int)-1
def Zg(af:right t=true){j:Nat}(ai:j<t.ns.length)(h:qL t j bn):right bn=true:=by
 have aa:=jv.2 (akH (jv.1 af) ai);have ax:=congrArg List.length h.a4;rw[bx]at ax;have ad:right bn.a4=right (jK (wI t.ns j)):=by unfold right bk.a4 jK;simp only[h.a4,h.bC,ax]
 rw[wQ]at ad;rw[ad,aa]
def Zh(af:right t=true){j:Nat}(ai:j<t.ns.length)(h:qL t j bn):bn.ns.length=l9 t.ns j:=by have ax:=congrArg List.length h.a4;rw[bx,EU (jv.1 af) ai,bx,QX (jv.1 af) j ai]at ax;exact ax
def ki:List (aW×List Nat)->List Nat
 |[]=>[]| x::xs=>x.2++bif x.1.z then ki xs else []
def lB(pl:List (ByteArray×Int))(d:al)(xs:List (aW×List Nat)):List Nat:=
 bif decide (d.k=3)then [((eW d.t pl).getD 0).toNat]else
 bif decide (d.k=4)then ki xs else
 bif decide (d.k=6)&&decide (d.hi=0)then []else xs.flatMap (·.2)
def rV(pl:List (ByteArray×Int))(F:List aW)(d:al)(xs:List (aW×List Nat)):aW×List Nat:=
 (gz d (xs.map (·.1)++bif decide (d.k=3)then [F.getD ((eW d.t pl).getD 0).toNat cf]else []),lB pl d xs)
def gv(pl:List (ByteArray×Int))(F:List aW)(ns:List al)(j:Int):aW×List Nat:=mA (cf,[]) (λd g=>rV pl F d (d.au.map g)) ns j
def Q1{F:List aW}(af:right t=true){j:Nat}(ai:j<t.ns.length):gv pl F t.ns j=rV pl F t.ns[j] (t.ns[j].au.map (gv pl F t.ns)):=
 El (λd g eg h=>by rw[fV h]) af ai
def akQ(pl:List (ByteArray×Int))(F:List aW)(ns:List al)(j:Int):gv pl F (ns.map al.a4) j=gv pl F ns j:=by unfold gv mA;rw[Ib (f:=λd g=>rV pl F d (d.au.map g)) (g:=λd g=>rV pl F d (d.au.map g)) (λd q=>rfl)]
def Zi(a2:List (aW×List Nat))(i:Nat):(a2.getD i (cf,[])).1=(a2.map (·.1)).getD i cf:=by
 simp only[bS,iB];cases a2[i]?<;>rfl
def Zj(pl:List (ByteArray×Int))(F:List aW):∀ (ds:List al) (a2:List (aW×List Nat)),(gF (cf,[]) (λd g=>rV pl F d (d.au.map g)) ds a2).map (·.1)=eB pl F ds (a2.map (·.1))
 |[],a2=>rfl
 |d::ds,a2=>by
  have aI:(rV pl F d (d.au.map λk=>a2.getD k.toNat (cf,[]))).1=gz d (sP pl F (a2.map (·.1)) d):=by unfold rV sP;simp only[gu,Function.comp_def,Zi]
  have aa:=Zj pl F ds (a2++[rV pl F d (d.au.map λk=>a2.getD k.toNat (cf,[]))]);rw[cM,b5,hy,aI]at aa;rw[gF,aa,eB]
def Q2(pl:List (ByteArray×Int))(F:List aW)(ns:List al)(j:Int):(gv pl F ns j).1=(eB pl F ns []).getD j.toNat cf:=by have h:=Zj pl F ns [];unfold gv mA;rw[Zi,h];rfl
abbrev dY:=BitVec 64
def lC(k:Nat):dY:=1#64 <<< k
def L2{k i:Nat}(hi:i<64):(lC k).getLsbD i=decide (i=k):=by
 unfold lC;rw[BitVec.getLsbD_shiftLeft];simp only[hi,Ly,qC];by_cases h:i<k
 ·have bt:¬ i=k:=by omega
  simp[h,bt]
 ·simp only[h,decide_false,Bool.not_false,qC];by_cases e:i=k
  ·subst e;simp
  ·rw[eY e];have ad:0<i-k:=by omega
   rw[BitVec.getLsbD_one];simp;omega
def akR(l:List Nat):∀ (w:dY) {i:Nat},i<64->(l.foldl (λw k=>w ||| lC k) w).getLsbD i=(w.getLsbD i||l.contains i):=by
 induction l with
 |nil=>intro w i hi;simp| cons k l aQ=>intro w i hi;rw[km,aQ _ hi,Cw,L2 hi,List.contains_cons,Bool.or_assoc];rfl
def nc(m:List dY):Nat->Nat->dY->dY
 |_,0,w=>w| k,f+1,w=>nc m (k+1) f (bif w.getLsbD k then w ||| m.getD k 0 else w)
def rW(m:List dY):List dY:=(List.range 64).map λi=>nc m 0 64 (m.getD i 0)
inductive qM(m:List dY):Nat->Nat->Prop
 |one{i k}(ae:k<64)(h:(m.getD i 0).getLsbD k=true):qM m i k| step {i j k} (h:(m.getD i 0).getLsbD j=true) (ai:j<64) (t:qM m j k):qM m i k
def qM.trans{m:List dY}{i j k:Nat}(h:qM m i j)(bq:qM m j k):qM m i k:=by
 induction h with
 |one ae h=>exact .step h ae bq| step h ai t aQ=>exact .step h ai (aQ bq)
def j3(x y:dY):Prop:=∀ i,i<64->x.getLsbD i=true->y.getLsbD i=true
def j3.refl(x:dY):j3 x x:=λ_ _ h=>h
def j3.trans{x y z:dY}(h:j3 x y)(bq:j3 y z):j3 x z:=λi hi ab=>bq i hi (h i hi ab)
def j3.or(x y:dY):j3 x (x ||| y):=λi hi h=>by rw[Cw,h];rfl
def j3.or'(x y:dY):j3 y (x ||| y):=λi hi h=>by rw[Cw,h,Lx]
def j3.Zd{x y:dY}(h:j3 x y)(bq:j3 y x):x=y:=Qc λi hi=>by
 have aa:=h i hi;have ad:=bq i hi;cases ab:x.getLsbD i<;>cases aC:y.getLsbD i<;>simp_all
def j3.and{x y:dY}(h:j3 x y):x &&& y=x:=Qc λi hi=>by
 have aa:=h i hi;rw[Qe];cases ab:x.getLsbD i<;>simp_all
def If(m:List dY):∀ (f k:Nat) (w:dY),j3 w (nc m k f w)
 |0,k,w=>j3.refl w
 |f+1,k,w=>by
  rw[nc];cases w.getLsbD k with
  |true=>exact(j3.or _ _).trans (If m f (k+1) _)| false=>exact If m f (k+1) _
def Q3{m:List dY}{P:Nat->Prop}(hm:∀ j,P j->∀ x,x<64->(m.getD j 0).getLsbD x=true->P x):∀ (f k:Nat) (w:dY),k+f<=64->(∀ x,x<64->w.getLsbD x=true->P x)->∀ x,x<64->(nc m k f w).getLsbD x=true->P x
 |0,k,w,_,hw=>hw
 |f+1,k,w,ae,hw=>by
  rw[nc];cases ag:w.getLsbD k with
  |true=>
   refine Q3 hm f (k+1) _ (by omega) λx ab h=>?_;rw[cF,Cw,lp]at h;rcases h with h | h;·exact hw x ab h
   ·exact hm k (hw k (by omega) ag) x ab h
  |false=>exact Q3 hm f (k+1) _ (by omega) hw
def Q4{m:List dY}:∀ (f k:Nat) {w:dY},nc m k f w=w->∀ j,k<=j->j<k+f->w.getLsbD j=true->j3 (m.getD j 0) w
 |0,k,w,_,j,aa,ad,_=>by omega
 |f+1,k,w,h,j,aa,ad,ai=>by
  rw[nc]at h;cases ag:w.getLsbD k with
  |true=>
   rw[ag,cF]at h;have e:w ||| m.getD k 0=w:=by refine j3.Zd ?_ (j3.or _ _);have:=If m f (k+1) (w ||| m.getD k 0);rwa [h]at this
   by_cases Q5:j=k;·subst Q5;have:=j3.or' w (m.getD j 0);rwa [e]at this
   ·rw[e]at h;exact Q4 f (k+1) h j (by omega) (by omega) ai
  |false=>
   rw[ag,cE]at h;by_cases Q5:j=k;·subst Q5;rw[ag]at ai;cases ai
   ·exact Q4 f (k+1) h j (by omega) (by omega) ai
def Zk(m:List dY):(rW m).length=64:=by simp[rW]
def L3(m:List dY){i:Nat}(h:i<64):(rW m).getD i 0=nc m 0 64 (m.getD i 0):=by simp[rW,bS,h]
structure Ar(jw m:List dY):Prop where
 len:m.length=64
 le:∀ i,i<64->j3 (jw.getD i 0) (m.getD i 0)
 ok:∀ i,i<64->∀ k,k<64->(m.getD i 0).getLsbD k=true->qM jw i k
def Ar.start{jw:List dY}(h:jw.length=64):Ar jw jw:=⟨h,λi _=>j3.refl _,λi _ k ae ag=>.one ae ag⟩
def Ar.next{jw m:List dY}(h:Ar jw m):Ar jw (rW m):=by
 refine⟨Zk m,λi hi=>?_,λi hi k ae ag=>?_⟩
 ·rw[L3 m hi];exact(h.le i hi).trans (If m 64 0 _)
 ·rw[L3 m hi]at ag;refine Q3 (P:=λx=>x<64/\qM jw i x) (λj ai x ab ag=>⟨ab,ai.2.trans (h.ok j ai.1 x ab ag)⟩) 64 0 _ (b' _) (λx ab ag=>⟨ab,h.ok i hi x ab ag⟩) k ae ag |>.2
def Ar.done{jw m:List dY}(h:Ar jw m)(aB:rW m=m){i k:Nat}(hi:i<64)(ae:k<64):(m.getD i 0).getLsbD k=true ↔ qM jw i k:=by
 refine⟨h.ok i hi k ae,λao=>?_⟩;have dz:∀ i,i<64->∀ j,j<64->(m.getD i 0).getLsbD j=true->j3 (m.getD j 0) (m.getD i 0):=λi hi j ai ag=>by have:=L3 m hi;rw[aB]at this;exact Q4 64 0 this.symm j (dp _) (by omega) ag
 revert hi
 induction ao with
 |one hR ag=>exact λhi=>h.le _ hi _ hR ag
 |step ag ai t aQ=>exact λhi=>dz _ hi _ ai (h.le _ hi _ ai ag) _ ae (aQ ae ai)
def As(m:List dY):Nat:=(m.map Ie).sum
def Zl:∀ {m n:List dY},m.length=n.length->(∀ i,i<m.length->j3 (m.getD i 0) (n.getD i 0))->As n<=As m/\(As m<=As n->m=n)
 |[],[],_,_=>⟨b' _,λ_=>rfl⟩| [],_::_,h,_=>by simp at h
 |_::_,[],h,_=>by simp at h
 |a::m,b::n,h,av=>by
  have ay:j3 a b:=by simpa using av 0 (by simp)
  obtain⟨aa,ad⟩:=akP ay.and;obtain⟨t1,t2⟩:=Zl (m:=m) (n:=n) (by simpa using h) λi hi=>by simpa using av (i+1) (by simpa using hi)
  simp only[As,b5,hj]at t1 t2 |-;refine⟨by omega,λbf=>?_⟩;rw[ad (by omega),t2 (by omega)]
def akS{m:List dY}(ax:m.length=64)(h:rW m≠m):As (rW m)<As m:=by
 have av:=Zl (m:=m) (n:=rW m) (by rw[ax,Zk]) λi hi=>by rw[L3 m (by omega)];exact If m 64 0 _
 refine Nat.lt_of_le_of_ne av.1 λe=>h (av.2 (by omega)).symm
def Q6(m:List dY):dY:=(List.range 64).foldl (λw i=>w ||| ((m.getD i 0) &&& lC i)) 0
def Zm(m:List dY):∀ (l:List Nat) (w:dY) {i:Nat},i<64->(∀ k∈l,k<64)->(l.foldl (λw i=>w ||| ((m.getD i 0) &&& lC i)) w).getLsbD i=(w.getLsbD i||(l.contains i&&(m.getD i 0).getLsbD i))
 |[],w,i,hi,_=>by simp
 |k::l,w,i,hi,ax=>by
  rw[km,Zm m l _ hi λk ae=>ax k (.tail _ ae),Cw,Qe,L2 hi,List.contains_cons];by_cases e:i=k
  ·subst e;simp;cases w.getLsbD i<;>cases(m.getD i 0).getLsbD i<;>simp
  ·have cZ:(i == k)=false:=by simpa using e
   rw[eY e,cZ];simp
def akT(m:List dY){i:Nat}(hi:i<64):(Q6 m).getLsbD i=(m.getD i 0).getLsbD i:=by
 unfold Q6;rw[Zm m _ _ hi λk ae=>j9.1 ae];have:(List.range 64).contains i=true:=by simpa using hi
 rw[this];simp
def bitsOf(w:dY)(n:Nat):List Nat:=(List.range n).filter λi=>w.getLsbD i
def Zn(w:dY)(n:Nat):bitsOf w (n+1)=bitsOf w n++(bif w.getLsbD n then [n]else []):=by
 unfold bitsOf;rw[ED,EB];cases h:w.getLsbD n<;>simp[h]
def akU(w:dY)(n:Nat):(bitsOf w n).length<=n:=by unfold bitsOf;have:=G0 (λi=>w.getLsbD i) (List.range n);simpa using this
section
variable{X:c3}{o:Oper}{F:Fr}{C:dN}{I:aH}{M:List aE}{K:gl}
def bD.akV(aN:cW X.P X.E){x:Operand}(aA:o.op=.convert src dst x)(ah:∀ d,o.dst=some d->d<X.n)
 (aq:X.E src=some db) (dk:db.bP=.slice e) (he:X.E e=some aF) (kt:aF.bP=.int .u8) (kS:X.E dst=some HQ) (fD:HQ.bP=.string)
  {aM:Addr} {n c:Nat} {l:List UInt8} (ab:bH F x=.val (.slice (some aM) n c)) (aD:l.length=n) (bp:cR I M aM n (l.map λb=>.int .u8 b.toNat))
  (h:K (put o.dst (.val (.string ⟨l.toArray⟩)) F) C I M):bD X o F C I M K:=by
 subst aD;refine⟨λa w Q ⟨β,aV⟩=>?_⟩;obtain⟨av,cs,T,an,ae,aj,ax⟩:=bp;have aw:=ae.heap aV.holds;obtain⟨d,fP,fl⟩:=(aN _ _ aq).fs;have aa:d=.slice e:=by rw[dk]at fl;cases d<;>simp_all[fr]
 subst aa;obtain⟨d2,Q7,sL⟩:=(aN _ _ he).fs;have ad:d2=.int .u8:=by rw[kt]at sL;cases d2<;>simp_all[fr]
 subst ad;obtain⟨d3,Q8,LG⟩:=(aN _ _ kS).fs;have ak:d3=.string:=by rw[fD]at LG;cases d3<;>simp_all[fr]
 subst ak;have ao:∀ j (ai:j<l.length),w.cell? (aM.add j)=some (.int .u8 (l[j].toNat:Int)):=by
  intro j ai;rw[eS aM av,tl aw];have jS:(l.map λb=>Value.int .u8 b.toNat)[j]?=some (.int .u8 (l[j].toNat:Int)):=by simp[ai]
  rw[<-aj,lb,bT ai,mO]at jS;simpa using jS
 have ex:=dj aV.an ab;refine v9 aV ah (by rw[aA];simp) ?_ h;unfold execOp;simp only[aA,cp,da,ex,run_convert_bytes_back w src dst e aM c l fP Q7 Q8 ao,bZ]
end
section
variable{X:c3}{F:Fr}{C:dN}{I:aH}{M:List aE}{o:Oper}{K:gl}
def bD.akW(aN:cW X.P X.E){x:Operand}(aA:o.op=.convert src dst x)(ah:∀ d,o.dst=some d->d<X.n)
 (aq:X.E src=some db) (dk:db.bP=.slice e) (he:X.E e=some aF) (kt:aF.bP=.int .u8) (kS:X.E dst=some HQ) (fD:HQ.bP=.string)
  {c:Nat} (ab:bH F x=.val (.slice none 0 c))
  (h:K (put o.dst (.val (.string ⟨#[]⟩)) F) C I M):bD X o F C I M K:=by
 refine⟨λa w Q ⟨β,aV⟩=>?_⟩;obtain⟨d,fP,fl⟩:=(aN _ _ aq).fs;have aa:d=.slice e:=by rw[dk]at fl;cases d<;>simp_all[fr]
 subst aa;obtain⟨d2,Q7,sL⟩:=(aN _ _ he).fs;have ad:d2=.int .u8:=by rw[kt]at sL;cases d2<;>simp_all[fr]
 subst ad;obtain⟨d3,Q8,LG⟩:=(aN _ _ kS).fs;have ak:d3=.string:=by rw[fD]at LG;cases d3<;>simp_all[fr]
 subst ak;have ex:=dj aV.an ab;refine v9 aV ah (by rw[aA];simp) ?_ h;unfold execOp;have fb:(convert src dst (.slice none 0 c)).run X.P w=.ok (.string ⟨#[]⟩) w:=by rw[run_convert_bytes_string w src dst e none 0 c fP Q7 Q8];rfl
 simp only[aA,cp,da,ex,fb,bZ]
end
end Go.V
