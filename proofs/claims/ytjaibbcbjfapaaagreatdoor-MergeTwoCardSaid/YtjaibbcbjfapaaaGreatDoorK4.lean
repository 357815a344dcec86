/- Part 4 of what the proofs of this seat share: the executor, data in memory, walks.
-/
import Derived.Test.YtjaibbcbjfapaaaGreatDoorK3
import Derived.Test.YtjaibbcbjfapaaaGreatDoorK2
import Derived.Laws.IdiomStrings
set_option linter.all false
set_option maxHeartbeats 16000000
set_option maxRecDepth 100000
namespace Go.V
open Go Go.Proofs
def hB:=@List.mem_flatMap
def o9:=@List.flatMap_singleton
def lL:=@List.perm_middle
def qJ:=@List.singleton_append
def tK:=@List.sublist_append_left
def wM:=@List.perm_append_comm_assoc
def rK:=@List.pairwise_append
def mK:=@Nat.sub_self
def sL:=@List.foldl_append
def ve:=@List.length_reverse
def rL:=@List.length_set
def Cl:=@List.getElem_append_right
def wN:=@List.getElem_range
def yg:=@List.length_flatMap
def yh:=@List.reverse_append
def nY:=@Nat.ble_eq
def Cm:=@List.set_append_right
def yi:=@Nat.le_of_succ_le
def yj:=@List.flatMap_map
def z8:=@BitVec.getLsbD_or
def Ev:=@List.pairwise_flatMap
def Cn:=@List.set_cons_zero
def Co:=@BitVec.toNat_ofNat
def z9:=@Nat.mod_eq_of_lt
def HG:=@BitVec.eq_of_getLsbD_eq
def Cp:=@List.pairwise_map
def Ld:=@List.idxOf_lt_length_of_mem
def Le:=@List.getElem_concat_length
def Ew:=@BitVec.getLsbD_and
def Ex:=@List.filter_append
def Lf:=@List.Perm.append_left
def Ey:=@List.range_succ
def Ez:=@List.foldl_nil
def P8:=@List.pairwise_iff_getElem
def HH:=@List.take_append
def Lg:=@List.getElem_idxOf
def EA:=@Nat.sub_zero
def P9:=@List.getElem_reverse
def P':=@List.replicate_succ
def Yc:=@List.getLast?_eq_getElem?
def Qa:=@List.getElem_take
def HI:=@decide_true
def Lh:=@List.all_map
def Li:=@Bool.or_true
variable{t be:bf}{os:aO}{xs vs args:List Value}{size e n ic ln lc src dst c':Nat}{g:cR}{I I':aI}{y:Operand}{other:Prop}{z f:Bool}{s:ByteArray}{M M0:List aD}{P:Program}{dd aH tB Lj:dV}{pl:List (ByteArray×Int)}{la:Option Addr}{ns:List ak}{aB:List Int}{α:Type}{K:Value->aI->List aD->Prop}{foot:List Nat}
def iF(ns:List ak):Int->Nat:=mH 0 (λd g=>1+fC g d.ao) ns
def z'(ag:right t=true){j:Nat}(ai:j<t.ns.length):iF t.ns j=1+fC (iF t.ns) t.ns[j].ao:=
 D9 (λd g et h=>by rw[Xi h]) ag ai
def ajY(ag:right t=true):iF t.ns t.bp<=t.ns.length:=by
 have:=Pm ag (g:=iF t.ns) (c:=λ_=>1) λj ai=>by rw[z' ag ai];exact cf _
 rwa [KZ,m6]at this
def Yd{i:Nat}:∀ {ks:List Int} {s cr:List Bool},jm i ks s=some cr->∀ j,cr.getD j false=true->s.getD j false=true\/((j:Int)∈ks/\j<i)
 |[],s,cr,h,j,ai=>by simp only[jm,kW]at h;subst h;exact .inl ai
 |k::ks,s,cr,h,j,ai=>by
  unfold jm at h;cases ah:decide (k<0)||(decide ((i:Int)<=k)||s.getD k.toNat false)with
  |true=>rw[ah]at h;cases h
  |false=>
   rw[ah]at h;simp only[cw]at h;simp only[rq,pN]at ah;rcases Yd h j ai with aa | aa
   ·by_cases e:k.toNat=j
    ·right
     refine⟨?_,Z⟩;have:(j:Int)=k:=by omega
     rw[this];exact .head _
    ·left
     simp only[bP,iq]at aa |-;rwa [bK e]at aa
   ·exact .inr ⟨.tail _ aa.1,aa.2⟩
def Ye:∀ {ds:List ak} {i:Nat} {s cr:List Bool},ho i ds s=some cr->∀ j,cr.getD j false=true->s.getD j false=true\/∃ q,∃ h:q<ds.length,(j:Int)∈ds[q].ao/\j<i+q
 |[],i,s,cr,h,j,ai=>by simp only[ho,kW]at h;subst h;exact .inl ai
 |d::ds,i,s,cr,h,j,ai=>by
  unfold ho at h;cases aC:fits d d.ao.length with
  |false=>rw[aC]at h;cases h
  |true=>
   rw[aC]at h;simp only[cD]at h;split at h
   ·rename_i s1 gf;rcases Ye h j ai with aa | ⟨q,aM,aa,ab⟩
    ·rcases Yd gf j aa with al | ⟨al,aL⟩
     ·exact .inl al
     ·exact .inr ⟨0,am,al,Z⟩
    ·exact .inr ⟨q+1,by simpa using aM,ol,Z⟩
   ·cases h
def Yf(ag:right t=true){j:Nat}(ai:j<t.ns.length)(bH:(j:Int)≠t.bp):∃ p,∃ h:p<t.ns.length,(j:Int)∈t.ns[p].ao/\j<p:=by
 unfold right at ag;simp only[cH]at ag;obtain⟨_,_,ag⟩:=ag;split at ag
 ·rename_i s aw;have gJ:=(Pl (g:=λ_=>0) (c:=λ_=>0) aw am (λj ai=>am)).1;have hm:s.getD j false=true:=by
   cases ah:s.getD j false with
   |true=>rfl| false=>have:=Lb (bp:=t.bp) (s:=s) (i:=0) (j:=j) (by rw[gJ];simpa using ai) (by rw[ah,dg];simp[bH]);rw[this]at ag;cases ag
  rcases Ye aw j hm with aa | ⟨q,aM,aa,ab⟩;·simp[bP,ai]at aa
  ·exact⟨q,aM,aa,Z⟩
 ·cases ag
def Yg{g:Int->Nat}:∀ {ks:List Int} {k:Int},k∈ks->g k<=fC g ks
 |a::ks,k,h=>by
  simp only[fC,ch,hx];rcases ez.1 h with rfl | h;·omega
  ·have:=Yg (g:=g) h;simp only[fC]at this;omega
def Aa{t:bf}(ag:right t=true):∀ (m j:Nat),j<t.ns.length->t.ns.length-j<=m->iF t.ns j<=t.ns.length
 |0,j,ai,hm=>by omega
 |m+1,j,ai,hm=>by
  by_cases e:(j:Int)=t.bp;·rw[e];exact ajY ag
  ·obtain⟨p,aK,af,aV⟩:=Yf ag ai e;have aa:=Aa ag m p aK Z;rw[z' ag aK]at aa;have:=Yg (g:=iF t.ns) af;omega
def wO(g:Int->Nat)(a b:List Int):fC g (a++b)=fC g a+fC g b:=by simp[fC]
def Cq{t:bf}(ag:right t=true):∀ {l:List Int},valid t.ns.length l->l.length<=fC (iF t.ns) l
 |[],_=>by simp
 |a::l,an=>by have aa:=Cq ag (l:=l) λk af=>an k (.tail _ af);have ab:=an a (.head _);obtain⟨a,rfl⟩:=dZ ab.1;have al:=z' ag (j:=a) Z;simp only[fC,ch,hx,ey]at aa |-;have aL:iF t.ns (Int.ofNat a)=iF t.ns a:=rfl;omega
def wP(ns:List ak):Nat->List Int->List Int->List Int
 |0,_,b=>b
 |f+1,todo,b=>match todo.getLast? with
  |none=>b| some n=>wP ns f (todo.dropLast++(nodeAt ns n.toNat).ao) (b++[n])
def Ab(ns:List ak)(node:Int):List Int:=wP ns (ns.length+1) [node] []
def Qb(ns:List ak)(f:Nat)(b:List Int):wP ns f [] b=b:=by cases f<;>rfl
def Qc(ns:List ak)(f:Nat)(todo:List Int)(n:Int)(b:List Int):wP ns (f+1) (todo++[n]) b=wP ns f (todo++(nodeAt ns n.toNat).ao) (b++[n]):=by rw[wP];simp only[List.getLast?_concat,List.dropLast_concat]
def ak.aW(d:ak):ak:=⟨d.k,d.b0,d.s1,d.s2,d.cg,d.t,d.lo,d.hi,none,0,0,d.ao⟩
def ak.dJ(d:ak)(l:List Int):ak:=⟨d.k,d.b0,d.s1,d.s2,d.cg,d.t,d.lo,d.hi,none,0,0,l⟩
def Lk(ns:List ak)(a2:List Int×List ak)(b:Int):List Int×List ak:=
 (a2.1.set b.toNat a2.2.length,a2.2++[(nodeAt ns b.toNat).dJ ((nodeAt ns b.toNat).ao.map λk=>(a2.1.set b.toNat a2.2.length).getD k.toNat 0)])
def tL(ns:List ak)(node:Int):List ak:=((Ab ns node).reverse.foldl (Lk ns) (List.replicate ns.length 0,[])).2
def aO.pop{x:Value}(h:os.ok 1 (xs++[x])):aO.ok ⟨os.a,os.n-1,os.c,os.aR⟩ 1 xs:=by
 have ay:=h.len;simp only[ct,ey,hl,gm]at ay;refine⟨ce,λa8=>?_,λg az=>?_⟩
 ·have:=h.nil a8;simp only;omega
 ·obtain⟨aa,ab,al,aL⟩:=h.cap g az;refine⟨aa,ce,al,?_⟩;simp only;have e:os.n*1=xs.length+1:=by omega
  rw[e]at aL;have:os.aR.take xs.length=(os.aR.take (xs.length+1)).take xs.length:=by rw[zC];congr 1;omega
  rw[show(os.n-1)*1=xs.length by omega,this,aL,wy]
def ajZ{ys:List Value}{m:Nat}(bV:os.ok size xs){g c:Nat}{aR:List Value}(aF:ys.length=m*size)(aa:aR.length=c*size)(ab:os.n+m<=c)(al:c<=maxLen)(aL:aR.take ((os.n+m)*size)=xs++ys) :
  aO.ok ⟨some g,os.n+m,c,aR⟩ size (xs++ys):=by
 have ay:=bV.len;refine⟨?_,(λh=>ci),λb2 o4=>⟨aa,ab,al,aL⟩⟩;rw[ct,ay,aF];simp only;rw[kD]
structure Qd(t:bf)(node:Int)(x:aO×List Int×aO×List Int×Nat):Prop where
 todo:x.1.ok 1 (x.2.1.map (.int .i64 ·))
 back:x.2.2.1.ok 1 (x.2.2.2.1.map (.int .i64 ·))
 awG:valid t.ns.length x.2.1
 awH:valid t.ns.length x.2.2.2.1
 sum:fC (iF t.ns) x.2.1+x.2.2.2.1.length=iF t.ns node
 fK:fC (iF t.ns) x.2.1+1<=x.2.2.2.2
 eq:Ab t.ns node=wP t.ns x.2.2.2.2 x.2.1 x.2.2.2.1
structure Qe(I:aI)(t:bf)(rb:List Int)(x:Nat×List Int×aO×List ak×aI):Prop where
 j:x.1<=rb.length
 len:x.2.1.length=t.ns.length
 out:x.2.2.1.ok 9 (x.2.2.2.1.flatMap ak.cells)
 on:x.2.2.2.1.length=x.1
 eq:(rb.take x.1).foldl (Lk t.ns) (List.replicate t.ns.length 0,[])=(x.2.1,x.2.2.2.1.map ak.aW)
 ok:∀ d∈x.2.2.2.1,d.ok x.2.2.2.2
 le:∀ b o,I b=some o->x.2.2.2.2 b=some o
 tH:∀ c∈x.2.1,0<=c/\c<=rb.length
 Qf:∀ d∈x.2.2.2.1,∀ k∈d.ao,0<=k/\k<=rb.length
def aj0(au:t.ok I)(ag:right t=true)(W:Nat)(hG:∀ d∈t.ns,d.aA<=W)(ah:t.n*W<=1152921504606846976)(aE:t.n<=1099511627776){node:Nat}(Cr:node<t.n) :
  Spec Tryz.prog 172 [t.val,.int .i64 node] I [] λv I' M'=>(∀ b o,I b=some o->I' b=some o)/\M'=[]/\∃ be:bf,v=.tuple #[be.val,.bool true]/\be.ok I'/\be.ns.map ak.aW=tL t.ns node/\be.bp=(be.ns.length:Int)-1/\be.ns.length<=t.n/\∀ d∈be.ns,∀ k∈d.ao,0<=k/\k<=t.n:=by
 refine wg [] aT Tryz.func172 rfl rfl rfl ?_;intro B ax;have gu:=au.n;have g8:=au.a'.cap;have aj1:iF t.ns node<=t.ns.length:=Aa ag t.ns.length node Z Z;refine a9.mk [] [] _ (.refl _) (X7 au W hG ah) ?_;rintro v I' M' -⟨rfl,rfl,rfl⟩;rw[ag];refine bZ.mk (λ_=>?_) (λh=>d5);refine bZ.mk (λ_=>?_) (λh=>?_)
 rotate_left
 ·have:((node:Nat):Int)<0:=cv h;omega
 refine aS.mk (λh=>?_) (λ_=>?_)
 ·have:((t.n:Nat):Int)<=((node:Nat):Int):=cv h;omega
 refine bN.mk λb1 iU HD=>?_;refine c2.inv (ι:=aO×List Int×aO×List Int×Nat) (λx=>{ bn:=[(2,.ref 2 0),(4,.ref 4 0),(6,.val x.2.2.1.val),(7,.val x.1.val)],cl:=[(2,t.cells),(4,[.slice none 0 0,.int .i64 0])],cm:=I',cK:=x.2.2.1.aq 3++x.1.aq 3 }) (Qd t node) (λx=>fC (iF t.ns) x.2.1) ?_ ?_
 ·refine⟨(⟨some b1,1,1,[.int .i64 node]⟩,[(node:Int)],gV,[],t.ns.length+1),⟨⟨rfl,(λh=>ci),λet jF=>⟨rfl,cf _,ayU,rfl⟩⟩,jt 1,λk af=>?_,(λk af=>aig),?_,?_,rfl⟩,.refl,dS,.cons rfl (.cons rfl .nil)⟩
  ·simp only[ep]at af;omega
  ·simp[fC]
  ·simp only[fC,ch,hd,hx,x5];omega
 rintro⟨todo,Cs,back,eu,f⟩⟨pb,oo,wQ,wR,vf,Ac,tz⟩;simp only at pb oo wQ wR vf Ac tz;have kf:=oo.nX;have u1:=pb.nX;refine aS.mk (λh=>?_) (λh=>?_)
 ·have Qg:0<todo.n:=by have:(0:Int)<(todo.n:Int):=cv h;omega
  obtain⟨gv,m,rfl⟩:∃ gv m,Cs=gv++[m]:=by
   rcases xS Cs with aa | ⟨r,p,aa⟩;·subst aa;simp at u1;omega
   ·exact⟨r,p,ol⟩
  have hm:=wQ m am;obtain⟨m,rfl⟩:=dZ hm.1;have gn:m<t.n:=by omega
  have kg:m<t.ns.length:=by omega
  have HJ:todo.n=gv.length+1:=by simpa using u1
  have HK:=z' ag kg;rw[wO]at vf Ac;have gf:fC (iF t.ns) [(m:Int)]=iF t.ns m:=by simp[fC]
  rw[gf,HK]at vf Ac;have aj2:gv.length<=fC (iF t.ns) gv:=Cq ag λk af=>wQ k ai';have aj3:t.ns[m].ao.length<=fC (iF t.ns) t.ns[m].ao:=Cq ag λk af=>by have:=jX ag m kg k af;omega
  have wS:gv.length+t.ns[m].ao.length<=t.ns.length:=by omega
  obtain⟨ad,bt,bj⟩:=aO.yf (I:=I') (e:=3) (M:=back.aq 3++todo.aq 3) pb (λx ae=>f0) (j:=gv.length) am;rw[Le rfl]at bj;have k':=pb;rw[cJ]at k';have k':=aO.pop k';refine a3.mk ((gv.length:Nat):Int) (iY ac' Z) ?_;refine bi.mk ad gv.length bt rfl (show gv.length<todo.n by omega) ?_;refine aJ.mk _ bj ?_;refine a3.mk ((gv.length:Nat):Int) (iY ac' Z) ?_;refine j7.mk 0 gv.length rfl rfl (dh _) ?_ ?_
  ·have:=pb.cap;obtain⟨uT,on,aj4,aj5⟩:=todo;cases uT with
   |none=>have:=(pb.nil rfl).1;simp only at this HJ;omega| some yk=>obtain⟨-,ab,-,-⟩:=pb.cap yk rfl;simp only at ab HJ |-;omega
  refine bN.mk λb8 iR K4=>?_;refine bz.append aT rfl am (e:=3) rfl rfl rfl back oo rfl (m:=1) rfl (cb:=[.int .i64 m]) bv (dj (b:=b8) (cs:=[.int .i64 m]) (k:=0) (n:=1) (T:=3) (.head _) am) rfl (Mr:=⟨b8,.cells #[.int .i64 m] 3 (0,0)⟩::todo.aq 3) lL.symm i5 (by show(back.n+1)*8<=_;omega) ?_;intro bb fg HL ee eO eS jq;have aj6:aO.ok ⟨some bb,back.n+1,fg,HL⟩ 1 ((eu++[(m:Int)]).map (.int .i64 ·)):=by rw[cJ];exact XE oo ee eO eS jq
  obtain⟨k8,k9,hv⟩:=au.a'.row ak.cq gn kg;have aj:=au.ns _ (bD kg);have eF:=aj.aA;have mL:=aj.a'.cap;have gp:=jX ag m kg;have aj7:valid t.ns.length (gv++t.ns[m].ao):=λk af=>by
   rcases cW.1 af with af | af;·exact wQ k ai'
   ·have:=gp k af;omega
  have aj8:valid t.ns.length (eu++[(m:Int)]):=λk af=>by
   rcases cW.1 af with af | af;·exact wR k af
   ·simp only[ep]at af;omega
  have aj9:∀ sC,f=sC+1->Ab t.ns node=wP t.ns sC (gv++t.ns[m].ao) (eu++[(m:Int)]):=λsC to=>by rw[tz,to,Qc,h2,fw kg]
  have hinv:∀ pd:aO,pd.ok 1 ((gv++t.ns[m].ao).map (.int .i64 ·))->Qd t node (pd,gv++t.ns[m].ao,⟨some bb,back.n+1,fg,HL⟩,eu++[(m:Int)],f-1):=λpd iu=>by
   refine⟨iu,aj6,aj7,aj8,?_,?_,aj9 (f-1) Z⟩;·simp only[wO,ct,ey,hl];omega
   ·simp only[wO];omega
  have B6:fC (iF t.ns) (gv++t.ns[m].ao)<fC (iF t.ns) (gv++[(m:Int)]):=by rw[wO,wO,gf,HK];omega
  refine bi.mk k8 m k9 rfl gn ?_;refine aJ.mk _ ((hv _).part (k:=8) (m:=1) bv) ?_;generalize eZ:t.ns[m]=d at aj eF mL hv hinv B6 wS;by_cases jH:d.aA=0
  ·have nJ:d.ao=[]:=iB Z;rw[nJ,dE]at hinv B6;refine bz.KJ aT rfl am (e:=3) (sa:=todo.a.map λg=>⟨g,0,none⟩) (n:=gv.length) (c:=todo.c) rfl rfl rfl am rfl rfl ?_ rfl (.inl ⟨d.bX,d.b5,by rw[<-jH];rfl⟩) ?_
   ·obtain⟨uT,on,aj4,aj5⟩:=todo;cases uT with
    |none=>have:=(pb.nil rfl).1;simp only at this HJ;omega| some yk=>obtain⟨-,ab,-,-⟩:=pb.cap yk rfl;simp only at ab HJ |-;omega
   have he:todo.n-1=gv.length:=by omega
   refine⟨_,⟨hinv _ k',B6⟩,.sub (M1:=⟨bb,.cells HL.toArray 3 (0,0)⟩::todo.aq 3) (.cons_cons _ (.cons _ (.refl _))) .refl,.cons .refl (.cons .refl (.cons .refl (.cons ?_ .nil))),.cons rfl (.cons rfl .nil)⟩;simp only[aO.val,he];exact .refl
  ·obtain⟨fq,eN,de,cs,T,ap,bG,an⟩:=aj.a'.rd.resolve_left jH;have Yh:aO.ok ⟨todo.a,gv.length,todo.c,todo.aR⟩ 1 (gv.map (.int .i64 ·)):=by
    have he:todo.n-1=gv.length:=by omega
    rw[<-he];exact k'
   refine bz.append aT rfl am (e:=3) rfl rfl rfl ⟨todo.a,gv.length,todo.c,todo.aR⟩ Yh rfl (ad:=fq) (m:=d.aA) (c':=d.b5) (by rw[<-eN];rfl) (cb:=d.ao.map (.int .i64 ·)) Z ⟨de,cs,T,ap,.inl bG,an,by simp[eF]⟩ ?_ (Mr:=[⟨bb,.cells HL.toArray 3 (0,0)⟩,⟨b8,.cells #[.int .i64 m] 3 (0,0)⟩]) (eM (l₁:=[_,_])) i5 (by show(gv.length+d.aA)*8<=_;omega) ?_;·simp[fG,Value.oneCell']
   intro bh e1 tM fT kL nZ tG;refine⟨(⟨some bh,gv.length+d.aA,e1,tM⟩,_,_,_,_),⟨hinv _ ?_,B6⟩,.sub (M1:=[⟨bh,.cells tM.toArray 3 (0,0)⟩,⟨bb,.cells HL.toArray 3 (0,0)⟩]) (.cons_cons _ (.cons_cons _ (eY _))) (.perm (List.Perm.swap _ _ _) .refl),dS,.cons rfl (.cons rfl .nil)⟩;rw[cJ];exact ajZ Yh (by simp[eF]) fT kL nZ tG
 have Qh:Cs=[]:=by have:¬ (0:Int)<(todo.n:Int):=db h;exact iB Z
 subst Qh;rw[Qb]at tz;simp only[fC,hd,x5,dg]at vf;clear Ac pb wQ h;refine n9.mk t.n t.n rfl rfl (cf _) WP Z ?_;refine bN.mk λb9 kI x'=>?_;refine a3.mk ((eu.length:Int)-1) (iY ac' Z) ?_;refine c2.rc (ι:=Nat×List Int×aO×List ak×aI) (λx=>{ bn:=[(2,.ref 2 0),(4,.ref 4 0),(6,.val back.val),(9,.val (.slice (some ⟨b9,0,none⟩) t.n t.n)),(10,.val x.2.2.1.val),(11,.val (.int .i64 ((eu.length:Int)-1-x.1)))],cl:=[(2,t.cells),(4,[.slice none 0 0,.int .i64 0])],cm:=x.2.2.2.2,cK:=cV b9 x.2.1::(x.2.2.1.aq 88++back.aq 3) }) (Qe I' t eu.reverse) (λx=>eu.length-x.1) ?_ ?_
 ·intro _;refine⟨(0,List.replicate t.n 0,gV,[],I'),⟨dh _,by simp[gu],jt 9,rfl,(by rw[gu];rfl),(λd aj=>t7),λ_ _ h=>h,(λc ar=>by have:=Hd ar;omega),(λd aj=>t7)⟩,?_,.cons .refl (.cons .refl (.cons .refl (.cons .refl (.cons .refl (.cons ?_ .nil))))),.cons rfl (.cons rfl .nil)⟩
  ·simp only[xY,cV,xT,gm];exact .sub (M1:=⟨b9,.cells (List.replicate t.n (Value.int .i64 0)).toArray 3 (0,0)⟩::(gV.aq 88++back.aq 3)) (.cons_cons _ (tK _ _)) .refl
  ·simp only[Int.ofNat_zero,Int.sub_zero];exact .refl
 rintro⟨j,P,out,gh,J⟩⟨ai,tJ,nj,gK,pe,tN,a6,yl,iv⟩;simp only at ai tJ nj gK pe tN a6 yl iv;rw[ve]at ai yl iv;have sM:out.n=j:=by have:=nj.len;rw[gz _ 9 ak.cq,gK]at this;omega
 subst sM;refine aS.mk (λh=>?_) (λh=>?_)
 ·have fY:out.n<eu.length:=by have:(0:Int)<=(eu.length:Int)-1-(out.n:Int):=cv h;omega
  have vg:out.n<eu.reverse.length:=by simpa using fY
  have Yi:eu.length-1-out.n<eu.length:=by omega
  have aka:eu.reverse[out.n]=eu[eu.length-1-out.n]:=by rw[P9]
  have hm:=wR _ (bD Yi);obtain⟨m,sN⟩:=dZ hm.1;rw[sN]at hm;have gn:m<t.n:=by omega
  have kg:m<t.ns.length:=by omega
  have zw:((eu.length:Int)-1-(out.n:Int))=((eu.length-1-out.n:Nat):Int):=by omega
  have Yj:∀ {M:List aD},(∀ x∈back.aq 3,x∈M)->∃ ad,(back.a.map λg=>(⟨g,0,none⟩:Addr))=some ad/\cG J M (ad.add ((eu.length-1-out.n)*1)) 1 [.int .i64 m]:=λbd=>by obtain⟨ad,aa,ab⟩:=aO.yf (I:=J) (e:=3) oo bd Yi;rw[sN]at ab;exact⟨ad,aa,ab⟩
  obtain⟨k8,k9,hv⟩:=(au.a'.mono a6).row ak.cq gn kg;have aj:=(au.ns _ (bD kg)).mono a6;have eF:=aj.aA;have mL:=aj.a'.cap;have gp:=jX ag m kg;have jL:nodeAt t.ns m=t.ns[m]:=fw kg;generalize eZ:t.ns[m]=d at aj eF mL gp hv jL;obtain⟨ad,bt,Ct⟩:=Yj (M:=cV b9 P::(out.aq 88++back.aq 3)) (λx ae=>f0);refine cN.draw aT rfl rfl rfl ?_;refine bi.mk ad (eu.length-1-out.n) bt zw (show _<back.n by omega) ?_;refine aJ.mk _ Ct ?_;refine bi.mk k8 m k9 rfl gn ?_;refine aJ.mk _ (hv _) ?_;refine bN.mk λfc Qi awI=>?_;refine b'.mk [] _ _ _ rfl rfl (bJ rfl) rfl ?_;obtain⟨Ad,ym,akb⟩:=Yj (M:=⟨fc,.cells d.cells.toArray 88 (0,0)⟩::cV b9 P::(out.aq 88++back.aq 3)) (λx ae=>f0);refine bi.mk Ad (eu.length-1-out.n) ym zw (show _<back.n by omega) ?_;refine aJ.mk _ akb ?_;refine bi.mk ⟨b9,0,none⟩ m rfl rfl gn ?_;refine b'.add [⟨fc,.cells d.cells.toArray 88 (0,0)⟩] (out.aq 88++back.aq 3) _ _ rfl ?_ rfl ?_;·simp only[q6,bA];show 0+m*1+1<=_;omega
  have gy:=nO P m Z (out.n:Int);generalize p0:P.set m (out.n:Int)=dc at gy;have EB:dc.length=t.ns.length:=by rw[<-p0];simpa using tJ
  have wT:∀ c∈dc,0<=c/\c<=eu.length:=λc ar=>by
   rw[<-p0]at ar;rcases sD ar with ar | rfl;·exact yl c ar
   ·omega
  have Qj:∀ {M:List aD} {cs:List Value} (k n:Nat),(⟨fc,.cells cs.toArray 88 (0,0)⟩:aD)∈M->k+n<=cs.length->cG J M ((⟨fc,0,none⟩:Addr).add k) n ((cs.drop k).take n):=λk n bd ay=>dj bd ay;refine c2.inv (ι:=Nat×aO×List Int) (λy=>{ bn:=[(2,.ref 2 0),(4,.ref 4 0),(6,.val back.val),(9,.val (.slice (some ⟨b9,0,none⟩) t.n t.n)),(10,.val out.val),(11,.val (.int .i64 ((eu.length:Int)-1-out.n))),(12,.val (ptr fc)),(13,.val y.2.1.val),(14,.val (.int .i64 y.1))],cl:=[(2,t.cells),(4,[.slice none 0 0,.int .i64 0])],cm:=J,cK:=y.2.1.aq 3++(⟨fc,.cells d.cells.toArray 88 (0,0)⟩::cV b9 dc::(out.aq 88++back.aq 3)) }) (λy=>y.1<=d.aA/\y.2.1.ok 1 (y.2.2.map (.int .i64 ·))/\y.2.2=(d.ao.take y.1).map λk=>dc.getD k.toNat 0) (λy=>d.aA-y.1) ?_ ?_;·refine⟨(0,gV,[]),⟨dh _,jt 1,am⟩,?_,l3,.cons rfl (.cons rfl .nil)⟩;simp only[cV];rw[<-gy];simp only[dg,gm];exact .refl
  rintro⟨k,dk,ff⟩⟨af,hN,cL⟩;simp only at af hN cL;have Yk:=hN.nX;have jD:(⟨fc,.cells d.cells.toArray 88 (0,0)⟩:aD)∈dk.aq 3++(⟨fc,.cells d.cells.toArray 88 (0,0)⟩::cV b9 dc::(out.aq 88++back.aq 3)):=by simp
  have HM:cV b9 dc∈dk.aq 3++(⟨fc,.cells d.cells.toArray 88 (0,0)⟩::cV b9 dc::(out.aq 88++back.aq 3)):=by simp
  have gJ:ff.length<=d.aA:=by rw[cL,bA];exact iO (zA _ _) af
  have Cu:ff.length<=k:=by rw[cL,bA];exact zA _ _
  refine aJ.mk [.slice d.bX d.aA d.b5] (Qj 8 1 jD ayS) ?_;refine aS.mk (λab=>?_) (λab=>?_)
  ·have eR:k<d.aA:=by have:(k:Int)<(d.aA:Int):=cv ab;omega
   have h7:k<d.ao.length:=by omega
   obtain⟨fq,eN,eL⟩:=aj.a'.one eR h7;have an:=gp _ (bD h7);have rM:d.ao[k].toNat<dc.length:=by omega
   have yn:dc.getD d.ao[k].toNat 0=dc[d.ao[k].toNat]:=by simp[bP,rM]
   refine aJ.mk [.slice d.bX d.aA d.b5] (Qj 8 1 jD ayS) ?_;refine bi.mk fq k eN rfl eR ?_;refine aJ.mk _ (eL _) ?_;refine bi.mk ⟨b9,0,none⟩ d.ao[k].toNat rfl Z Z ?_;refine aJ.mk _ (zM HM rM) ?_;refine bN.mk λkn akc awJ=>?_;refine bz.append aT rfl am (e:=3) rfl rfl rfl dk hN rfl (m:=1) rfl (cb:=[.int .i64 dc[d.ao[k].toNat]]) bv (dj (b:=kn) (cs:=[.int .i64 dc[d.ao[k].toNat]]) (k:=0) (n:=1) (T:=3) (.head _) am) rfl (Mr:=⟨kn,.cells #[.int .i64 dc[d.ao[k].toNat]] 3 (0,0)⟩::(⟨fc,.cells d.cells.toArray 88 (0,0)⟩::cV b9 dc::(out.aq 88++back.aq 3))) lL.symm i5 ayL ?_;intro bh e1 tM fT kL nZ tG;refine a3.mk _ (cC (i:=k) Z) ?_;refine⟨(k+1,⟨some bh,dk.n+1,e1,tM⟩,ff++[dc[d.ao[k].toNat]]),⟨⟨ce,?_,?_⟩,ce⟩,.sub (.cons_cons _ (.cons _ (.refl _))) .refl,l3,.cons rfl (.cons rfl .nil)⟩;·simp only;rw[cJ];exact XE hN fT kL nZ tG
   ·simp only;rw[gi h7,cJ,<-cL,ch,hd,yn]
  have cM:d.aA<=k:=by have:¬ (k:Int)<(d.aA:Int):=db ab;omega
  rw[fE Z]at cL;have bW:∃ bO:ak,bO=⟨d.k,d.b0,d.s1,d.s2,d.cg,d.t,d.lo,d.hi,dk.a.map λg=>⟨g,0,none⟩,dk.n,dk.c,ff⟩:=⟨_,rfl⟩;obtain⟨bO,bW⟩:=bW;have Cv:cp d.cells (0+8) [dk.val]=bO.cells:=by rw[bW];rfl
  refine b'.iC (dk.aq 3) (cV b9 dc::(out.aq 88++back.aq 3)) d.cells _ rfl rfl rfl bO.cells Cv ?_;have akd:(⟨fc,.cells bO.cells.toArray 88 (0,0)⟩:aD)∈dk.aq 3++(⟨fc,.cells bO.cells.toArray 88 (0,0)⟩::cV b9 dc::(out.aq 88++back.aq 3)):=by simp
  refine aJ.mk bO.cells (Qj 0 9 akd ayS) ?_;refine bN.mk λAe Qk Ql=>?_;have ake:(⟨Ae,.cells bO.cells.toArray 88 (0,0)⟩::(dk.aq 3++(⟨fc,.cells bO.cells.toArray 88 (0,0)⟩::cV b9 dc::(out.aq 88++back.aq 3)))).Perm (out.aq 88++(⟨Ae,.cells bO.cells.toArray 88 (0,0)⟩::(dk.aq 3++(⟨fc,.cells bO.cells.toArray 88 (0,0)⟩::cV b9 dc::back.aq 3)))):=by simpa using wM (⟨Ae,.cells bO.cells.toArray 88 (0,0)⟩::(dk.aq 3++[⟨fc,.cells bO.cells.toArray 88 (0,0)⟩,cV b9 dc])) (out.aq 88) (back.aq 3)
  refine bz.append aT rfl am (e:=88) rfl rfl rfl out nj rfl (m:=1) rfl (cb:=bO.cells) bv (dj (b:=Ae) (cs:=bO.cells) (k:=0) (n:=9) (T:=88) (.head _) ayS) rfl (Mr:=⟨Ae,.cells bO.cells.toArray 88 (0,0)⟩::(dk.aq 3++(⟨fc,.cells bO.cells.toArray 88 (0,0)⟩::cV b9 dc::back.aq 3))) ?_ i5 ww ?_;·exact ake
  intro b2 js Ll ko iG tO HN;refine a3.mk ((eu.length:Int)-1-(out.n+1:Nat)) (iY Z Z) ?_;have vh:∀ c∈ff,0<=c/\c<=eu.length:=λc ar=>by
   rw[cL]at ar;obtain⟨q,aM,rfl⟩:=c6.1 ar;have rJ:=gp q aM;have Cw:q.toNat<dc.length:=by omega
   exact wT (dc.getD q.toNat 0) wn
  intro ew;obtain⟨kM,hw,bo,dM⟩:=aO.Eo (I:=J) (b:=8) (e:=3) hN Z (λg az=>ew.d ⟨g,.cells dk.aR.toArray 3 (0,0)⟩ lm) (cV b9 dc::([⟨b2,.cells Ll.toArray 88 (0,0)⟩]++back.aq 3));refine⟨(out.n+1,dc,⟨some b2,out.n+1,js,Ll⟩,gh++[bO],kM),⟨⟨ce,EB,?_,by simp[gK],?_,?_,λb o h=>bo _ _ (a6 _ _ h),?_,?_⟩,ce⟩,?_,uF,.cons rfl (.cons rfl .nil)⟩
  ·simp only;rw[fL];have:([bO].flatMap ak.cells)=bO.cells:=by simp
   rw[this];exact P7 nj (ak.cq _) ko iG tO HN
  ·simp only;rw[gi vg,sL,pe,kw,Ez,aka,sN];show(P.set m ((gh.map ak.aW).length:Int),gh.map ak.aW++[(nodeAt t.ns m).dJ ((nodeAt t.ns m).ao.map λk=>(P.set m ((gh.map ak.aW).length:Int)).getD k.toNat 0)])=_;rw[bA,gK,p0,jL,<-cL,cJ,bW];rfl
  ·simp only;intro x ae;rcases cW.1 ae with ae | ae
   ·exact(tN x ae).mono bo
   ·simp only[ep]at ae;rw[ae,bW];refine⟨aj.k,aj.b0,aj.s1,aj.s2,aj.cg,aj.t,aj.lo,aj.hi,dM,λc ar=>?_⟩;have:=vh c ar;exact⟨Z,Z⟩
  ·simp only[ve];exact wT
  ·simp only[ve];intro x ae;rcases cW.1 ae with ae | ae
   ·exact iv x ae
   ·simp only[ep]at ae;rw[ae,bW];exact vh
  ·simp only;refine .sub (M1:=⟨b2,.cells Ll.toArray 88 (0,0)⟩::(dk.aq 3++(cV b9 dc::back.aq 3))) (.cons_cons _ (.cons _ (List.Sublist.append (.refl _) (.cons _ (.refl _))))) ?_;refine .perm (M1:=dk.aq 3++(cV b9 dc::([(⟨b2,.cells Ll.toArray 88 (0,0)⟩:aD)]++back.aq 3))) ?_ hw;exact lL.symm.trans (Lf _ (List.Perm.swap _ _ _))
 have cM:out.n=eu.length:=by have:¬ (0:Int)<=(eu.length:Int)-1-(out.n:Int):=db h;omega
 refine a3.mk ((gh.length:Int)-1) (iY ac' Z) ?_;intro ew;obtain⟨kM,hw,bo,dM⟩:=aO.Eo (I:=J) (b:=96) (e:=88) nj Z (λg az=>ew.d ⟨g,.cells out.aR.toArray 88 (0,0)⟩ lm) [];refine⟨kM,[],.sub (M1:=out.aq 88++[]) (by rw[dE];exact .cons _ (tK _ _)) hw,λb o h=>bo _ _ (a6 _ _ h),rfl,⟨gh,out.a.map λg=>⟨g,0,none⟩,out.n,out.c,(gh.length:Int)-1⟩,rfl,⟨dM,λd aj=>(tN d aj).mono bo,⟨ce,ce⟩⟩,?_,rfl,ce,λd aj k af=>by have:=iv d aj k af;omega⟩;rw[fE (by rw[ve];omega)]at pe;rw[tL,tz,pe]
structure a0 where
 z:Bool
 s:Bool
 f:Bool
 deriving DecidableEq
def a0.cells(x:a0):List Value:=[.bool x.z,.bool x.s,.bool x.f]
def a0.val(x:a0):Value:=.agg #[.bool x.z,.bool x.s,.bool x.f]
def a0.cq(x:a0):x.cells.length=3:=rfl
def a0.jZ(x:a0):Bool:=x.z||x.s
def akf(x y:a0)(p q:Operand)(w:World):(do eqGuard .neq 333 p q x.val y.val;binOp .neq 333 x.val y.val:Sem Value).run Tryz.prog w=.ok (.bool (!decide (x=y))) w:=by
 obtain⟨a,b,c⟩:=x;obtain⟨d,e,f⟩:=y;cases a<;>cases b<;>cases c<;>cases d<;>cases e<;>cases f<;>kernel_rfl
def fm.Yl{x:Operand}{p q:a0}{V:Value->Prop}(h:V (.bool (!decide (p=q)))):fm Tryz.prog .neq 333 x y (.val (.agg #[.bool p.z,.bool p.s,.bool p.f])) (.val (.agg #[.bool q.z,.bool q.s,.bool q.f])) V other:=
 .mk _ _ _ rfl rfl (λw=>akf p q x y w) h
def Qm{s:Bool}{x:a0}(aa:z=x.z)(ab:s=x.s)(al:f=x.f):Value.agg #[.bool z,.bool s,.bool f]=x.val:=by subst aa ab al;rfl
def Ym{s:Bool}{x:a0}(aa:z=x.z)(ab:s=x.s)(al:f=x.f):[Value.bool z,Value.bool s,Value.bool f]=x.cells:=by subst aa ab al;rfl
def akg{a b:Bool}(h:a=b):zm (.val (.bool a)) (.val (.bool b)):=by subst h;exact .refl
def Lm{a b:Bool}(h:a=b):zm (.lit a) (.val (.bool b)):=by subst h;exact .lit
def perm_nil:M.Perm (M++[]):=by simp
theorem fm.Qn{E:Env}(aQ:cX P E){t:Nat}{x:Operand}(au:E t=some dd)(dA:dd.bM=.array 4 e)(he:E e=some aH){k:IntKind}(jV:aH.bM=.int k)(az:P.eqGuardType P.depth t=false){fO cO en ev od b1 b8 eo:Int}{V:Value->Prop}
  (h:V (.bool (!(fO == od&&(cO == b1&&(en == b8&&ev == eo)))))):fm P .neq t x y (.val (.agg #[.int k fO,.int k cO,.int k en,.int k ev])) (.val (.agg #[.int k od,.int k b1,.int k b8,.int k eo])) V other:=by
 obtain⟨d,fQ,eZ⟩:=(aQ _ _ au).fA;obtain⟨qC,O4,O5⟩:=(aQ _ _ he).fA;obtain⟨inf,z,hi,fp,_⟩:=(aQ _ _ he).inf;have aa:d=.array 4 e:=by rw[dA]at eZ;cases d<;>simp_all[fz]
 have ab:qC=.int k:=by rw[jV]at O5;cases qC<;>simp_all[fz]
 subst aa;subst ab;have gf:inf.size=1:=by rw[fp];exact(aQ _ _ he).J4 (by rw[jV];rfl)
 refine .mk _ _ _ rfl rfl (λw=>?_) h;simp only[cz,run_eqGuard_agg (hm:=az),cd,binOp,We fQ O4 hi gf,dn]
def Qo(x:a0):Spec Tryz.prog 379 [x.val] I M λv I' M'=>v=.bool x.jZ/\I'=I/\M'=M:=by
 obtain⟨a,b,c⟩:=x;refine bR [] aT Tryz.func379 rfl rfl rfl ?_;intro B ax;refine bZ.mk (λh=>?_) (λh=>?_)
 ·exact⟨_,_,.refl,by rw[show a=false from h];rfl,rfl,rfl⟩
 ·exact⟨_,_,.refl,by rw[show a=true from h];rfl,rfl,rfl⟩
structure mb(I:aI)(M:List aD)(a:Option Addr)(n:Nat)(ks:List a0):Prop where
 n:ks.length=n
 rd:∀ j (h:j<ks.length),∃ ad,a=some ad/\cG I M (ad.add (j*3)) 3 ks[j].cells
def lb(a2:a0×Bool)(k:a0):a0×Bool:=(⟨a2.1.z&&k.z,a2.1.s||k.s,a2.1.f||(a2.2&&k.f)⟩,a2.2&&k.jZ)
def hO(ks:List a0):a0×Bool:=ks.foldl lb (⟨true,false,false⟩,true)
def hC(ks:List a0):a0:=⟨(hO ks).1.z,(hO ks).1.s&&(hO ks).2,(hO ks).1.f⟩
def pf(f k:a0):a0:=⟨f.z||(f.f&&k.z),f.s||(f.f&&k.s),f.f&&k.f⟩
def p1(ks:List a0):a0:=ks.foldl pf ⟨false,false,true⟩
def cn:a0:=⟨false,false,false⟩
def yo(d:ak)(k:a0):a0:=bif decide (d.hi=0)then⟨true,false,false⟩else⟨k.z||(decide (d.lo=0)&&k.f),k.s,decide (0<d.lo)&&k.f⟩
def gL(d:ak)(ks:List a0):a0:=
 bif decide (d.k=0)then⟨true,false,false⟩else
 bif decide (d.k=1)then⟨false,!d.jW,true⟩else
 bif decide (d.k=2)then⟨false,true,true⟩else
 bif decide (d.k=3)then ks.headD cn else
 bif decide (d.k=4)then hC ks else
 bif decide (d.k=5)then p1 ks else
 bif decide (d.k=6)then yo d (ks.headD cn)else
 bif decide (d.k=7)then⟨(ks.headD cn).jZ,false,(ks.headD cn).f⟩else
 bif decide (d.k=8)then⟨(ks.headD cn).f,false,(ks.headD cn).jZ⟩else ks.headD cn
section
variable{I:aI}{M:List aD}{d:ak}{a:Option Addr}{n c:Nat}{ks:List a0}
def mb.head(af:mb I M a n ks)(ax:0<n):∃ ad,a=some ad/\cG I M (ad.add (0*3)) 3 (ks.headD cn).cells:=by
 have aa:0<ks.length:=by rw[af.n];exact ax
 obtain⟨ad,ab,al⟩:=af.rd 0 aa;refine⟨ad,ab,?_⟩;cases ks with
 |nil=>simp at aa| cons k ks=>exact al
def akh:Spec Tryz.prog 351 [d.val,.slice a n c] I M λv I' M'=>v=a0.val ⟨true,false,false⟩/\I'=I/\M'=M:=by refine bR [] aT Tryz.func351 rfl rfl rfl ?_;intro B ax;exact⟨_,_,.refl,rfl,rfl,rfl⟩
def aki:Spec Tryz.prog 353 [d.val,.slice a n c] I M λv I' M'=>v=a0.val ⟨false,true,true⟩/\I'=I/\M'=M:=by refine bR [] aT Tryz.func353 rfl rfl rfl ?_;intro B ax;exact⟨_,_,.refl,rfl,rfl,rfl⟩
def Yn(af:mb I M a n ks)(ax:0<n):Spec Tryz.prog 354 [d.val,.slice a n c] I M λv I' M'=>v=(ks.headD cn).val/\I'=I/\M'=M:=by refine bR [] aT Tryz.func354 rfl rfl rfl ?_;intro B jk;obtain⟨ad,bt,bj⟩:=af.head ax;refine bi.mk ad 0 bt rfl ax ?_;refine aJ.mk _ bj ?_;exact⟨_,_,.refl,rfl,rfl,rfl⟩
def akj(af:mb I M a n ks)(ax:0<n):Spec Tryz.prog 358 [d.val,.slice a n c] I M λv I' M'=>v=a0.val ⟨(ks.headD cn).jZ,false,(ks.headD cn).f⟩/\I'=I/\M'=M:=by refine bR [] aT Tryz.func358 rfl rfl rfl ?_;intro B jk;obtain⟨ad,bt,bj⟩:=af.head ax;refine cN.draw aT rfl rfl rfl ?_;refine bi.mk ad 0 bt rfl ax ?_;refine aJ.mk _ bj ?_;refine bi.mk ad 0 bt rfl ax ?_;refine aJ.mk _ (bj.part (k:=2) (m:=1) bv) ?_;refine er.oR M [] _ perm_nil (Qo (ks.headD cn)) (λv I' M' h x ae=>i3) ?_;rintro v I' M' -⟨rfl,rfl,rfl⟩;rw[dE];exact⟨_,_,.refl,rfl,rfl,rfl⟩
def akk(af:mb I M a n ks)(ax:0<n):Spec Tryz.prog 359 [d.val,.slice a n c] I M λv I' M'=>v=a0.val ⟨(ks.headD cn).f,false,(ks.headD cn).jZ⟩/\I'=I/\M'=M:=by refine bR [] aT Tryz.func359 rfl rfl rfl ?_;intro B jk;obtain⟨ad,bt,bj⟩:=af.head ax;refine cN.draw aT rfl rfl rfl ?_;refine bi.mk ad 0 bt rfl ax ?_;refine aJ.mk _ (bj.part (k:=2) (m:=1) bv) ?_;refine bi.mk ad 0 bt rfl ax ?_;refine aJ.mk _ bj ?_;refine er.oR M [] _ perm_nil (Qo (ks.headD cn)) (λv I' M' h x ae=>i3) ?_;rintro v I' M' -⟨rfl,rfl,rfl⟩;rw[dE];exact⟨_,_,.refl,rfl,rfl,rfl⟩
def akl:Spec Tryz.prog 352 [d.val,.slice a n c] I M λv I' M'=>v=a0.val ⟨false,!d.jW,true⟩/\I'=I/\M'=M:=by refine bR [] aT Tryz.func352 rfl rfl rfl ?_;intro B ax;refine fm.Qn aT (e:=34) rfl rfl rfl rfl d4 ?_;exact⟨_,_,.refl,rfl,rfl,rfl⟩
theorem akm(af:mb I M a n ks)(ax:0<n):Spec Tryz.prog 357 [d.val,.slice a n c] I M λv I' M'=>v=(yo d (ks.headD cn)).val/\I'=I/\M'=M:=by
 refine bR [] aT Tryz.func357 rfl rfl rfl ?_;intro B jk;obtain⟨ad,bt,bj⟩:=af.head ax;generalize ks.headD cn=k at bj;obtain⟨Qp,Qq,Qr⟩:=k;refine aS.mk (λh=>?_) (λh=>?_)
 ·refine⟨_,_,.refl,Qm ?_ ?_ ?_,rfl,rfl⟩<;>simp[yo,h]
 refine bi.mk ad 0 bt rfl ax ?_;refine aJ.mk _ bj ?_
 repeat' refine bZ.mk (λh=>?_) (λh=>?_)
 all_goals refine⟨_,_,.refl,Qm ?_ ?_ ?_,rfl,rfl⟩
 all_goals first | (simp_all[yo];done) | (simp_all[yo];intros;omega)
theorem akn(af:mb I M a n ks)(aE:n<=140737488355328):Spec Tryz.prog 356 [d.val,.slice a n c] I M λv I' M'=>v=(p1 ks).val/\I'=I/\M'=M:=by
 refine bR [] aT Tryz.func356 rfl rfl rfl ?_;intro B jk;have eF:=af.n;refine c2.inv (ι:=Nat×a0) (λx=>{ bn:=[(4,.ref 4 0),(5,.ref 5 0),(9,.val (.slice a n c)),(10,.val (.int .i64 n)),(11,.val (.int .i64 x.1))],cl:=[(4,cn.cells),(5,x.2.cells)],cm:=I,cK:=M }) (λx=>x.1<=n/\x.2=(ks.take x.1).foldl pf ⟨false,false,true⟩) (λx=>n-x.1) ?_ ?_
 ·exact⟨(0,⟨false,false,true⟩),⟨dh _,rfl⟩,.refl,fh,.cons rfl (.cons rfl .nil)⟩
 rintro⟨i,f⟩⟨hi,aC⟩;simp only at hi aC;refine aS.mk (λh=>?_) (λh=>?_)
 rotate_left
 ·have cM:n<=i:=by have:=db h;omega
  refine⟨_,_,.refl,?_,rfl,rfl⟩;rw[fE Z]at aC;rw[p1,<-aC];rfl
 have aV:i<n:=by have:=cv h;omega
 obtain⟨ad,bt,bj⟩:=af.rd i Z;have fB:∀ g:a0,g=pf f (ks[i]' Z)->g=(ks.take (i+1)).foldl pf ⟨false,false,true⟩:=λg az=>by rw[gi Z,sL,<-aC,az];rfl
 generalize ks[i]' Z=k at bj fB;obtain⟨Qp,Qq,Qr⟩:=k;obtain⟨z,s,Qs⟩:=f;refine bi.mk ad i bt rfl aV ?_;refine aJ.mk _ bj ?_
 repeat' refine bZ.mk (λh=>?_) (λh=>?_)
 all_goals refine a3.mk _ (cC (i:=i) Z) ?_
 all_goals refine⟨(i+1,_),⟨⟨ce,fB _ rfl⟩,ce⟩,.refl,fh,.cons rfl (.cons ?_ .nil)⟩
 all_goals clear fB aC bj
 all_goals (refine congrArg some (Ym ?_ ?_ ?_)<;>simp_all[pf])
def ako(l:List a0)(k:a0):hO (l++[k])=lb (hO l) k:=by simp[hO]
theorem akp(af:mb I M a n ks)(aE:n<=140737488355328):Spec Tryz.prog 355 [d.val,.slice a n c] I M λv I' M'=>v=(hC ks).val/\I'=I/\M'=M:=by
 refine bR [] aT Tryz.func355 rfl rfl rfl ?_;intro B jk;have eF:=af.n;refine c2.inv (ι:=Nat×a0×Bool) (λx=>{ bn:=[(4,.ref 4 0),(5,.ref 5 0),(6,.val (.bool x.2.2)),(10,.val (.slice a n c)),(11,.val (.int .i64 n)),(12,.val (.int .i64 x.1))],cl:=[(4,cn.cells),(5,x.2.1.cells)],cm:=I,cK:=M }) (λx=>x.1<=n/\x.2=hO (ks.take x.1)) (λx=>n-x.1) ?_ ?_
 ·exact⟨(0,⟨true,false,false⟩,true),⟨dh _,rfl⟩,.refl,.cons .refl (.cons .refl (.cons .lit (e2))),.cons rfl (.cons rfl .nil)⟩
 rintro⟨i,f,HO⟩⟨hi,aC⟩;simp only at hi aC;refine aS.mk (λh=>?_) (λh=>?_)
 rotate_left
 ·have cM:n<=i:=by have:=db h;omega
  rw[fE Z]at aC;obtain⟨z,s,Qs⟩:=f;have aN:(hO ks).1=⟨z,s,Qs⟩:=by rw[<-aC]
  have bc:(hO ks).2=HO:=by rw[<-aC]
  refine bZ.mk (λab=>?_) (λab=>?_)
  all_goals refine⟨_,_,.refl,Qm ?_ ?_ ?_,rfl,rfl⟩
  all_goals simp_all[hC]
 have aV:i<n:=by have:=cv h;omega
 obtain⟨ad,bt,bj⟩:=af.rd i Z;have fB:∀ g:a0×Bool,g=lb (f,HO) (ks[i]' Z)->g=hO (ks.take (i+1)):=λg az=>by rw[gi Z,ako,<-aC,az]
 generalize ks[i]' Z=k at bj fB;obtain⟨Qp,Qq,Qr⟩:=k;obtain⟨z,s,Qs⟩:=f;refine bi.mk ad i bt rfl aV ?_;refine aJ.mk _ bj ?_
 repeat' first
  |refine bZ.mk (λh=>?_) (λh=>?_)|(refine a9.mk M [] _ perm_nil (Qo ⟨Qp,Qq,Qr⟩) ?_;rintro v I' M' -⟨rfl,rfl,rfl⟩;rw[dE])
 all_goals refine a3.mk _ (cC (i:=i) Z) ?_
 all_goals refine⟨(i+1,_),⟨⟨ce,fB _ rfl⟩,ce⟩,.refl,.cons .refl (.cons .refl (.cons ?_ (e2))),.cons rfl (.cons ?_ .nil)⟩
 all_goals clear fB aC bj
 all_goals first
  |(refine congrArg some (Ym ?_ ?_ ?_)<;>simp_all[lb])|(refine akg ?_;simp_all[lb])|(refine Lm ?_;simp_all[lb])
end
def tP(t:bf):List ak:=tL t.ns t.bp
structure Fit(t:bf)(W:Nat):Prop where
 w:∀ d∈t.ns,d.aA<=W
 b:t.n*W<=1152921504606846976
 n:t.n<=1099511627776
def cG.mono{a:Addr}(h:cG I M a n vs)(bG:∀ b o,I b=some o->I' b=some o):cG I' M a n vs:=by obtain⟨aa,cs,T,ap,ab,al⟩:=h;exact⟨aa,cs,T,ap,ab.imp (bG _ _) id,al⟩
def cG.sub{I:aI}{M M':List aD}{a:Addr}{n:Nat}{vs:List Value}(h:cG I M a n vs)(bd:∀ x∈M,x∈M'):cG I M' a n vs:=by obtain⟨aa,cs,T,ap,ab,al⟩:=h;refine⟨aa,cs,T,ap,ab.imp id ?_,al⟩;rintro⟨x,ae,aN,bc⟩;exact⟨x,bd x ae,aN,bc⟩
def ju(a2:List ak×List Int)(l:List ak):List ak×List Int:=
 (a2.1++l.map (λx=>x.dJ (x.ao.map λk=>(a2.1.length:Int)+k)),a2.2++[((a2.1.length+l.length:Nat):Int)-1])
def sO(d:ak)(fZ:List (List ak)):List ak:=(fZ.foldl ju ([],[])).1++[d.dJ (fZ.foldl ju ([],[])).2]
structure akq(I:aI)(L:List bf)(x:Nat×aO×List ak×aO×List Int×aI):Prop where
 i:x.1<=L.length
 out:x.2.1.ok 9 (x.2.2.1.flatMap ak.cells)
 b3:x.2.2.2.1.ok 1 (x.2.2.2.2.1.map (.int .i64 ·))
 ff:x.2.2.2.2.1.length=x.1
 eq:((L.take x.1).map tP).foldl ju ([],[])=(x.2.2.1.map ak.aW,x.2.2.2.2.1)
 ok:∀ d∈x.2.2.1,d.ok x.2.2.2.2.2
 le:∀ b o,I b=some o->x.2.2.2.2.2 b=some o
 n:x.2.2.1.length<=((L.take x.1).map (·.n)).sum
 Qf:∀ k∈x.2.2.2.2.1,-1<=k/\k<=((L.take x.1).map (·.n)).sum
def Yo(L:List bf)(i:Nat):((L.take i).map (·.n)).sum<=(L.map (·.n)).sum:=by have h:=congrArg (λl:List bf=>(l.map (·.n)).sum) (pO i L);simp only[cJ,pW]at h;omega
def Yp(L:List bf)(i:Nat)(hi:i<L.length):((L.take (i+1)).map (·.n)).sum=((L.take i).map (·.n)).sum+L[i].n:=by rw[gi hi,cJ,pW];simp
section
variable{X:c3}{β:Nat->Nat}{a:Act}{w:World}{F:Fr}{C:dB}{I:aI}{M:List aD}{o:Oper}{Q:Exit->Act->World->Prop}{K:gx}
theorem Yq(aQ:cX X.P X.E){t:Nat}{k:Nat}(au:X.E t=some dd)(dA:dd.bM=.map k e)(af:X.E k=some tB)(eH:tB.bM=.string)(bg:∀ w,(zeroValue e).run X.P w=.ok (.int .i64 0) w){g:Nat}{l:List (ByteArray×Int)}(az:w.heap[g]?=some (jK l))(ok:Bool) :
  (Instr.lookup t (.map (some g)) (.string s) ok).run X.P w=.ok (bif ok then .tuple #[.int .i64 ((eU s l).getD 0),.bool (eU s l).isSome]else .int .i64 ((eU s l).getD 0)) w:=by
 obtain⟨d,fQ,eZ⟩:=(aQ _ _ au).fA;have aa:d=.map k e:=by rw[dA]at eZ;cases d<;>simp_all[fz]
 subst aa;obtain⟨dQ,sJ,gB⟩:=(aQ _ _ af).fA;have ab:dQ=.string:=by rw[eH]at gB;cases dQ<;>simp_all[fz]
 subst ab;have az:w.heap[g]?=some (.map (o8 l 0).toArray l.length):=az;obtain⟨r,v7,mJ⟩:=K3 s l 0 0;have ar:(Instr.checkKey (o8 l 0).toArray.isEmpty 10000 k (.string s)).run X.P w=.ok () w:=Eg (k:=.string s) sJ ay1 _ 9999;have u6:(Instr.findKey k (.string s) (o8 l 0)).run X.P w=.ok r w:=Eh sJ v7;unfold Instr.lookup;simp only[cz,run_underlying fQ,cd,Ef az,dn,ar,u6];cases r with
 |none=>
  cases ay:eU s l with
  |none=>cases ok<;>simp[bg]
  |some v=>rw[ay]at mJ;simp at mJ
 |some p=>
  cases ay:eU s l with
  |none=>rw[ay]at mJ;simp at mJ
  |some v=>
   rw[ay]at mJ;simp only[lx,kW]at mJ;cases ok<;>simp[mJ]
def bz.Yr(aQ:cX X.P X.E){t:Nat}{x:Operand}(aG:o.op=.lookup t x y true)(aj:∀ d,o.dst=some d->d<X.n){k:Nat}(au:X.E t=some dd)(dA:dd.bM=.map k e)(af:X.E k=some tB)(eH:tB.bM=.string)(bg:∀ w,(zeroValue e).run X.P w=.ok (.int .i64 0) w){g:Nat}{l:List (ByteArray×Int)}(ae:bI F x=.val (.map (some g)))(aF:bI F y=.val (.string s))(bd:ij I M g (jK l))
  (h:K (put o.dst (.val (.tuple #[.int .i64 ((eU s l).getD 0),.bool (eU s l).isSome])) F) C I M):bz X o F C I M K:=by
 refine⟨λa w Q ⟨β,aZ⟩=>?_⟩;have fk:=Yq aQ au dA af eH bg (bd.heap aZ.holds) (s:=s) true;have ex:=dt aZ.ap ae;have nN:=dt aZ.ap aF;refine v5 aZ aj f9 ?_ h;unfold execOp;simp only[aG,ex,nN,cz,fk,cd,dn,cD]
def bz.akr(aQ:cX X.P X.E){t:Nat}{x:Operand}(aG:o.op=.lookup t x y false)(aj:∀ d,o.dst=some d->d<X.n){k:Nat}(au:X.E t=some dd)(dA:dd.bM=.map k e)(af:X.E k=some tB)(eH:tB.bM=.string)(bg:∀ w,(zeroValue e).run X.P w=.ok (.int .i64 0) w){g:Nat}{l:List (ByteArray×Int)}(ae:bI F x=.val (.map (some g)))(aF:bI F y=.val (.string s))(bd:ij I M g (jK l))
  (h:K (put o.dst (.val (.int .i64 ((eU s l).getD 0))) F) C I M):bz X o F C I M K:=by
 refine⟨λa w Q ⟨β,aZ⟩=>?_⟩;have fk:=Yq aQ au dA af eH bg (bd.heap aZ.holds) (s:=s) false;have ex:=dt aZ.ap ae;have nN:=dt aZ.ap aF;refine v5 aZ aj f9 ?_ h;unfold execOp;simp only[aG,ex,nN,cz,fk,cd,dn,cw]
end
def oq:List (ByteArray×Int)->Nat->List a4->List (ByteArray×Int)
 |a7,_,[]=>a7| a7,i,d::ds=>oq (bif (eU d.name a7).isSome then a7 else a7++[(d.name,(i:Int))]) (i+1) ds
def bL(ds:List a4):List (ByteArray×Int):=oq [] 0 ds
def Ys(az:g.ok I):Spec Tryz.prog 320 [g.val] I [] λv I' M'=>(∀ b o,I b=some o->I' b=some o)/\M'=[]/\∃ ic,v=.map (some ic)/\I' ic=some (jK (bL g.ds)):=by
 refine wg [] aT Tryz.func320 rfl rfl rfl ?_;intro B ax;have ib:=az.n;have g8:=az.a'.cap;refine bz.makeMap aT rfl am rfl rfl rfl λjY=>?_;refine c2.inv (ι:=Nat×List (ByteArray×Int)) (λx=>{ bn:=[(1,.ref 1 0),(3,.val (.map (some jY))),(13,.val (.slice g.a g.n g.c)),(14,.val (.int .i64 g.n)),(15,.val (.int .i64 x.1))],cl:=[(1,[.slice g.a g.n g.c])],cm:=I,cK:=[⟨jY,jK x.2⟩] }) (λx=>x.1<=g.n/\bL g.ds=oq x.2 x.1 (g.ds.drop x.1)) (λx=>g.n-x.1) ?_ ?_
 ·exact⟨(0,[]),⟨dh _,rfl⟩,.refl,fh,.cons rfl .nil⟩
 rintro⟨i,a7⟩⟨hi,aK⟩;simp only at hi aK;refine aS.mk (λh=>?_) (λh=>?_)
 ·have aV:i<g.n:=by have:(i:Int)<(g.n:Int):=cv h;omega
  have cF:i<g.ds.length:=by omega
  obtain⟨ad,bt,bj⟩:=az.a'.row a4.cq aV cF;rw[e9 cF,oq]at aK;refine bi.mk ad i bt rfl aV ?_;refine aJ.mk _ (bj _) ?_;refine bz.Yr aT rfl am rfl rfl rfl rfl (λw=>Hs w) (l:=a7) (g:=jY) rfl rfl (.inr ⟨_,.head _,rfl,rfl⟩) ?_;refine aS.mk (λal=>?_) (λal=>?_)
  ·have aE:(eU g.ds[i].name a7).isSome=false:=by simpa using al
   have ay:eU g.ds[i].name a7=none:=by simpa using aE
   rw[aE,cw]at aK;refine bz.XB aT rfl rfl rfl rfl rfl rfl rfl rfl rfl ay (Mr:=[]) (.refl _) ?_;refine a3.mk _ (cC (i:=i) Z) ?_;exact⟨(i+1,_),⟨⟨ce,aK⟩,ce⟩,.refl,fh,.cons rfl .nil⟩
  ·have aE:(eU g.ds[i].name a7).isSome=true:=by simpa using al
   rw[aE,cD]at aK;refine a3.mk _ (cC (i:=i) Z) ?_;exact⟨(i+1,_),⟨⟨ce,aK⟩,ce⟩,.refl,fh,.cons rfl .nil⟩
 have cM:g.n<=i:=by have:¬ (i:Int)<(g.n:Int):=db h;omega
 rw[l5 Z,oq]at aK;intro ew;have ah:=ew.d ⟨jY,jK a7⟩ (.head _);exact⟨_,_,.nG rfl am .refl,l9 ah,rfl,jY,rfl,by rw[aK];exact o3 ..⟩
def aks:List Nat:=[351,352,353,354,355,356,357,358,359,354]
def Qt:List Value:=[.func (.func 351) #[] #[],.func (.func 352) #[] #[],.func (.func 353) #[] #[],.func (.func 354) #[] #[],.func (.func 355) #[] #[],.func (.func 356) #[] #[],.func (.func 357) #[] #[],.func (.func 358) #[] #[],.func (.func 359) #[] #[],.func (.func 354) #[] #[]]
def akt:Spec Tryz.prog 340 [] I [] λv I' M'=>v=.agg Qt.toArray/\I'=I/\M'=[]:=by refine bR [] aT Tryz.func340 rfl rfl rfl ?_;intro B ax;exact⟨_,_,.refl,rfl,rfl,rfl⟩
def wU{d:ak}{a:Option Addr}{c:Nat}{ks:List a0}(af:mb I M a n ks)(aE:n<=140737488355328)(j:Nat)(ai:j<10)(aj:d.k=j)(ax:(j=3\/6<=j)->0<n) :
  Spec Tryz.prog (aks.getD j 0) [d.val,.slice a n c] I M λv I' M'=>v=(gL d ks).val/\I'=I/\M'=M:=by
 match j,ai,aj,ax with
 |0,_,aj,_=>rw[show gL d ks=⟨true,false,false⟩ by simp[gL,aj]];exact akh (I:=I) (M:=M) (d:=d) (a:=a) (n:=n) (c:=c)| 1,_,aj,_=>rw[show gL d ks=⟨false,!d.jW,true⟩ by simp[gL,aj]];exact akl (I:=I) (M:=M) (d:=d) (a:=a) (n:=n) (c:=c)| 2,_,aj,_=>rw[show gL d ks=⟨false,true,true⟩ by simp[gL,aj]];exact aki (I:=I) (M:=M) (d:=d) (a:=a) (n:=n) (c:=c)| 3,_,aj,ax=>rw[show gL d ks=ks.headD cn by simp[gL,aj]];exact Yn (d:=d) (c:=c) af (ax Z)| 4,_,aj,_=>rw[show gL d ks=hC ks by simp[gL,aj]];exact akp (d:=d) (c:=c) af aE| 5,_,aj,_=>rw[show gL d ks=p1 ks by simp[gL,aj]];exact akn (d:=d) (c:=c) af aE| 6,_,aj,ax=>rw[show gL d ks=yo d (ks.headD cn) by simp[gL,aj]];exact akm (d:=d) (c:=c) af (ax Z)| 7,_,aj,ax=>rw[show gL d ks=⟨(ks.headD cn).jZ,false,(ks.headD cn).f⟩ by simp[gL,aj]];exact akj (d:=d) (c:=c) af (ax Z)| 8,_,aj,ax=>rw[show gL d ks=⟨(ks.headD cn).f,false,(ks.headD cn).jZ⟩ by simp[gL,aj]];exact akk (d:=d) (c:=c) af (ax Z)| 9,_,aj,ax=>rw[show gL d ks=ks.headD cn by simp[gL,aj]];exact Yn (d:=d) (c:=c) af (ax Z)
def fU(b:Nat)(l:List a0):aD:=⟨b,.cells (l.flatMap a0.cells).toArray 333 (0,0)⟩
def Cx(l:List a0):(l.flatMap a0.cells).length=l.length*3:=gz _ 3 a0.cq l
def EC{b:Nat}{l:List a0}(bd:fU b l∈M){j:Nat}(ai:j<l.length):cG I M ((⟨b,0,none⟩:Addr).add (j*3)) 3 l[j].cells:=by have h:=dj (I:=I) (cs:=l.flatMap a0.cells) (k:=j*3) (n:=3) bd (by rw[Cx];omega);rwa [BQ a0.cells 3 a0.cq l j ai]at h
def Qu(l:List a0)(j:Nat)(ai:j<l.length)(x:a0):cp (l.flatMap a0.cells) (j*3) x.cells=(l.set j x).flatMap a0.cells:=by
 have e:l.flatMap a0.cells=(l.take j).flatMap a0.cells++(l[j].cells++(l.drop (j+1)).flatMap a0.cells):=by
  have aa:l=l.take j++(l[j]::l.drop (j+1)):=by rw[<-e9 ai,pO]
  have ab:=congrArg (λq:List a0=>q.flatMap a0.cells) aa;simp only[fL,iS]at ab;exact ab
 have ay:((l.take j).flatMap a0.cells).length=j*3:=by rw[Cx,fF];congr 1;omega
 unfold cp;rw[GQ,bY ai,fL,iS,e,ej];congr 1
 ·rw[<-ay,wy]
 ·congr 1;rw[a0.cq,<-ay,<-ej,GW (by rw[ct,a0.cq])]
def Yt(l:List a0)(x:a0):(l++[x]).flatMap a0.cells=l.flatMap a0.cells++x.cells:=by simp
def aO.zero(h:os.ok size xs):aO.ok ⟨os.a,0,os.c,os.aR⟩ size []:=by refine⟨am,λa8=>⟨rfl,(h.nil a8).2⟩,λg az=>?_⟩;obtain⟨aa,ab,al,aL⟩:=h.cap g az;exact⟨aa,dh _,al,am⟩
def aO.Yu{l:List a0}(h:os.ok 3 (l.flatMap a0.cells))(bd:∀ x∈os.aq e,x∈M):mb I M (os.a.map λg=>⟨g,0,none⟩) os.n l:=by
 have ay:=h.len;rw[Cx]at ay;refine⟨Z,λj ai=>?_⟩;obtain⟨a,n,c,aR⟩:=os;simp only at ay;cases a with
 |none=>have:=(h.nil rfl).1;simp only at this;omega
 |some g=>
  obtain⟨aa,ab,al,aL⟩:=h.cap g rfl;simp only at aa ab aL;refine⟨⟨g,0,none⟩,rfl,?_⟩;have hm:(⟨g,.cells aR.toArray e (0,0)⟩:aD)∈M:=bd _ gt;have ag:=dj (I:=I) (cs:=aR) (k:=j*3) (n:=3) hm Z;have aN:(aR.drop (j*3)).take 3=((aR.take (n*3)).drop (j*3)).take 3:=by rw[D1,zC];congr 1;omega
  rw[aN,aL,BQ a0.cells 3 a0.cq l j ai]at ag;exact ag
def sP(pl:List (ByteArray×Int))(bn a7:List a0)(d:ak):List a0:=
 d.ao.map (λk=>a7.getD k.toNat cn)++bif decide (d.k=3)then [bn.getD ((eU d.t pl).getD 0).toNat cn]else []
def eD(pl:List (ByteArray×Int))(bn:List a0):List ak->List a0->List a0
 |[],a7=>a7| d::ds,a7=>eD pl bn ds (a7++[gL d (sP pl bn a7 d)])
def HP(pl:List (ByteArray×Int))(bn:List a0):∀ (ds:List ak) (a7:List a0),(eD pl bn ds a7).length=a7.length+ds.length
 |[],a7=>rfl| d::ds,a7=>by rw[eD,HP];simp;omega
def Yv(pl:List (ByteArray×Int))(n:Nat)(ns:List ak):Prop:=∀ d∈ns,d.k=3->∃ i:Nat,eU d.t pl=some (i:Int)/\i<n
def Qv{d:ak}{n:Int}(h:fits d n=true):d.k<10:=by apply Int.lt_of_not_ge;intro cM;have:(10:Int)<=d.k:=cM;simp[fits,this]at h
def Yw{d:ak}{n:Int}(ax:0<=d.k)(h:fits d n=true)(af:6<=d.k):0<n:=by
 have oZ:=Qv h;have z5:d.k=6\/d.k=7\/d.k=8\/d.k=9:=by omega
 rcases z5 with e | e | e | e<;>(simp[fits,e,oe,nc,jl]at h;omega)
def aku(a7:List a0)(n i:Nat)(ay:a7.length=i)(hi:i<n)(x:a0):(a7++List.replicate (n-i) cn).set i x=(a7++[x])++List.replicate (n-(i+1)) cn:=by subst ay;rw[Cm _ _ (cf _),mK,show n-a7.length=(n-(a7.length+1))+1 by omega,P',Cn];simp
def Yx:∀ n:Nat,rowOf cn.cells (n*3)=(List.replicate n cn).flatMap a0.cells:=λn=>by
 apply oV
 ·rw[Cx,zx];simp[td,madeCells]
 intro i aa ab;have al:∀ x∈(List.replicate n cn).flatMap a0.cells,x=Value.bool false:=λx ae=>by obtain⟨y,aF,ae⟩:=hB.1 ae;have:=Hd aF;subst this;simpa[a0.cells,cn]using ae
 rw[al _ (bD ab)];have bg:∀ j,j<3->cn.cells[j]! = Value.bool false:=λj ai=>by
  match j,ai with
  |0,_=>rfl| 1,_=>rfl| 2,_=>rfl
 simp only[rowOf,gl,wN];exact bg _ (Hf _ bv)
def wV{a7:List a0}{i:Nat}(m1:a7.length=i)(aV:i<n)(x:a0):Nat.ble (0+i*3+x.cells.length) ((a7++List.replicate (n-i) cn).flatMap a0.cells).length=true:=by rw[nY,Cx,a0.cq,ct,zx];omega
def Yy(au:t.ok I)(ag:right t=true)(hm:I ic=some (jK pl)){bn:List a0}(ma:mb I M0 la ln bn)(ar:Yv pl ln t.ns) :
  Spec Tryz.prog 322 [.map (some ic),.slice la ln lc,t.val] I M0 λv I' M'=>I'=I/\∃ b,v=.slice (some ⟨b,0,none⟩) t.n t.n/\M'=fU b (eD pl bn t.ns [])::M0:=by
 refine bR [] aT Tryz.func322 rfl rfl rfl ?_;intro B ax;have gu:=au.n;have g8:=au.a'.cap;refine a9.mk [] M0 _ (.refl _) akt ?_;rintro v I1 M1 -⟨rfl,rfl,rfl⟩;refine n9.mk t.n t.n rfl rfl (cf _) (by show 3*t.n<=_;omega) Z ?_;refine bN.mk λdx qK akv=>?_;refine c2.inv (ι:=Nat×List a0×aO) (λx=>{ bn:=[(0,.val (.map (some ic))),(1,.val (.slice la ln lc)),(5,.ref 5 0),(7,.ref 7 0),(8,.val (.slice (some ⟨dx,0,none⟩) t.n t.n)),(9,.val x.2.2.val),(20,.val (.slice t.a t.n t.c)),(21,.val (.int .i64 t.n)),(22,.val (.int .i64 x.1))],cl:=[(5,t.cells),(7,Qt)],cm:=I1,cK:=fU dx (x.2.1++List.replicate (t.n-x.1) cn)::(x.2.2.aq 333++M0) }) (λx=>x.1<=t.n/\x.2.1.length=x.1/\eD pl bn t.ns []=eD pl bn (t.ns.drop x.1) x.2.1/\∃ ks,x.2.2.ok 3 ks) (λx=>t.n-x.1) ?_ ?_
 ·refine⟨(0,[],gV),⟨dh _,rfl,rfl,[],jt 3⟩,?_,l3,.cons rfl (.cons rfl .nil)⟩;have e:rowOf cn.cells (t.n*3)=(List.replicate t.n cn).flatMap a0.cells:=Yx t.n;simp only[fU,hW,EA];rw[<-e];exact .refl
 rintro⟨i,a7,dk⟩⟨hi,m1,ED,awK,hN⟩;simp only at hi m1 ED hN;refine aS.mk (λh=>?_) (λh=>?_)
 rotate_left
 ·have cM:i=t.n:=by have:¬ (i:Int)<(t.n:Int):=db h;omega
  subst cM;rw[l5 Z,eD]at ED;refine⟨I1,fU dx (a7++List.replicate (t.n-t.n) cn)::M0,.sub (.cons_cons _ (m4 _ _)) .refl,rfl,dx,rfl,?_⟩;rw[ED,mK,List.replicate_zero,dE]
 have aV:i<t.n:=by have:(i:Int)<(t.n:Int):=cv h;omega
 have cF:i<t.ns.length:=by omega
 obtain⟨ad,bt,bj⟩:=au.a'.row ak.cq aV cF;have gr:=bD cF;have aj:=au.ns _ gr;have eF:=aj.aA;have mL:=aj.a'.cap;have gp:=jX ag i cF;have rN:=D' ag cF;have Yz:=ar _ gr;have YA:eD pl bn t.ns []=eD pl bn (t.ns.drop (i+1)) (a7++[gL t.ns[i] (sP pl bn a7 t.ns[i])]):=by rw[ED,e9 cF,eD]
 generalize t.ns[i]=d at bj aj eF mL gp rN Yz YA;have jH:=aj.k.1;have awL:=Qv rN;have sQ:∀ {M:List aD} {q:Int},fU dx (a7++List.replicate (t.n-i) cn)∈M->q∈d.ao->cG I1 M ((⟨dx,0,none⟩:Addr).add (q.toNat*3)) 3 (a7.getD q.toNat cn).cells:=fun {M q} bd aM=>by
  have rJ:=gp q aM;have hA:q.toNat<a7.length:=by omega
  have:=EC (I:=I1) bd (j:=q.toNat) ay3;rw[wE hA]at this;simpa[bP,hA]using this
 refine bi.mk ad i bt rfl aV ?_;refine aJ.mk _ (bj _) ?_;refine j7.mk 0 0 rfl rfl (cf _) (dh _) ?_;refine c2.inv (ι:=Nat×aO×List a0) (λx=>{ bn:=[(0,.val (.map (some ic))),(1,.val (.slice la ln lc)),(5,.ref 5 0),(7,.ref 7 0),(8,.val (.slice (some ⟨dx,0,none⟩) t.n t.n)),(9,.val x.2.1.val),(10,.val (.int .i64 i)),(11,.ref 11 0),(20,.val (.slice t.a t.n t.c)),(21,.val (.int .i64 t.n)),(22,.val (.int .i64 i)),(30,.val (.slice d.bX d.aA d.b5)),(31,.val (.int .i64 d.aA)),(32,.val (.int .i64 x.1))],cl:=[(5,t.cells),(7,Qt),(11,d.cells)],cm:=I1,cK:=fU dx (a7++List.replicate (t.n-i) cn)::(x.2.1.aq 333++M0) }) (λx=>x.1<=d.aA/\x.2.1.ok 3 (x.2.2.flatMap a0.cells)/\x.2.2=(d.ao.take x.1).map λk=>a7.getD k.toNat cn) (λx=>d.aA-x.1) ?_ ?_
 ·exact⟨(0,⟨dk.a,0,dk.c,dk.aR⟩,[]),⟨dh _,aO.zero hN,rfl⟩,.refl,GJ,.cons rfl (.cons rfl (.cons rfl .nil))⟩
 rintro⟨k,c8,ff⟩⟨af,e4,cL⟩;simp only at af e4 cL;have awM:c8.n=ff.length:=by have:=e4.len;rw[Cx]at this;omega
 have EE:ff.length<=k:=by rw[cL,bA];exact zA _ _
 refine aS.mk (λh=>?_) (λh=>?_)
 ·have eR:k<d.aA:=by have:(k:Int)<(d.aA:Int):=cv h;omega
  have h7:k<d.ao.length:=by omega
  obtain⟨fq,eN,eL⟩:=aj.a'.one eR h7;have aM:=gp _ (bD h7);refine bi.mk fq k eN rfl eR ?_;refine aJ.mk _ (eL _) ?_;refine bi.mk ⟨dx,0,none⟩ d.ao[k].toNat rfl Z Z ?_;refine aJ.mk _ (sQ (.head _) (bD h7)) ?_;refine bN.mk λb9 kI x'=>?_;refine bz.append aT rfl am (e:=333) rfl rfl rfl c8 e4 rfl (m:=1) rfl (cb:=(a7.getD d.ao[k].toNat cn).cells) bv (dj (b:=b9) (cs:=(a7.getD d.ao[k].toNat cn).cells) (k:=0) (n:=3) (T:=333) (.head _) (bJ rfl)) rfl (Mr:=⟨b9,.cells (a7.getD d.ao[k].toNat cn).cells.toArray 333 (0,0)⟩::fU dx (a7++List.replicate (t.n-i) cn)::M0) (by
   have:=wM [(⟨b9,.cells (a7.getD d.ao[k].toNat cn).cells.toArray 333 (0,0)⟩:aD),fU dx (a7++List.replicate (t.n-i) cn)] (c8.aq 333) M0;exact this) i5 (by show(c8.n+1)*3<=_;omega) ?_
  intro bh e1 tM fT kL nZ tG;refine a3.mk _ (cC (i:=k) Z) ?_;refine⟨(k+1,⟨some bh,c8.n+1,e1,tM⟩,ff++[a7.getD d.ao[k].toNat cn]),⟨⟨ce,?_,?_⟩,ce⟩,.sub (M1:=[(⟨bh,.cells tM.toArray 333 (0,0)⟩:aD),fU dx (a7++List.replicate (t.n-i) cn)]++M0) (.cons_cons _ (.cons _ (.refl _))) (.perm (List.Perm.swap _ _ _) .refl),GJ,.cons rfl (.cons rfl (.cons rfl .nil))⟩;·simp only;rw[Yt];exact P7 e4 (a0.cq _) fT kL nZ tG
  ·simp only;rw[gi h7,cJ,<-cL];rfl
 have cM:d.aA<=k:=by have:¬ (k:Int)<(d.aA:Int):=db h;omega
 rw[fE Z]at cL;have awN:ff.length=d.ao.length:=by rw[cL,bA]
 have iR:c8.n+1<=140737488355328:=by omega
 clear h af EE;have gy:∀ x:a0,cp ((a7++List.replicate (t.n-i) cn).flatMap a0.cells) (0+i*3) x.cells=((a7++[x])++List.replicate (t.n-(i+1)) cn).flatMap a0.cells:=λx=>by rw[dg,Qu _ _ d7,aku a7 t.n i m1 aV]
 have hinv:∀ (pg:aO) (wW:List Value),pg.ok 3 wW->((i+1<=t.n/\(a7++[gL d (sP pl bn a7 d)]).length=i+1/\eD pl bn t.ns []=eD pl bn (t.ns.drop (i+1)) (a7++[gL d (sP pl bn a7 d)])/\∃ ks,pg.ok 3 ks)/\t.n-(i+1)<t.n-i):=λpg wW ab=>
  ⟨⟨aV,by simp[m1],YA,wW,ab⟩,Z⟩
 by_cases al:d.k=3
 ·refine aS.mk (λ_=>?_) (λh=>absurd h (by simp[al]));obtain⟨q,HQ,tQ⟩:=Yz al;have HR:sP pl bn a7 d=ff++[bn.getD q cn]:=by rw[sP,<-cL,HQ,al];rfl
  have hA:q<bn.length:=by rw[ma.n];exact tQ
  obtain⟨jv,En,dw⟩:=ma.rd q hA;have akw:bn.getD q cn=bn[q]:=by simp[bP,hA]
  refine bz.akr aT rfl am rfl rfl rfl rfl (λw=>Hs w) (l:=pl) (g:=ic) rfl rfl (.inl hm) ?_;rw[HQ];refine bi.mk jv q En rfl tQ ?_;refine aJ.mk _ (dw.sub λx ae=>f0) ?_;refine bN.mk λb9 kI x'=>?_;refine bz.append aT rfl am (e:=333) rfl rfl rfl c8 e4 rfl (m:=1) rfl (cb:=bn[q].cells) bv (dj (b:=b9) (cs:=bn[q].cells) (k:=0) (n:=3) (T:=333) (.head _) (bJ rfl)) rfl (Mr:=⟨b9,.cells bn[q].cells.toArray 333 (0,0)⟩::fU dx (a7++List.replicate (t.n-i) cn)::M0) (by
   have:=wM [(⟨b9,.cells bn[q].cells.toArray 333 (0,0)⟩:aD),fU dx (a7++List.replicate (t.n-i) cn)] (c8.aq 333) M0;exact this) i5 (by show(c8.n+1)*3<=_;omega) ?_
  intro bh e1 tM fT kL nZ tG;have h9:=P7 (g:=bh) e4 (a0.cq bn[q]) fT kL nZ tG;rw[<-Yt,<-akw,<-HR]at h9;have eH:=aO.Yu (I:=I1) (M:=⟨bh,.cells tM.toArray 333 (0,0)⟩::⟨b9,.cells bn[q].cells.toArray 333 (0,0)⟩::fU dx (a7++List.replicate (t.n-i) cn)::M0) (e:=333) h9 (λx ae=>by
   simp only[aO.aq,ep]at ae;subst ae;exact .head _)
  refine cN.draw aT rfl rfl rfl ?_;obtain⟨dQ,b0,s1,s2,cg,g7,lo,ck,tR,tS,tT,tU⟩:=d;simp only at al;subst al;refine cj.mk 3 rfl bv ?_;refine er.oR _ [] _ perm_nil (wU (d:=⟨3,b0,s1,s2,cg,g7,lo,ck,tR,tS,tT,tU⟩) eH iR 3 bv rfl (λ_=>Nat.succ_pos _)) (λv I' M' h x ae=>i3) ?_;rintro v ed dp -⟨rfl,rfl,rfl⟩;rw[dE];refine bi.mk ⟨dx,0,none⟩ i rfl rfl aV ?_;refine b'.iC [(⟨bh,.cells tM.toArray 333 (0,0)⟩:aD),⟨b9,.cells bn[q].cells.toArray 333 (0,0)⟩] M0 ((a7++List.replicate (t.n-i) cn).flatMap a0.cells) _ rfl (wV m1 aV _) rfl _ (gy _) ?_;refine a3.mk _ (cC (i:=i) Z) ?_;exact⟨(i+1,_,⟨some bh,c8.n+1,e1,tM⟩),hinv _ _ h9,.sub (M1:=[(⟨bh,.cells tM.toArray 333 (0,0)⟩:aD),fU dx _]++M0) (.cons_cons _ (.cons _ (.refl _))) (.perm (List.Perm.swap _ _ _) .refl),l3,.cons rfl (.cons rfl .nil)⟩
 refine aS.mk (λh=>absurd (cv h) al) (λ_=>?_);have HR:sP pl bn a7 d=ff:=by rw[sP,<-cL,fb al];simp
 rw[HR]at hinv;have eH:=aO.Yu (I:=I1) (M:=fU dx (a7++List.replicate (t.n-i) cn)::(c8.aq 333++M0)) (e:=333) e4 (λx ae=>f0);have kB:6<=d.k->0<c8.n:=λcA=>by have:=Yw jH rN cA;omega
 have z5:d.k=0\/d.k=1\/d.k=2\/d.k=4\/d.k=5\/d.k=6\/d.k=7\/d.k=8\/d.k=9:=by omega
 obtain⟨dQ,b0,s1,s2,cg,g7,lo,ck,tR,tS,tT,tU⟩:=d;simp only at z5 kB al;refine cN.draw aT rfl rfl rfl ?_;rcases z5 with rfl | rfl | rfl | rfl | rfl | rfl | rfl | rfl | rfl
 ·refine cj.mk 0 rfl bv ?_;refine er.oR _ [] _ perm_nil (wU (d:=⟨0,b0,s1,s2,cg,g7,lo,ck,tR,tS,tT,tU⟩) eH (yi iR) 0 bv rfl (λh=>Z)) (λv I' M' h x ae=>i3) ?_;rintro v ed dp -⟨rfl,rfl,rfl⟩;rw[dE];refine bi.mk ⟨dx,0,none⟩ i rfl rfl aV ?_;refine b'.iC [] (c8.aq 333++M0) ((a7++List.replicate (t.n-i) cn).flatMap a0.cells) _ rfl (wV m1 aV _) rfl _ (gy _) ?_;refine a3.mk _ (cC (i:=i) Z) ?_;exact⟨(i+1,_,c8),hinv _ _ e4,.refl,l3,.cons rfl (.cons rfl .nil)⟩
 ·refine cj.mk 1 rfl bv ?_;refine er.oR _ [] _ perm_nil (wU (d:=⟨1,b0,s1,s2,cg,g7,lo,ck,tR,tS,tT,tU⟩) eH (yi iR) 1 bv rfl (λh=>Z)) (λv I' M' h x ae=>i3) ?_;rintro v ed dp -⟨rfl,rfl,rfl⟩;rw[dE];refine bi.mk ⟨dx,0,none⟩ i rfl rfl aV ?_;refine b'.iC [] (c8.aq 333++M0) ((a7++List.replicate (t.n-i) cn).flatMap a0.cells) _ rfl (wV m1 aV _) rfl _ (gy _) ?_;refine a3.mk _ (cC (i:=i) Z) ?_;exact⟨(i+1,_,c8),hinv _ _ e4,.refl,l3,.cons rfl (.cons rfl .nil)⟩
 ·refine cj.mk 2 rfl bv ?_;refine er.oR _ [] _ perm_nil (wU (d:=⟨2,b0,s1,s2,cg,g7,lo,ck,tR,tS,tT,tU⟩) eH (yi iR) 2 bv rfl (λh=>Z)) (λv I' M' h x ae=>i3) ?_;rintro v ed dp -⟨rfl,rfl,rfl⟩;rw[dE];refine bi.mk ⟨dx,0,none⟩ i rfl rfl aV ?_;refine b'.iC [] (c8.aq 333++M0) ((a7++List.replicate (t.n-i) cn).flatMap a0.cells) _ rfl (wV m1 aV _) rfl _ (gy _) ?_;refine a3.mk _ (cC (i:=i) Z) ?_;exact⟨(i+1,_,c8),hinv _ _ e4,.refl,l3,.cons rfl (.cons rfl .nil)⟩
 ·refine cj.mk 4 rfl bv ?_;refine er.oR _ [] _ perm_nil (wU (d:=⟨4,b0,s1,s2,cg,g7,lo,ck,tR,tS,tT,tU⟩) eH (yi iR) 4 bv rfl (λh=>Z)) (λv I' M' h x ae=>i3) ?_;rintro v ed dp -⟨rfl,rfl,rfl⟩;rw[dE];refine bi.mk ⟨dx,0,none⟩ i rfl rfl aV ?_;refine b'.iC [] (c8.aq 333++M0) ((a7++List.replicate (t.n-i) cn).flatMap a0.cells) _ rfl (wV m1 aV _) rfl _ (gy _) ?_;refine a3.mk _ (cC (i:=i) Z) ?_;exact⟨(i+1,_,c8),hinv _ _ e4,.refl,l3,.cons rfl (.cons rfl .nil)⟩
 ·refine cj.mk 5 rfl bv ?_;refine er.oR _ [] _ perm_nil (wU (d:=⟨5,b0,s1,s2,cg,g7,lo,ck,tR,tS,tT,tU⟩) eH (yi iR) 5 bv rfl (λh=>Z)) (λv I' M' h x ae=>i3) ?_;rintro v ed dp -⟨rfl,rfl,rfl⟩;rw[dE];refine bi.mk ⟨dx,0,none⟩ i rfl rfl aV ?_;refine b'.iC [] (c8.aq 333++M0) ((a7++List.replicate (t.n-i) cn).flatMap a0.cells) _ rfl (wV m1 aV _) rfl _ (gy _) ?_;refine a3.mk _ (cC (i:=i) Z) ?_;exact⟨(i+1,_,c8),hinv _ _ e4,.refl,l3,.cons rfl (.cons rfl .nil)⟩
 ·refine cj.mk 6 rfl bv ?_;refine er.oR _ [] _ perm_nil (wU (d:=⟨6,b0,s1,s2,cg,g7,lo,ck,tR,tS,tT,tU⟩) eH (yi iR) 6 bv rfl (λ_=>kB bv)) (λv I' M' h x ae=>i3) ?_;rintro v ed dp -⟨rfl,rfl,rfl⟩;rw[dE];refine bi.mk ⟨dx,0,none⟩ i rfl rfl aV ?_;refine b'.iC [] (c8.aq 333++M0) ((a7++List.replicate (t.n-i) cn).flatMap a0.cells) _ rfl (wV m1 aV _) rfl _ (gy _) ?_;refine a3.mk _ (cC (i:=i) Z) ?_;exact⟨(i+1,_,c8),hinv _ _ e4,.refl,l3,.cons rfl (.cons rfl .nil)⟩
 ·refine cj.mk 7 rfl bv ?_;refine er.oR _ [] _ perm_nil (wU (d:=⟨7,b0,s1,s2,cg,g7,lo,ck,tR,tS,tT,tU⟩) eH (yi iR) 7 bv rfl (λ_=>kB bv)) (λv I' M' h x ae=>i3) ?_;rintro v ed dp -⟨rfl,rfl,rfl⟩;rw[dE];refine bi.mk ⟨dx,0,none⟩ i rfl rfl aV ?_;refine b'.iC [] (c8.aq 333++M0) ((a7++List.replicate (t.n-i) cn).flatMap a0.cells) _ rfl (wV m1 aV _) rfl _ (gy _) ?_;refine a3.mk _ (cC (i:=i) Z) ?_;exact⟨(i+1,_,c8),hinv _ _ e4,.refl,l3,.cons rfl (.cons rfl .nil)⟩
 ·refine cj.mk 8 rfl bv ?_;refine er.oR _ [] _ perm_nil (wU (d:=⟨8,b0,s1,s2,cg,g7,lo,ck,tR,tS,tT,tU⟩) eH (yi iR) 8 bv rfl (λ_=>kB bv)) (λv I' M' h x ae=>i3) ?_;rintro v ed dp -⟨rfl,rfl,rfl⟩;rw[dE];refine bi.mk ⟨dx,0,none⟩ i rfl rfl aV ?_;refine b'.iC [] (c8.aq 333++M0) ((a7++List.replicate (t.n-i) cn).flatMap a0.cells) _ rfl (wV m1 aV _) rfl _ (gy _) ?_;refine a3.mk _ (cC (i:=i) Z) ?_;exact⟨(i+1,_,c8),hinv _ _ e4,.refl,l3,.cons rfl (.cons rfl .nil)⟩
 ·refine cj.mk 9 rfl bv ?_;refine er.oR _ [] _ perm_nil (wU (d:=⟨9,b0,s1,s2,cg,g7,lo,ck,tR,tS,tT,tU⟩) eH (yi iR) 9 bv rfl (λ_=>kB bv)) (λv I' M' h x ae=>i3) ?_;rintro v ed dp -⟨rfl,rfl,rfl⟩;rw[dE];refine bi.mk ⟨dx,0,none⟩ i rfl rfl aV ?_;refine b'.iC [] (c8.aq 333++M0) ((a7++List.replicate (t.n-i) cn).flatMap a0.cells) _ rfl (wV m1 aV _) rfl _ (gy _) ?_;refine a3.mk _ (cC (i:=i) Z) ?_;exact⟨(i+1,_,c8),hinv _ _ e4,.refl,l3,.cons rfl (.cons rfl .nil)⟩
structure a0.le(a b:a0):Prop where
 z:a.z=true->b.z=true
 s:a.s=true->b.s=true
 f:a.f=true->b.f=true
def a0.le_refl(a:a0):a.le a:=⟨id,id,id⟩
def a0.le.trans{a b c:a0}(h:a.le b)(bu:b.le c):a.le c:=⟨λx=>bu.z (h.z x),λx=>bu.s (h.s x),λx=>bu.f (h.f x)⟩
theorem a0.le.antisymm{a b:a0}(h:a.le b)(bu:b.le a):a=b:=by
 obtain⟨cO,en,ev⟩:=a;obtain⟨b1,b8,eo⟩:=b;have e:∀ {x y:Bool},(x=true->y=true)->(y=true->x=true)->x=y:=fun {x y} h bu=>by cases x<;>cases y<;>simp_all
 have aN:cO=b1:=e h.z bu.z;have bc:en=b8:=e h.s bu.s;have cy:ev=eo:=e h.f bu.f;subst aN bc cy;rfl
def a0.qL(a:a0):cn.le a:=⟨(λh=>ci),(λh=>ci),(λh=>ci)⟩
def a0.Qw{a b:a0}(h:a.le b):a.jZ=true->b.jZ=true:=by intro aw;simp only[a0.jZ,nD]at aw |-;exact aw.imp h.z h.s
inductive dY:List a0->List a0->Prop
 |nil:dY [] []| cons {a b l m} (h:a0.le a b) (t:dY l m):dY (a::l) (b::m)
def dY.refl:∀ l,dY l l
 |[]=>.nil| a::l=>.cons a.le_refl (dY.refl l)
def dY.trans:∀ {a b c},dY a b->dY b c->dY a c
 |_,_,_,.nil,.nil=>.nil| _,_,_,.cons h t,.cons bu be=>.cons (h.trans bu) (t.trans be)
def dY.antisymm:∀ {a b},dY a b->dY b a->a=b
 |_,_,.nil,_=>rfl| _,_,.cons h t,.cons bu be=>by rw[h.antisymm bu,t.antisymm be]
def dY.len:∀ {a b},dY a b->a.length=b.length
 |_,_,.nil=>rfl| _,_,.cons h t=>by simp[t.len]
def dY.append:∀ {a b c d},dY a b->dY c d->dY (a++c) (b++d)
 |_,_,_,_,.nil,h=>h| _,_,_,_,.cons h t,bu=>.cons h (t.append bu)
def dY.getD:∀ {a b},dY a b->∀ i,(a.getD i cn).le (b.getD i cn)
 |_,_,.nil,i=>by simp;exact a0.le_refl _
 |_,_,.cons h t,0=>h| _,_,.cons h t,i+1=>by simpa using t.getD i
def dY.of:∀ {a b:List a0},a.length=b.length->(∀ i,i<a.length->(a.getD i cn).le (b.getD i cn))->dY a b
 |[],[],_,_=>.nil| x::a,y::b,ay,h=>.cons (by simpa using h 0 am) (dY.of rt λi hi=>by simpa using h (i+1) i7)
def dY.map{α:Type}{f g:α->a0}:∀ {l:List α},(∀ x∈l,(f x).le (g x))->dY (l.map f) (l.map g)
 |[],_=>.nil| x::l,h=>.cons (h x (.head _)) (dY.map λy aF=>h y (.tail _ aF))
def dY.head{a b:List a0}(h:dY a b):(a.headD cn).le (b.headD cn):=by
 cases h with
 |nil=>exact a0.le_refl _| cons h _=>exact h
def dY.qL:∀ l:List a0,dY (List.replicate l.length cn) l
 |[]=>.nil| a::l=>.cons a.qL (dY.qL l)
def YB:∀ {a b:List a0},dY a b->∀ {x y:a0×Bool},x.1.le y.1->(x.2=true->y.2=true)->(a.foldl lb x).1.le (b.foldl lb y).1/\((a.foldl lb x).2=true->(b.foldl lb y).2=true)
 |_,_,.nil,_,_,aa,ab=>⟨aa,ab⟩
 |_,_,.cons h t,x,y,aa,ab=>by
  refine YB t ⟨?_,?_,?_⟩ ?_;·simp only[lb,cH];exact λg=>⟨aa.z g.1,h.z g.2⟩
  ·simp only[lb,nD];exact λg=>g.imp aa.s h.s
  ·simp only[lb,nD,cH];exact λg=>g.imp aa.f λg=>⟨ab g.1,h.f g.2⟩
  ·simp only[lb,cH];exact λg=>⟨ab g.1,a0.Qw h g.2⟩
def YC:∀ {a b:List a0},dY a b->∀ {x y:a0},x.le y->(a.foldl pf x).le (b.foldl pf y)
 |_,_,.nil,_,_,aa=>aa
 |_,_,.cons h t,x,y,aa=>by
  refine YC t ⟨?_,?_,?_⟩;·simp only[pf,nD,cH];exact λg=>g.imp aa.z λg=>⟨aa.f g.1,h.z g.2⟩
  ·simp only[pf,nD,cH];exact λg=>g.imp aa.s λg=>⟨aa.f g.1,h.s g.2⟩
  ·simp only[pf,cH];exact λg=>⟨aa.f g.1,h.f g.2⟩
def akx(d:ak){a b:a0}(h:a.le b):(yo d a).le (yo d b):=by
 unfold yo;cases decide (d.hi=0)with
 |true=>exact a0.le_refl _
 |false=>
  refine⟨?_,h.s,?_⟩;·simp only[cw,nD,cH];exact λg=>g.imp h.z λg=>⟨g.1,h.f g.2⟩
  ·simp only[cw,cH];exact λg=>⟨g.1,h.f g.2⟩
def YD(d:ak){a b:List a0}(h:dY a b):(gL d a).le (gL d b):=by
 have cU:=h.head;unfold gL;cases decide (d.k=0)with
 |true=>exact a0.le_refl _| false=>
 cases decide (d.k=1)with
 |true=>exact a0.le_refl _| false=>
 cases decide (d.k=2)with
 |true=>exact a0.le_refl _| false=>
 cases decide (d.k=3)with
 |true=>exact cU| false=>
 cases decide (d.k=4)with
 |true=>have aw:=YB h (x:=(⟨true,false,false⟩,true)) (y:=(⟨true,false,false⟩,true)) (a0.le_refl _) id;refine⟨aw.1.z,?_,aw.1.f⟩;simp only[cD,cw,hC,hO,cH];exact λg=>⟨aw.1.s g.1,aw.2 g.2⟩
 |false=>
 cases decide (d.k=5)with
 |true=>exact YC h (a0.le_refl _)| false=>
 cases decide (d.k=6)with
 |true=>exact akx d cU| false=>
 cases decide (d.k=7)with
 |true=>exact⟨a0.Qw cU,id,cU.f⟩| false=>
 cases decide (d.k=8)with
 |true=>exact⟨cU.f,id,a0.Qw cU⟩| false=>exact cU
def aky{bn Af a7 EF:List a0}(h:dY bn Af)(a8:dY a7 EF)(d:ak):dY (sP pl bn a7 d) (sP pl Af EF d):=by
 unfold sP;refine(dY.map λk _=>a8.getD _).append ?_;cases decide (d.k=3)with
 |true=>exact .cons (h.getD _) .nil| false=>exact .nil
def YE{pl:List (ByteArray×Int)}{bn Af:List a0}(h:dY bn Af):∀ (ds:List ak) {a7 EF:List a0},dY a7 EF->dY (eD pl bn ds a7) (eD pl Af ds EF)
 |[],_,_,a8=>a8| d::ds,_,_,a8=>YE h ds (a8.append (.cons (YD d (aky h a8 d)) .nil))
def iZ(pl:List (ByteArray×Int))(bn:List a0)(d:a4):a0:=(eD pl bn d.t.ns []).getD d.t.bp.toNat cn
def HS{bn Af:List a0}(h:dY bn Af)(d:a4):(iZ pl bn d).le (iZ pl Af d):=(YE h d.t.ns .nil).getD _
def n1(pl:List (ByteArray×Int)):Nat->List a4->List a0->List a0
 |_,[],l=>l| i,d::ds,l=>n1 pl (i+1) ds (l.set i (iZ pl l d))
structure ph(ds:List a4)(l:List a0):Prop where
 len:l.length=ds.length
 up:∀ i (h:i<ds.length),(l.getD i cn).le (iZ (bL ds) l ds[i])
 least:∀ m:List a0,m.length=ds.length->(∀ i (h:i<ds.length),(iZ (bL ds) m ds[i]).le (m.getD i cn))->dY l m
def HT(l:List a0)(i j:Nat)(x:a0)(hi:i<l.length):(l.set i x).getD j cn=if i=j then x else l.getD j cn:=by
 simp only[bP,iq];by_cases e:i=j
 ·subst e;simp[hi]
 ·rw[bK e,bK e]
def ph.start(ds:List a4):ph ds (List.replicate ds.length cn):=by
 refine⟨am,λi h=>?_,λm hm _=>by rw[<-hm];exact dY.qL m⟩;have:(List.replicate ds.length cn).getD i cn=cn:=by simp[bP,h]
 rw[this];exact a0.qL _
def ph.step{ds:List a4}{l:List a0}(h:ph ds l){i:Nat}(hi:i<ds.length):ph ds (l.set i (iZ (bL ds) l ds[i]))/\dY l (l.set i (iZ (bL ds) l ds[i])):=by
 have dP:i<l.length:=by rw[h.len];exact hi
 have bo:dY l (l.set i (iZ (bL ds) l ds[i])):=dY.of am λj ai=>by
  rw[HT _ _ _ _ dP];by_cases e:i=j;·subst e;rw[bY rfl];exact h.up i hi
  ·rw[bK e];exact a0.le_refl _
 refine⟨⟨by simpa using h.len,λj ai=>?_,λm hm ar=>?_⟩,bo⟩
 ·rw[HT _ _ _ _ dP];by_cases e:i=j
  ·subst e;rw[bY rfl];exact HS bo _
  ·rw[bK e];exact(h.up j ai).trans (HS bo _)
 ·have YF:=h.least m hm ar;refine dY.of (by simp[h.len,hm]) λj ai=>?_;rw[HT _ _ _ _ dP];by_cases e:i=j
  ·subst e;rw[bY rfl];exact(HS YF _).trans (ar i hi)
  ·rw[bK e];exact YF.getD j
def Qx{ds:List a4}:∀ (bq ba:List a4) {l:List a0},ds=ba++bq->ph ds l->ph ds (n1 (bL ds) ba.length bq l)/\dY l (n1 (bL ds) ba.length bq l) /\ (n1 (bL ds) ba.length bq l=l->∀ i (h:i<ds.length),ba.length<=i->l.getD i cn=iZ (bL ds) l ds[i])
 |[],ba,l,e5,h=>⟨h,dY.refl l,λ_ i hi cM=>by rw[e5,dE]at hi;omega⟩
 |d::bq,ba,l,e5,h=>by
  have hi:ba.length<ds.length:=by rw[e5];simp
  have aj:ds[ba.length]=d:=by simp[e5]
  have dP:ba.length<l.length:=by rw[h.len];exact hi
  obtain⟨s1,s2⟩:=h.step hi;rw[aj]at s1 s2;obtain⟨fT,kL,nZ⟩:=Qx bq (ba++[d]) (by rw[e5];simp) s1;rw[ct,ey,hl,dg]at fT kL nZ;refine⟨fT,s2.trans kL,λe i hs cM=>?_⟩;have aN:l.set ba.length (iZ (bL ds) l d)=l:=by refine dY.antisymm ?_ s2;have:n1 (bL ds) ba.length (d::bq) l=n1 (bL ds) (ba.length+1) bq (l.set ba.length (iZ (bL ds) l d)):=rfl;rw[this]at e;rw[e]at kL;exact kL
  have bc:n1 (bL ds) (ba.length+1) bq l=l:=by have:n1 (bL ds) ba.length (d::bq) l=n1 (bL ds) (ba.length+1) bq (l.set ba.length (iZ (bL ds) l d)):=rfl;rw[this,aN]at e;exact e
  rw[aN]at nZ;by_cases aK:i=ba.length;·subst aK;have aL:=HT l ba.length ba.length (iZ (bL ds) l d) dP;rw[aN,bY rfl]at aL;rw[aL,aj]
  ·exact nZ bc i hs Z
structure iw(ds:List a4)(l:List a0):Prop where
 len:l.length=ds.length
 fix:∀ i (h:i<ds.length),l.getD i cn=iZ (bL ds) l ds[i]
 least:∀ m:List a0,m.length=ds.length->(∀ i (h:i<ds.length),(iZ (bL ds) m ds[i]).le (m.getD i cn))->dY l m
def ph.done{ds:List a4}{l:List a0}(h:ph ds l)(aC:n1 (bL ds) 0 ds l=l):iw ds l:=
 ⟨h.len,λi hi=>(Qx ds [] rfl h).2.2 aC i hi (dh _),h.least⟩
def iw.unique{ds:List a4}{l e':List a0}(h:iw ds l)(bu:iw ds e'):l=e':=
 dY.antisymm (h.least e' bu.len λi hi=>by rw[<-bu.fix i hi];exact a0.le_refl _) (bu.least l h.len λi hi=>by rw[<-h.fix i hi];exact a0.le_refl _)
def EG(x:a0):Nat:=(bif x.z then 0 else 1)+((bif x.s then 0 else 1)+(bif x.f then 0 else 1))
def Ag(l:List a0):Nat:=(l.map EG).sum
theorem akz{a b:a0}(h:a.le b):EG b<=EG a/\(EG a<=EG b->a=b):=by
 obtain⟨cO,en,ev⟩:=a;obtain⟨b1,b8,eo⟩:=b;obtain⟨aa,ab,al⟩:=h;cases cO<;>cases b1<;>cases en<;>cases b8<;>cases ev<;>cases eo<;>simp_all[EG]
def YG:∀ {l m:List a0},dY l m->Ag m<=Ag l/\(Ag l<=Ag m->l=m)
 |_,_,.nil=>⟨cf _,λ_=>rfl⟩| _,_,.cons h t=>by obtain⟨aa,ab⟩:=akz h;obtain⟨t1,t2⟩:=YG t;simp only[Ag,ch,hx]at t1 t2 |-;refine⟨Z,λh=>?_⟩;rw[ab Z,t2 Z]
def akA{l m:List a0}(h:dY l m)(bH:m≠l):Ag m<Ag l:=by obtain⟨aa,ab⟩:=YG h;apply Nat.lt_of_le_of_ne aa;intro e;exact bH (ab Z).symm
def yp(nm:ByteArray):List a4->Nat->Option Int
 |[],_=>none| d::ds,i=>bif decide (nm=d.name)then some (i:Int)else yp nm ds (i+1)
def YH(s n:ByteArray)(v:Int):∀ l:List (ByteArray×Int),eU s (l++[(n,v)])=match eU s l with
  |some x=>some x| none=>bif decide (s=n)then some v else none
 |[]=>rfl
 |p::l=>by
  have aX:=YH s n v l;simp only[pP,eU];cases decide (s=p.1)with
  |true=>rfl| false=>simpa using aX
def YI:∀ (ds:List a4) (a7:List (ByteArray×Int)) (i:Nat) (nm:ByteArray),eU nm (oq a7 i ds)=match eU nm a7 with
  |some x=>some x| none=>yp nm ds i
 |[],a7,i,nm=>by rw[oq,yp];cases eU nm a7<;>rfl
 |d::ds,a7,i,nm=>by
  rw[oq,YI ds,yp];cases aj:(eU d.name a7).isSome with
  |true=>
   simp only[cD];cases ay:eU nm a7 with
   |some x=>rfl
   |none=>
    have:decide (nm=d.name)=false:=by rw[pN];intro e;rw[<-e,ay]at aj;cases aj
    rw[this];rfl
  |false=>
   simp only[cw,YH];cases ay:eU nm a7 with
   |some x=>rfl| none=>cases decide (nm=d.name)<;>rfl
def Qy(ds:List a4)(nm:ByteArray):eU nm (bL ds)=yp nm ds 0:=YI ds [] 0 nm
def Qz:∀ {ds:List a4} {i:Nat} {nm:ByteArray} {v:Int},yp nm ds i=some v->∃ j:Nat,v=((i+j:Nat):Int)/\j<ds.length
 |d::ds,i,nm,v,h=>by
  unfold yp at h;cases aj:decide (nm=d.name)with
  |true=>rw[aj]at h;simp only[cD,kW]at h;exact⟨0,by rw[<-h];rfl,am⟩| false=>rw[aj]at h;obtain⟨j,aa,ab⟩:=Qz h;exact⟨j+1,by rw[aa];congr 1;omega,In⟩
def wX(pl:List (ByteArray×Int))(ns:List ak):Bool:=ns.all λd=>!decide (d.k=3)||(eU d.t pl).isSome
def YJ{ds:List a4}(h:wX (bL ds) ns=true):Yv (bL ds) ds.length ns:=by intro d aj af;have:=fV.1 h d aj;simp only[af,HI,zD,zg]at this;obtain⟨v,an⟩:=Option.isSome_iff_exists.1 this;have jS:=an;rw[Qy]at jS;obtain⟨j,aa,ab⟩:=Qz jS;rw[dg]at aa;exact⟨j,by rw[an,aa],ab⟩
def YK:∀ (ds:List a4) {a7 r:List (ByteArray×Int)} {i:Nat},l' a7 i ds=some r->oq a7 i ds=r
 |[],a7,r,i,h=>by simp only[l',kW]at h;exact h
 |d::ds,a7,r,i,h=>by
  unfold l' at h;cases aj:(eU d.name a7).isSome with
  |true=>rw[aj]at h;cases h| false=>rw[aj]at h;rw[oq,aj];exact YK ds h
def akB{d:a4}{bO:ak}(aE:bO∈d.t.ns):∀ (ds:List a4) (i:Nat),d∈ds->∃ j,(j,bO)∈qI i ds:=by
 intro ds
 induction ds with
 |nil=>intro i aj;cases aj
 |cons x ds aX=>
  intro i aj;rcases ez.1 aj with e | aj;·subst e;exact⟨i,cW.2 (.inl (c6.2 ⟨bO,aE,rfl⟩))⟩
  ·obtain⟨j,ai⟩:=aX (i+1) aj;exact⟨j,cW.2 (.inr ai)⟩
def akC(h:ea aB g=0):∀ d∈g.ds,wX (bL g.ds) d.t.ns=true:=by
 unfold ea at h;cases aa:decide ((g.n:Int)=0)with
 |true=>rw[aa]at h;cases h| false=>
 cases ab:om g.ds with
 |false=>rw[aa,ab]at h;cases h| true=>
 cases al:pZ aB g with
 |true=>rw[aa,ab,al]at h;cases h| false=>
 rw[aa,ab,al]at h;simp only[cw,zD]at h;split at h
 ·cases h
 ·rename_i a7 m1;have aK:bL g.ds=a7:=YK g.ds m1;cases aL:rI a7 g.ds with
  |false=>rw[aL]at h;cases h| true=>intro d aj;rw[aK,wX,fV];intro bO bW;obtain⟨j,ai⟩:=akB bW g.ds 0 aj;exact fV.1 aL _ ai
def akD(h:ea aB g=0):om g.ds=true:=by
 unfold ea at h;cases aa:decide ((g.n:Int)=0)with
 |true=>rw[aa]at h;cases h| false=>
 cases ab:om g.ds with
 |false=>rw[aa,ab]at h;cases h| true=>rfl
def mb.mono{a:Option Addr}{ks:List a0}(h:mb I M a n ks)(bG:∀ b o,I b=some o->I' b=some o):mb I' M a n ks:=
 ⟨h.n,λj ai=>by
  obtain⟨ad,aa,ab⟩:=h.rd j ai;exact⟨ad,aa,ab.mono bG⟩⟩
def mb.sub{I:aI}{M M':List aD}{a:Option Addr}{n:Nat}{ks:List a0}(h:mb I M a n ks)(bd:∀ x∈M,x∈M'):mb I M' a n ks:=
 ⟨h.n,λj ai=>by
  obtain⟨ad,aa,ab⟩:=h.rd j ai;exact⟨ad,aa,ab.sub bd⟩⟩
def Ln{b:Nat}{l:List a0}(bd:fU b l∈M):mb I M (some ⟨b,0,none⟩) l.length l:=
 ⟨rfl,λj ai=>⟨_,rfl,EC bd ai⟩⟩
def Ah(g:cR)(bn:List a0)(t:bf):Option (List a0):=bif decide (bn.length=g.n)&&(right t&&wX (bL g.ds) t.ns)then some (eD (bL g.ds) bn t.ns [])else none
def akE(bm:fr I aB)(az:g.ok I)(au:t.ok I){bn:List a0}(ma:mb I M0 la ln bn) :
  Spec Tryz.prog 263 [g.val,.slice la ln lc,t.val] I M0 λv I' M'=>(∀ b o,I b=some o->I' b=some o) /\
   ((Ah g bn t=none/\v=.tuple #[.slice none 0 0,.bool false]/\M'=M0)\/∃ r b,Ah g bn t=some r/\v=.tuple #[.slice (some ⟨b,0,none⟩) t.n t.n,.bool true]/\M'=fU b r::M0):=by
 refine bR [] aT Tryz.func263 rfl rfl rfl ?_;intro B ax;have ib:=az.n;have gu:=au.n;have g8:=au.a'.cap;have wY:=ma.n;refine bZ.mk (λh=>?_) (λh=>?_)
 rotate_left
 ·refine⟨_,_,.refl,λ_ _ h=>h,.inl ⟨?_,rfl,rfl⟩⟩;have bH:¬ (ln:Int)=(g.n:Int):=by simpa using h
  have:decide (bn.length=g.n)=false:=fb Z;simp[Ah,this]
 have sR:ln=g.n:=by
  have:(ln:Int)=(g.n:Int):=by simpa using h
  omega
 have iW:decide (bn.length=g.n)=true:=hM Z;refine a9.mk [] M0 _ (.refl _) (o0 bm.c au) ?_;rintro v I1 M1 -⟨rfl,rfl,rfl⟩;refine aS.mk (λh=>?_) (λh=>?_)
 ·refine⟨_,_,.refl,λ_ _ h=>h,.inl ⟨?_,rfl,rfl⟩⟩;have:right t=false:=by simpa using h
  simp[Ah,this]
 have ag:right t=true:=by simpa using h
 refine a9.mk [] M0 _ (.refl _) (Ys az) ?_;rintro v ed dp -⟨gq,rfl,ic,rfl,EH⟩;have nW:=au.mono gq;refine c2.inv (ι:=Nat) (λx=>{ bn:=[(1,.val (.slice la ln lc)),(3,.ref 3 0),(5,.ref 5 0),(8,.val (.map (some ic))),(27,.val (.slice t.a t.n t.c)),(28,.val (.int .i64 t.n)),(29,.val (.int .i64 x))],cl:=[(3,[.slice g.a g.n g.c]),(5,t.cells)],cm:=ed,cK:=M0 }) (λx=>x<=t.n/\∀ d∈t.ns.take x,(!decide (d.k=3)||(eU d.t (bL g.ds)).isSome)=true) (λx=>t.n-x) ?_ ?_
 ·exact⟨0,⟨dh _,λd aj=>by simp at aj⟩,.refl,pJ,.cons rfl (.cons rfl .nil)⟩
 rintro i⟨hi,kY⟩;refine aS.mk (λh=>?_) (λh=>?_)
 ·have aV:i<t.n:=by have:(i:Int)<(t.n:Int):=cv h;omega
  have cF:i<t.ns.length:=by omega
  obtain⟨ad,bt,bj⟩:=nW.a'.row ak.cq aV cF;have lG:t.ns.take (i+1)=t.ns.take i++[t.ns[i]]:=gi cF;have jD:=bD cF;have next:(!decide (t.ns[i].k=3)||(eU t.ns[i].t (bL g.ds)).isSome)=true->∀ d∈t.ns.take (i+1),(!decide (d.k=3)||(eU d.t (bL g.ds)).isSome)=true:=λh d aj=>by
   rw[lG]at aj;rcases cW.1 aj with aj | aj;·exact kY d aj
   ·simp only[ep]at aj;rw[aj];exact h
  refine bi.mk ad i bt rfl aV ?_;refine aJ.mk _ (bj _) ?_;refine aS.mk (λal=>?_) (λal=>?_);·refine a3.mk _ (cC (i:=i) Z) ?_;refine⟨i+1,⟨⟨Z,next ?_⟩,Z⟩,.refl,pJ,.cons rfl (.cons rfl .nil)⟩;rw[show(!decide (t.ns[i].k=3))=true from al];rfl
  ·refine bz.Yr aT rfl am rfl rfl rfl rfl (λw=>Hs w) (l:=bL g.ds) (g:=ic) rfl rfl (.inl EH) ?_;refine aS.mk (λaL=>?_) (λaL=>?_)
   ·refine⟨_,_,.refl,gq,.inl ⟨?_,rfl,rfl⟩⟩;have bB:wX (bL g.ds) t.ns=false:=by
     rw[wX,KS];refine⟨_,jD,?_⟩;have cA:(eU t.ns[i].t (bL g.ds)).isSome=false:=by simpa using aL
     rw[cA,show(!decide (t.ns[i].k=3))=false from al];simp
    simp[Ah,bB]
   ·refine a3.mk _ (cC (i:=i) Z) ?_;refine⟨i+1,⟨⟨Z,next ?_⟩,Z⟩,.refl,pJ,.cons rfl (.cons rfl .nil)⟩;have cA:(eU t.ns[i].t (bL g.ds)).isSome=true:=by simpa using aL
    rw[cA];simp
 have cM:i=t.n:=by have:¬ (i:Int)<(t.n:Int):=db h;omega
 rw[fE Z]at kY;have eV:wX (bL g.ds) t.ns=true:=fV.2 kY;have EI:=YJ eV;rw[ib,<-sR]at EI;refine a9.mk M0 [] _ perm_nil (Yy nW ag EH (ma.mono gq) EI) ?_;rintro v lF oW -⟨rfl,b,rfl,rfl⟩;rw[dE];exact⟨_,_,.refl,gq,.inr ⟨_,b,by rw[Ah,iW,ag,eV];rfl,rfl,rfl⟩⟩
structure wZ(g:cR):Prop where
 n:g.ds.length=g.n
 right:∀ d∈g.ds,right d.t=true
 named:∀ d∈g.ds,wX (bL g.ds) d.t.ns=true
def Lo(aE:g.ds.length=g.n)(h:ea aB g=0):wZ g:=by refine⟨aE,λd aj=>?_,akC h⟩;have:=fV.1 (akD h) d aj;simp only[normal,cH]at this;exact this.2.1
def ofM(b6 ic eb eu b1:Nat)(g:cR)(l:List a0):List aD:=[⟨b6,.cells #[.map (some ic)] 167 (0,0)⟩,⟨eb,.cells #[.slice (some ⟨eu,0,none⟩) g.n g.n] 271 (0,0)⟩,fU eu l,⟨b1,.cells #[.slice g.a g.n g.c] 28 (0,0)⟩]
def HU(a b c d:α):[a,b,c,d].Perm ([c]++[a,b,d]):=lL (l₁:=[a,b]) (l₂:=[d])
def akF(x a b c d:α):[x,a,b,c,d].Perm ([c]++[x,a,b,d]):=lL (l₁:=[x,a,b]) (l₂:=[d])
def Lp{b:Nat}{f:a0}(bd:(⟨b,.cells f.cells.toArray 333 (0,0)⟩:aD)∈M):cG I M (⟨b,0,none⟩:Addr) 3 f.cells:=⟨rfl,_,_,_,.inr ⟨_,bd,rfl,rfl⟩,rfl,rfl⟩
def YL{l:List a0}{i:Nat}(hi:i<l.length){x:a0}:Nat.ble (0+i*3+x.cells.length) (l.flatMap a0.cells).length=true:=by rw[nY,Cx,a0.cq];omega
def b'.nk{a:Addr}{K:List aD->Prop}(ba post:List aD)(cs:Array Value)(T:Nat)(bd:M=ba++⟨a.block,.cells cs T (0,0)⟩::post)(aw:a.spot=none)(ah:Nat.ble (a.off+vs.length) cs.size=true)(aa:fG vs=true)(cs':List Value)(he:cp cs.toList a.off vs=cs')(k:K (ba++⟨a.block,.cells cs'.toArray T (0,0)⟩::post)):b' M a vs K:=
 ⟨ba,post,cs,T,bd,aw,bJ ah,aa,by rw[he];exact k⟩
def akG(az:g.ok I)(hm:wZ g){b6 eb eu b1:Nat}(EH:I ic=some (jK (bL g.ds))){fJ:List a0}(Br:ph g.ds fJ) :
  Spec Tryz.prog 321 [ptr b1,ptr b6,ptr eb] I (ofM b6 ic eb eu b1 g fJ) λv I' M'=>v=.bool (decide (n1 (bL g.ds) 0 g.ds fJ≠fJ))/\I'=I/\M'=ofM b6 ic eb eu b1 g (n1 (bL g.ds) 0 g.ds fJ):=by
 refine bR [] aT Tryz.func321 rfl rfl rfl ?_;intro B ax;have ib:=az.n;have g8:=az.a'.cap;have Lq:∀ {M:List aD},(⟨b1,.cells #[.slice g.a g.n g.c] 28 (0,0)⟩:aD)∈M->cG I M ((⟨b1,0,none⟩:Addr).add 0) 1 [.slice g.a g.n g.c]:=λbd=>dj (cs:=[.slice g.a g.n g.c]) (k:=0) (n:=1) bd am;have akH:∀ {M:List aD},(⟨b6,.cells #[.map (some ic)] 167 (0,0)⟩:aD)∈M->cG I M (⟨b6,0,none⟩:Addr) 1 [.map (some ic)]:=λbd=>⟨rfl,_,_,_,.inr ⟨_,bd,rfl,rfl⟩,rfl,rfl⟩;have Cy:∀ {M:List aD},(⟨eb,.cells #[.slice (some ⟨eu,0,none⟩) g.n g.n] 271 (0,0)⟩:aD)∈M->cG I M (⟨eb,0,none⟩:Addr) 1 [.slice (some ⟨eu,0,none⟩) g.n g.n]:=λbd=>⟨rfl,_,_,_,.inr ⟨_,bd,rfl,rfl⟩,rfl,rfl⟩;refine aJ.mk _ (Lq (by simp[ofM])) ?_;refine c2.inv (ι:=Nat×List a0) (λx=>{ bn:=[(0,.val (ptr b1)),(1,.val (ptr b6)),(2,.val (ptr eb)),(4,.val (.bool (decide (x.2≠fJ)))),(9,.val (.slice g.a g.n g.c)),(10,.val (.int .i64 g.n)),(11,.val (.int .i64 x.1))],cm:=I,cK:=ofM b6 ic eb eu b1 g x.2 }) (λx=>x.1<=g.n/\ph g.ds x.2/\dY fJ x.2/\n1 (bL g.ds) 0 g.ds fJ=n1 (bL g.ds) x.1 (g.ds.drop x.1) x.2) (λx=>g.n-x.1) ?_ ?_
 ·refine⟨(0,fJ),⟨dh _,Br,dY.refl _,rfl⟩,.refl,.cons .refl (.cons .refl (.cons .refl (.cons ?_ (e2)))),.nil⟩;exact Lm am
 rintro⟨i,l⟩⟨hi,nh,bo,fy⟩;simp only at hi nh bo fy;have oa:=nh.len;refine aS.mk (λh=>?_) (λh=>?_)
 rotate_left
 ·have cM:i=g.n:=by have:¬ (i:Int)<(g.n:Int):=db h;omega
  rw[l5 Z,n1]at fy;exact⟨_,_,.refl,by rw[fy],rfl,by rw[fy]⟩
 have aV:i<g.n:=by have:(i:Int)<(g.n:Int):=cv h;omega
 have cF:i<g.ds.length:=by omega
 have dP:i<l.length:=by omega
 obtain⟨ad,bt,bj⟩:=az.a'.row a4.cq aV cF;have gr:=bD cF;have aj:=az.ds _ gr;have ag:=hm.right _ gr;have EI:=YJ (hm.named _ gr);rw[show g.ds.length=l.length from oa.symm]at EI;obtain⟨p0,g3⟩:=nh.step cF;have yq:n1 (bL g.ds) 0 g.ds fJ=n1 (bL g.ds) (i+1) (g.ds.drop (i+1)) (l.set i (iZ (bL g.ds) l g.ds[i])):=by rw[fy,e9 cF,n1]
 have HV:iZ (bL g.ds) l g.ds[i]=(eD (bL g.ds) l g.ds[i].t.ns []).getD g.ds[i].t.bp.toNat cn:=rfl;generalize iZ (bL g.ds) l g.ds[i]=f at p0 g3 yq HV;generalize g.ds[i]=d at bj aj ag EI HV;have pS:=kh ag;have gu:=aj.t.n;have pM:=HP (bL g.ds) l d.t.ns [];simp only[hl,dg]at pM;have dw:d.t.bp.toNat<(eD (bL g.ds) l d.t.ns []).length:=by omega
 have xM:(eD (bL g.ds) l d.t.ns [])[d.t.bp.toNat]=f:=by rw[HV];simp[bP,dw]
 have QA:=Yy (M0:=[fU eu l]) (ln:=l.length) (lc:=g.n) aj.t ag EH (Ln (I:=I) (ep.2 rfl)) EI;rw[show l.length=g.n by omega]at QA;refine bi.mk ad i bt rfl aV ?_;refine aJ.mk _ (bj _) ?_;have akI:l.getD i cn=l[i]:=by simp[bP,dP]
 have more:(!decide (f=l[i]))=true->decide (l.set i f≠fJ)=true:=λh=>by
  have bH:f≠l[i]:=by simpa using h
  rw[gN];intro e;have bc:l.set i f=l:=by refine dY.antisymm ?_ g3;rw[e];exact bo
  have al:=HT l i i f dP;rw[bc,bY rfl,akI]at al;exact bH al.symm
 have same:(!decide (f=l[i]))=false->l.set i f=l:=λh=>by
  have he:f=l[i]:=by simpa using h
  rw[he];exact List.set_getElem_self dP
 refine cN.draw aT rfl rfl rfl ?_;refine aJ.mk _ (akH (by simp[ofM])) ?_;refine aJ.mk _ (Cy (by simp[ofM])) ?_;refine⟨?_,?_⟩
 ·refine er.oR [fU eu l] [⟨b6,.cells #[.map (some ic)] 167 (0,0)⟩,⟨eb,.cells #[.slice (some ⟨eu,0,none⟩) g.n g.n] 271 (0,0)⟩,⟨b1,.cells #[.slice g.a g.n g.c] 28 (0,0)⟩] _ (HU ..) QA (λv I' M' h x ae=>axv) ?_;rintro v ed dp -⟨rfl,b,rfl,rfl⟩;refine bi.mk ⟨b,0,none⟩ d.t.bp.toNat rfl Z Z ?_;refine aJ.mk _ (EC (.head _) dw) ?_;rw[xM];refine bN.mk λb7 Cz Lr=>?_;refine b'.nk [] [fU b (eD (bL g.ds) l d.t.ns []),fU eu l,⟨b6,.cells #[.map (some ic)] 167 (0,0)⟩,⟨eb,.cells #[.slice (some ⟨eu,0,none⟩) g.n g.n] 271 (0,0)⟩,⟨b1,.cells #[.slice g.a g.n g.c] 28 (0,0)⟩] _ _ rfl rfl rfl rfl f.cells rfl ?_;refine cN.draw aT rfl rfl rfl ?_;refine aJ.mk f.cells (Lp am) ?_;refine aJ.mk _ (Cy am) ?_;refine bi.mk ⟨eu,0,none⟩ i rfl rfl aV ?_;refine aJ.mk _ (EC am dP) ?_;refine fm.Yl (p:=f) (q:=l[i]) ?_;refine aS.mk (λh=>?_) (λh=>?_)
  ·refine aJ.mk _ (Cy am) ?_;refine aJ.mk f.cells (Lp am) ?_;refine bi.mk ⟨eu,0,none⟩ i rfl rfl aV ?_;refine b'.iC [(⟨b7,.cells f.cells.toArray 333 (0,0)⟩:aD),fU b (eD (bL g.ds) l d.t.ns [])] [⟨b6,.cells #[.map (some ic)] 167 (0,0)⟩,⟨eb,.cells #[.slice (some ⟨eu,0,none⟩) g.n g.n] 271 (0,0)⟩,⟨b1,.cells #[.slice g.a g.n g.c] 28 (0,0)⟩] (l.flatMap a0.cells) _ rfl (YL dP) rfl ((l.set i f).flatMap a0.cells) (by rw[dg];exact Qu l i dP f) ?_;refine a3.mk _ (cC (i:=i) Z) ?_;refine⟨(i+1,l.set i f),⟨⟨ce,p0,bo.trans g3,yq⟩,ce⟩,.sub (M1:=[fU eu (l.set i f),⟨b6,.cells #[.map (some ic)] 167 (0,0)⟩,⟨eb,.cells #[.slice (some ⟨eu,0,none⟩) g.n g.n] 271 (0,0)⟩,⟨b1,.cells #[.slice g.a g.n g.c] 28 (0,0)⟩]) (by exact .cons _ (.cons _ (.refl _))) (.perm (HU ..).symm .refl),.cons .refl (.cons .refl (.cons .refl (.cons (Lm (more h).symm) (e2)))),.nil⟩
  ·have he:l.set i f=l:=same h;rw[he]at yq;refine a3.mk _ (cC (i:=i) Z) ?_;exact⟨(i+1,l),⟨⟨ce,nh,bo,yq⟩,ce⟩,.sub (M1:=[fU eu l,⟨b6,.cells #[.map (some ic)] 167 (0,0)⟩,⟨eb,.cells #[.slice (some ⟨eu,0,none⟩) g.n g.n] 271 (0,0)⟩,⟨b1,.cells #[.slice g.a g.n g.c] 28 (0,0)⟩]) (by exact .cons _ (.cons _ (.refl _))) (.perm (HU ..).symm .refl),pJ,.nil⟩
 ·refine bN.mk λb7 Cz Lr=>?_;refine er.oR [fU eu l] [(⟨b7,.cells cn.cells.toArray 333 (0,0)⟩:aD),⟨b6,.cells #[.map (some ic)] 167 (0,0)⟩,⟨eb,.cells #[.slice (some ⟨eu,0,none⟩) g.n g.n] 271 (0,0)⟩,⟨b1,.cells #[.slice g.a g.n g.c] 28 (0,0)⟩] _ (akF ..) QA (λv I' M' h x ae=>axv) ?_;rintro v ed dp -⟨rfl,b,rfl,rfl⟩;refine bi.mk ⟨b,0,none⟩ d.t.bp.toNat rfl Z Z ?_;refine aJ.mk _ (EC (.head _) dw) ?_;rw[xM];refine b'.nk [fU b (eD (bL g.ds) l d.t.ns []),fU eu l] [⟨b6,.cells #[.map (some ic)] 167 (0,0)⟩,⟨eb,.cells #[.slice (some ⟨eu,0,none⟩) g.n g.n] 271 (0,0)⟩,⟨b1,.cells #[.slice g.a g.n g.c] 28 (0,0)⟩] _ _ rfl rfl rfl rfl f.cells rfl ?_;refine cN.draw aT rfl rfl rfl ?_;refine aJ.mk f.cells (Lp am) ?_;refine aJ.mk _ (Cy am) ?_;refine bi.mk ⟨eu,0,none⟩ i rfl rfl aV ?_;refine aJ.mk _ (EC am dP) ?_;refine fm.Yl (p:=f) (q:=l[i]) ?_;refine aS.mk (λh=>?_) (λh=>?_)
  ·refine aJ.mk _ (Cy am) ?_;refine aJ.mk f.cells (Lp am) ?_;refine bi.mk ⟨eu,0,none⟩ i rfl rfl aV ?_;refine b'.iC [fU b (eD (bL g.ds) l d.t.ns [])] [(⟨b7,.cells f.cells.toArray 333 (0,0)⟩:aD),⟨b6,.cells #[.map (some ic)] 167 (0,0)⟩,⟨eb,.cells #[.slice (some ⟨eu,0,none⟩) g.n g.n] 271 (0,0)⟩,⟨b1,.cells #[.slice g.a g.n g.c] 28 (0,0)⟩] (l.flatMap a0.cells) _ rfl (YL dP) rfl ((l.set i f).flatMap a0.cells) (by rw[dg];exact Qu l i dP f) ?_;refine a3.mk _ (cC (i:=i) Z) ?_;refine⟨(i+1,l.set i f),⟨⟨ce,p0,bo.trans g3,yq⟩,ce⟩,.sub (M1:=[fU eu (l.set i f),⟨b6,.cells #[.map (some ic)] 167 (0,0)⟩,⟨eb,.cells #[.slice (some ⟨eu,0,none⟩) g.n g.n] 271 (0,0)⟩,⟨b1,.cells #[.slice g.a g.n g.c] 28 (0,0)⟩]) adc (.perm (HU ..).symm .refl),.cons .refl (.cons .refl (.cons .refl (.cons (Lm (more h).symm) (e2)))),.nil⟩
  ·have he:l.set i f=l:=same h;rw[he]at yq;refine a3.mk _ (cC (i:=i) Z) ?_;exact⟨(i+1,l),⟨⟨ce,nh,bo,yq⟩,ce⟩,.sub (M1:=[fU eu l,⟨b6,.cells #[.map (some ic)] 167 (0,0)⟩,⟨eb,.cells #[.slice (some ⟨eu,0,none⟩) g.n g.n] 271 (0,0)⟩,⟨b1,.cells #[.slice g.a g.n g.c] 28 (0,0)⟩]) adc (.perm (HU ..).symm .refl),pJ,.nil⟩
def akJ(bm:fr I aB)(az:g.ok I):Spec Tryz.prog 262 [g.val] I [] λv I' M'=>(∀ b o,I b=some o->I' b=some o) /\
  ((ea aB g≠0/\v=.tuple #[.slice none 0 0,.int .i64 (ea aB g)]/\M'=[])\/(ea aB g=0/\∃ b l,v=.tuple #[.slice (some ⟨b,0,none⟩) g.n g.n,.int .i64 0]/\M'=[fU b l]/\iw g.ds l)):=by
 refine bR [1,5,6] aT Tryz.func262 rfl rfl rfl ?_;intro B ax;have ib:=az.n;have g8:=az.a'.cap;refine bN.mk λb1 iU HD=>?_;refine aJ.mk [.slice g.a g.n g.c] ⟨rfl,_,_,_,.inr ⟨_,.head _,rfl,rfl⟩,rfl,rfl⟩ ?_;refine a9.mk [] [⟨b1,.cells #[.slice g.a g.n g.c] 28 (0,0)⟩] _ (.refl _) (XC bm az) ?_;rintro v I1 M1 -⟨rfl,di,rfl⟩;refine aS.mk (λh=>?_) (λh=>?_)
 ·have hm:ea aB g≠0:=by simpa using h
  exact⟨_,_,.sub (eY _) .refl,di,.inl ⟨hm,rfl,rfl⟩⟩
 have hm:ea aB g=0:=by simpa using h
 have bd:=Lo ib hm;refine aJ.mk _ (dj (b:=b1) (cs:=[.slice g.a g.n g.c]) (k:=0) (n:=1) (T:=28) (.head _) am) ?_;refine n9.mk g.n g.n rfl rfl (cf _) (by show 3*g.n<=_;omega) Z ?_;refine bN.mk λeu kf awO=>?_;have e:rowOf cn.cells (g.n*3)=(List.replicate g.ds.length cn).flatMap a0.cells:=by rw[ib];exact Yx g.n
 refine bN.mk λeb Cb K5=>?_;refine b'.nk [] _ _ _ rfl rfl rfl rfl [.slice (some ⟨eu,0,none⟩) g.n g.n] rfl ?_;refine aJ.mk [.slice g.a g.n g.c] ⟨rfl,_,_,_,.inr ⟨_,.tail _ (.tail _ (.head _)),rfl,rfl⟩,rfl,rfl⟩ ?_;refine a9.mk [] _ _ (.refl _) (Ys (az.mono di)) ?_;rintro v ed dp -⟨gq,rfl,ic,rfl,EH⟩;refine bN.mk λb6 Em Xq=>?_;refine b'.nk [] _ _ _ rfl rfl rfl rfl [.map (some ic)] rfl ?_;refine c2.inv (ι:=List a0) (λl=>{ bn:=[(5,.val (ptr eb)),(7,.val (.func (.func 321) #[] #[ptr b1,ptr b6,ptr eb]))],cm:=ed,cK:=ofM b6 ic eb eu b1 g l }) (ph g.ds) Ag ?_ ?_
 ·refine⟨List.replicate g.ds.length cn,.start g.ds,?_,tl,.nil⟩;simp only[ofM,fU];rw[<-e];exact .refl
 intro l ay;refine a9.mk (ofM b6 ic eb eu b1 g l) [] _ (.refl _) (akG ((az.mono di).mono gq) bd EH ay) ?_;rintro v lF oW -⟨rfl,rfl,rfl⟩;obtain⟨fT,kL,-⟩:=Qx g.ds [] rfl ay;refine aS.mk (λh=>?_) (λh=>?_)
 ·exact⟨_,⟨fT,akA kL (cv h)⟩,.refl,tl,.nil⟩
 ·have aC:n1 (bL g.ds) 0 g.ds l=l:=by have:=db h;exact Classical.not_not.1 this
  rw[aC];refine aJ.mk [.slice (some ⟨eu,0,none⟩) g.n g.n] ⟨rfl,_,_,_,.inr ⟨_,.tail _ (.head _),rfl,rfl⟩,rfl,rfl⟩ ?_;refine⟨lF,[fU eu l],.sub (.cons _ (.cons _ (.cons_cons _ (eY _)))) .refl,λb o h=>gq _ _ (di _ _ h),.inr ⟨hm,eu,l,rfl,rfl,ay.done aC⟩⟩
def bf.aW(t:bf):bf:=⟨t.ns.map ak.aW,none,t.n,0,t.bp⟩
def a4.aW(d:a4):a4:=⟨d.name,d.t.aW⟩
def cR.aW(g:cR):cR:=⟨g.ds.map a4.aW,none,g.n,0⟩
def YM:∀ (ds:List ak) (i:Nat) (s:List Bool),ho i (ds.map ak.aW) s=ho i ds s
 |[],i,s=>rfl| d::ds,i,s=>by have h:∀ cr,ho (i+1) (ds.map ak.aW) cr=ho (i+1) ds cr:=λcr=>YM ds (i+1) cr;rw[ch,ho,ho];simp only[h];rfl
def tV(t:bf):right t.aW=right t:=by unfold right bf.aW;simp only[YM,bA]
def YN(ns:List ak)(k:Int):iE (ns.map ak.aW) k=iE ns k:=by unfold iE;rw[gE];rfl
def YO(ns:List ak)(kind:Int):∀ ks,kJ (ns.map ak.aW) kind ks=kJ ns kind ks
 |[]=>rfl| k::ks=>by rw[kJ,kJ,YN,YO ns kind ks]
def YP(ns:List ak):∀ ds:List ak,k7 (ns.map ak.aW) (ds.map ak.aW)=k7 ns ds
 |[]=>rfl| d::ds=>by have h:=YO ns d.k d.ao;rw[ch,k7,k7,YP ns ds];show(bif !decide (d.k=4) && !decide (d.k=5)then k7 ns ds else bif kJ (ns.map ak.aW) d.k d.ao then k7 ns ds else false)=_;rw[h]
def akK(t:bf):normal t.aW=normal t:=by unfold normal;rw[tV];congr 1;exact YP t.ns t.ns
def YQ:∀ (ds:List ak) (i:Nat) (g9:List Int),wD i (ds.map ak.aW) g9=wD i ds g9
 |[],i,g9=>rfl| d::ds,i,g9=>by rw[ch,wD,wD,YQ ds];rfl
def akL(t:bf):depth t.aW=depth t:=by unfold depth;rw[tV];simp only[bf.aW,YQ,bA]
def akM(t:bf):pR t.aW=pR t:=by unfold pR;rw[tV,akL];rfl
def HW{α:Type}{z:α}{f g:ak->(Int->α)->α}(h:∀ d q,f d.aW q=g d q):∀ (ds:List ak) (a7:List α),gS z f (ds.map ak.aW) a7=gS z g ds a7
 |[],a7=>rfl| d::ds,a7=>by rw[ch,gS,gS,h,HW h ds]
def akN(aB:List Int)(ns:List ak)(k:Int):k6 aB (ns.map ak.aW) k=k6 aB ns k:=by unfold k6 mH;rw[HW (g:=Ek aB ns) (λd q=>?_)];show rE aB d++(uY (Ej d) (λk=>paren (hK d.k (iE (ns.map ak.aW) k)) (q k)) false d.ao++pX d)=_;simp only[YN];rfl
def akO(aB:List Int)(t:bf):nT aB t.aW=nT aB t:=by unfold nT;rw[tV];have:k6 aB t.aW.ns t.aW.bp=k6 aB t.ns t.bp:=akN aB t.ns t.bp;rw[this]
def akP(aB:List Int)(d:a4):qG aB d.aW=qG aB d:=by unfold qG;have:nT aB d.aW.t=nT aB d.t:=akO aB d.t;rw[this];rfl
def YR(aB:List Int):∀ (ds:List a4) (a7:List UInt8),qH aB (ds.map a4.aW) a7=qH aB ds a7
 |[],a7=>rfl| d::ds,a7=>by rw[ch,qH,qH,akP,YR aB ds]
def akQ(g:cR):u5 g.aW=u5 g:=by unfold u5 cR.aW;rw[gE];congr 1;refine fX λd _=>?_;show sH d.t.aW=sH d.t;unfold sH;rw[tV];rfl
def YS{q:a4->Bool}(h:∀ d,q d.aW=q d)(ds:List a4):(ds.map a4.aW).all q=ds.all q:=by rw[Lh];congr 1;funext d;exact h d
def akR(aB:List Int)(g:cR):pZ aB g.aW=pZ aB g:=by unfold pZ;rw[akQ];have aa:(g.aW.ds.all λd=>pR d.t)=g.ds.all λd=>pR d.t:=YS (λd=>akM d.t) g.ds;have ab:qH aB g.aW.ds []=qH aB g.ds []:=YR aB g.ds [];rw[aa,ab];rfl
def akS(ds:List a4):om (ds.map a4.aW)=om ds:=YS (q:=λd=>kF d.name&&normal d.t) (λd=>by
 show(kF d.name&&normal d.t.aW)=_;rw[akK]) ds
def YT:∀ (ds:List a4) (a7:List (ByteArray×Int)) (i:Nat),l' a7 i (ds.map a4.aW)=l' a7 i ds
 |[],a7,i=>rfl| d::ds,a7,i=>by rw[ch,l',l'];show(bif (eU d.name a7).isSome then none else l' (a7++[(d.name,(i:Int))]) (i+1) (ds.map a4.aW))=_;rw[YT ds]
def YU:∀ (ds:List a4) (i:Nat),qI i (ds.map a4.aW)=(qI i ds).map λp=>(p.1,p.2.aW)
 |[],i=>rfl| d::ds,i=>by rw[ch,qI,qI,YU ds,cJ,gE];show(d.t.ns.map ak.aW).map (λn=>(i,n))++_=_;rw[gE];rfl
def akT(a7:List (ByteArray×Int))(ds:List a4):rI a7 (ds.map a4.aW)=rI a7 ds:=by unfold rI;rw[YU,Lh];rfl
def CA(aB:List Int)(g:cR):ea aB g.aW=ea aB g:=by unfold ea;rw[akR];have aa:om g.aW.ds=om g.ds:=akS g.ds;have ab:l' [] 0 g.aW.ds=l' [] 0 g.ds:=YT g.ds [] 0;have al:∀ a7,rI a7 g.aW.ds=rI a7 g.ds:=λa7=>akT a7 g.ds;rw[aa,ab];simp only[al];rfl
def YV(pl:List (ByteArray×Int))(bn:List a0):∀ (ds:List ak) (a7:List a0),eD pl bn (ds.map ak.aW) a7=eD pl bn ds a7
 |[],a7=>rfl| d::ds,a7=>by rw[ch,eD,eD,YV pl bn ds];rfl
def YW:∀ (ds:List a4) (a7:List (ByteArray×Int)) (i:Nat),oq a7 i (ds.map a4.aW)=oq a7 i ds
 |[],a7,i=>rfl| d::ds,a7,i=>by rw[ch,oq,oq,YW ds];rfl
def EJ(ds:List a4):bL (ds.map a4.aW)=bL ds:=YW ds [] 0
def Ls(pl:List (ByteArray×Int))(bn:List a0)(d:a4):iZ pl bn d.aW=iZ pl bn d:=by unfold iZ;have:eD pl bn d.aW.t.ns []=eD pl bn d.t.ns []:=YV pl bn d.t.ns [];rw[this];rfl
def akU{ds:List a4}{l:List a0}(h:iw ds l):iw (ds.map a4.aW) l:=by
 refine⟨by rw[h.len,bA],λi hi=>?_,λm hm ar=>?_⟩
 ·have ck:i<ds.length:=by simpa using hi
  rw[EJ,gl,Ls];exact h.fix i ck
 ·refine h.least m (by rw[hm,bA]) λi hi=>?_;have:=ar i i7;rwa [EJ,gl,Ls]at this
def jM(l:List ak):bf:=⟨l,none,l.length,0,(l.length:Int)-1⟩
structure YX(I:aI)(t:bf)(l:List ak):Prop where
 ok:t.ok I
 aW:t.ns.map ak.aW=l
 bp:t.bp=(l.length:Int)-1
def YX.len{l:List ak}(h:YX I t l):t.n=l.length:=by rw[<-h.ok.n,<-h.aW,bA]
def eI(ns:List ak):List Int:=ns.flatMap (·.ao)
def hP(l:List Int):Prop:=l.Pairwise (·≠·)
def EK(s:List Bool)(l:List Int):Prop:=∀ j,s.getD j false=true ↔ ((j:Int)∈l/\j<s.length)
def YY{i:Nat}:∀ {ks seen:List Int} {s:List Bool},i<=s.length->EK s seen->hP seen -> ((∃ cr,jm i ks s=some cr) ↔ ((∀ k∈ks,0<=k/\k<i)/\hP (seen++ks)))/\∀ cr,jm i ks s=some cr->cr.length=s.length/\EK cr (seen++ks)
 |[],seen,s,hi,hm,aj=>by refine⟨⟨λ_=>⟨λk af=>by(cases af),by simpa using aj⟩,λ_=>⟨s,rfl⟩⟩,λcr h=>?_⟩;simp only[jm,kW]at h;subst h;exact⟨rfl,by simpa using hm⟩
 |k::ks,seen,s,hi,hm,aj=>by
  unfold jm;cases ah:decide (k<0)||(decide ((i:Int)<=k)||s.getD k.toNat false)with
  |true=>
   refine⟨⟨λ⟨cr,h⟩=>ci,λ⟨aa,ab⟩=>?_⟩,λcr h=>ci⟩;exfalso;have al:=aa k (.head _);simp only[nD,gN]at ah;rcases ah with ah | ah | ah;·omega
   ·omega
   ·have:=(hm _).1 ah;rw[zy al.1]at this;exact(rK.1 ab).2.2 k this.1 k (.head _) rfl
  |false=>
   simp only[rq,pN]at ah;obtain⟨b1,b8,eo⟩:=ah;have af:k.toNat<s.length:=by omega
   have eH:k ∉ seen:=λh=>by have:=(hm k.toNat).2 ⟨by rw[zy Z];exact h,af⟩;rw[eo]at this;cases this
   have vi:EK (s.set k.toNat true) (seen++[k]):=λj=>by
    have:=hm j;simp only[bP,iq,rL,cW,ep]at this |-;by_cases e:k.toNat=j;·subst e;rw[bY rfl,bY af];simp only[kX,true_iff];exact⟨.inr Z,af⟩
    ·rw[bK e,this];constructor
     ·rintro⟨aa,ab⟩;exact⟨.inl aa,ab⟩
     ·rintro⟨aa | aa,ab⟩
      ·exact⟨aa,ab⟩
      ·omega
   have fW:hP (seen++[k]):=rK.2 ⟨aj,am,λa a8 b ah e=>by
    simp only[ep]at ah;subst ah;subst e;exact eH a8⟩
   have aX:=YY (i:=i) (ks:=ks) (seen:=seen++[k]) (s:=s.set k.toNat true) i7 vi fW;simp only[cw];rw[ej,qJ]at aX;refine⟨aX.1.trans ⟨λ⟨aa,ab⟩=>⟨λx ae=>?_,ab⟩,λ⟨aa,ab⟩=>⟨λx ae=>aa x (.tail _ ae),ab⟩⟩,λcr h=>?_⟩
   ·rcases ez.1 ae with rfl | ae
    ·omega
    ·exact aa x ae
   ·have:=aX.2 cr h;simpa using this
def YZ:∀ {ds:List ak} {i:Nat} {seen:List Int} {s:List Bool},i+ds.length<=s.length->EK s seen->hP seen -> ((∃ cr,ho i ds s=some cr) ↔ ((∀ j (h:j<ds.length),fits ds[j] ds[j].ao.length=true/\∀ k∈ds[j].ao,0<=k/\k<i+j)/\hP (seen++eI ds)))/\∀ cr,ho i ds s=some cr->cr.length=s.length/\EK cr (seen++eI ds)
 |[],i,seen,s,hi,hm,aj=>by refine⟨⟨λ_=>⟨λj ai=>by simp at ai,by simpa[eI]using aj⟩,λ_=>⟨s,rfl⟩⟩,λcr h=>?_⟩;simp only[ho,kW]at h;subst h;exact⟨rfl,by simpa[eI]using hm⟩
 |d::ds,i,seen,s,hi,hm,aj=>by
  unfold ho;have af:=YY (i:=i) (ks:=d.ao) (by simp at hi;omega) hm aj;have eG:eI (d::ds)=d.ao++eI ds:=rfl;cases aC:fits d d.ao.length with
  |false=>refine⟨⟨λ⟨cr,h⟩=>ci,λ⟨aa,ab⟩=>?_⟩,λcr h=>ci⟩;have:=(aa 0 am).1;simp only[tp]at this;rw[aC]at this;cases this
  |true=>
   simp only[cD];cases aM:jm i d.ao s with
   |none=>
    refine⟨⟨λ⟨cr,h⟩=>ci,λ⟨aa,ab⟩=>?_⟩,λcr h=>ci⟩;exfalso;have:∃ cr,jm i d.ao s=some cr:=af.1.2 ⟨λk af=>by
     have:=(aa 0 am).2 k af;omega,by
     rw[eG,<-ej]at ab;exact(rK.1 ab).1⟩
    obtain⟨cr,h⟩:=this;rw[aM]at h;cases h
   |some s1=>
    obtain⟨akV,c4⟩:=af.2 s1 aM;obtain⟨fT,d1⟩:=af.1.1 ⟨s1,aM⟩;have aX:=YZ (ds:=ds) (i:=i+1) (seen:=seen++d.ao) (s:=s1) (by simp at hi;omega) c4 d1;rw[ej,<-eG]at aX;simp only;refine⟨aX.1.trans ⟨λ⟨aa,ab⟩=>⟨λj ai=>?_,ab⟩,λ⟨aa,ab⟩=>⟨λj ai=>?_,ab⟩⟩,λcr h=>?_⟩
    ·cases j with
     |zero=>exact⟨aC,λk af=>by have:=fT k af;omega⟩| succ j=>have:=aa j mt;refine⟨this.1,λk af=>?_⟩;have:=this.2 k af;omega
    ·have:=aa (j+1) mt;refine⟨this.1,λk af=>?_⟩;have:=this.2 k af;omega
    ·have:=aX.2 cr h;exact⟨this.1.trans akV,this.2⟩
def akW(n:Nat):EK (List.replicate n false) []:=λj=>by
 by_cases h:j<n<;>simp[bP,List.getElem?_replicate,h]
structure hg(t:bf):Prop where
 bp:0<=t.bp/\t.bp<t.ns.length
 fits:∀ j (h:j<t.ns.length),fits t.ns[j] t.ns[j].ao.length=true
 ao:∀ j (h:j<t.ns.length),∀ k∈t.ns[j].ao,0<=k/\k<j
 diff:hP (eI t.ns)
 all:∀ j:Nat,j<t.ns.length->((j:Int)∈eI t.ns ↔ (j:Int)≠t.bp)
def ix:right t=true ↔ hg t:=by
 have h:=YZ (ds:=t.ns) (i:=0) (seen:=[]) (s:=List.replicate t.ns.length false) am (akW _) (by simp[hP]);simp only[hW,dg,zx]at h;unfold right;constructor
 ·intro ag;simp only[cH,gN]at ag;obtain⟨fT,kL,nZ⟩:=ag;split at nZ
  ·rename_i s aw;obtain⟨ee,eO⟩:=h.1.1 ⟨s,aw⟩;obtain⟨c4,m2⟩:=h.2 s aw;refine⟨⟨fT,kL⟩,λj ai=>(ee j ai).1,λj ai k af=>(by have:=(ee j ai).2 k af;omega),eO,λj ai=>?_⟩;have ah:(s.getD j false == decide (((0+j:Nat):Int)=t.bp))=false:=by
    cases ah:(s.getD j false == decide (((0+j:Nat):Int)=t.bp))with
    |false=>rfl| true=>have:=Lb Z ah;rw[this]at nZ;cases nZ
   rw[dg]at ah;have hm:=m2 j;constructor;·intro ae e;have:=hm.2 ⟨ae,Z⟩;rw[this,hM e]at ah;cases ah
   ·intro bH;rw[fb bH]at ah;have:s.getD j false=true:=by
     revert ah;cases s.getD j false<;>simp
    exact(hm.1 this).1
  ·cases nZ
 ·intro ag;obtain⟨s,aw⟩:=h.1.2 ⟨λj ai=>⟨ag.fits j ai,λk af=>by have:=ag.ao j ai k af;omega⟩,ag.diff⟩;obtain⟨c4,m2⟩:=h.2 s aw;rw[aw];simp only[cH,gN];refine⟨ag.bp.1,ag.bp.2,P5 λj ai=>?_⟩;rw[dg];have a8:=ag.all j Z;have hm:=m2 j;by_cases e:(j:Int)=t.bp
  ·have aC:s.getD j false=false:=by
    cases ah:s.getD j false with
    |false=>rfl| true=>exact absurd e (a8.1 (hm.1 ah).1)
   rw[aC,hM e];rfl
  ·have:=hm.2 ⟨a8.2 e,Z⟩;rw[this,fb e];rfl
def hg.node(ag:hg t){j:Nat}(ai:j<t.ns.length){k:Int}(af:k∈(nodeAt t.ns j).ao):0<=k/\k<j:=by rw[fw ai]at af;exact ag.ao j ai k af
def hg.two(ag:hg t){i j:Nat}(hi:i<t.ns.length)(ai:j<t.ns.length)(bH:i≠j){k:Int}(aa:k∈(nodeAt t.ns i).ao)(ab:k∈(nodeAt t.ns j).ao):False:=by
 rw[fw hi]at aa;rw[fw ai]at ab;have:=(Ev.1 ag.diff).2;rw[P8]at this;rcases Nat.lt_or_gt_of_ne bH with h | h
 ·exact this i j hi ai h k aa k ab rfl
 ·exact this j i ai hi h k ab k aa rfl
def hg.Y0(ag:hg t){j:Nat}(ai:j<t.ns.length):hP (nodeAt t.ns j).ao:=by rw[fw ai];exact(Ev.1 ag.diff).1 _ (bD ai)
def EL(ns:List ak):Nat->Int->List Int
 |0,_=>[]| f+1,n=>(nodeAt ns n.toNat).ao.flatMap (EL ns f)++[n]
def ek(ns:List ak)(n:Int):List Int:=EL ns (n.toNat+1) n
def rO{α β:Type}{f g:α->List β}:∀ {l:List α},(∀ x∈l,f x=g x)->l.flatMap f=l.flatMap g
 |[],_=>rfl| a::l,h=>by rw[iS,iS,h a (.head _),rO λx ae=>h x (.tail _ ae)]
section
variable{t:bf}(ag:hg t)
include ag
theorem akX:∀ (f j:Nat),j<t.ns.length->j<f->EL t.ns f j=ek t.ns j:=by
 intro f
 induction f using Nat.strongRecOn with
 |_ f aX=>
  intro j ai aC
  match f,aC,aX with
  |f+1,aC,aX=>unfold ek;rw[EL,EL];congr 1;refine rO λk af=>?_;obtain⟨ax,aa⟩:=ag.node ai af;obtain⟨k,rfl⟩:=dZ ax;have aN:=aX f Z k Z Z;have bc:=aX j Z k Z Z;exact aN.trans bc.symm
theorem ld{j:Nat}(ai:j<t.ns.length):ek t.ns j=(nodeAt t.ns j).ao.flatMap (ek t.ns)++[(j:Int)]:=by unfold ek;rw[EL];congr 1;refine rO λk af=>?_;obtain⟨ax,aa⟩:=ag.node ai af;obtain⟨k,rfl⟩:=dZ ax;exact akX ag _ k Z Z
theorem yr:∀ (j:Nat),j<t.ns.length->∀ x∈ek t.ns j,(0<=x/\x<=j)/\(x=j\/∃ y:Nat,(y:Int)∈ek t.ns j/\y<t.ns.length/\x∈(nodeAt t.ns y).ao):=by
 intro j
 induction j using Nat.strongRecOn with
 |_ j aX=>
  intro ai x ae;rw[ld ag ai]at ae;rcases cW.1 ae with ae | ae
  ·obtain⟨k,af,ae⟩:=hB.1 ae;obtain⟨ax,aa⟩:=ag.node ai af;obtain⟨k,rfl⟩:=dZ ax;obtain⟨b,c⟩:=aX k Z Z x ae;refine⟨Z,.inr ?_⟩;rcases c with rfl | ⟨y,aF,G8,QB⟩
   ·exact⟨j,by rw[ld ag ai];simp,ai,af⟩
   ·exact⟨y,by rw[ld ag ai];exact cW.2 (.inl (hB.2 ⟨k,af,aF⟩)),G8,QB⟩
  ·simp only[ep]at ae;subst ae;exact⟨Z,.inl rfl⟩
theorem akY{j:Nat}(ai:j<t.ns.length){a b:Nat}(a8:(a:Int)∈(nodeAt t.ns j).ao)(ah:(b:Int)∈(nodeAt t.ns j).ao)(bH:a≠b):∀ (m:Nat) (x:Int),x∈ek t.ns a->x∈ek t.ns b->t.ns.length-x.toNat<=m->False:=by
 have aa:=ag.node ai a8;have ab:=ag.node ai ah;intro m
 induction m with
 |zero=>intro x QC kH hm;have:=(yr ag a Z x QC).1;omega
 |succ m aX=>
  intro x QC kH hm;obtain⟨awP,akZ⟩:=yr ag a Z x QC;obtain⟨awQ,Y1⟩:=yr ag b Z x kH;rcases akZ with QD | ⟨QE,Y2,QF,QG⟩
  ·rcases Y1 with Lt | ⟨QH,g',QI,QJ⟩
   ·omega
   ·have:=(yr ag b Z QH g').1;subst QD;exact ag.two ai QI Z a8 QJ
  ·rcases Y1 with Lt | ⟨QH,g',QI,QJ⟩
   ·have:=(yr ag a Z QE Y2).1;subst Lt;exact ag.two ai QF Z ah QG
   ·by_cases e:QE=QH
    ·subst e;have:=ag.node QF QG;exact aX QE Y2 g' Z
    ·exact ag.two QF QI e QG QJ
theorem HX:∀ (j:Nat),j<t.ns.length->hP (ek t.ns j):=by
 intro j
 induction j using Nat.strongRecOn with
 |_ j aX=>
  intro ai;rw[ld ag ai];have b3:=ag.Y0 ai;refine rK.2 ⟨Ev.2 ⟨λk af=>?_,?_⟩,am,λx ae y aF=>?_⟩;·obtain⟨ax,aa⟩:=ag.node ai af;obtain⟨k,rfl⟩:=dZ ax;exact aX k Z Z
  ·refine b3.imp_of_mem ?_;intro a b a8 ah bH x ae y aF e;subst e;obtain⟨ax,aa⟩:=ag.node ai a8;obtain⟨ab,al⟩:=ag.node ai ah;obtain⟨a,rfl⟩:=dZ ax;obtain⟨b,rfl⟩:=dZ ab;exact akY ag ai a8 ah (by intro e;subst e;exact bH rfl) _ x ae aF (cf _)
  ·simp only[ep]at aF;subst aF;obtain⟨k,af,ae⟩:=hB.1 ae;obtain⟨ax,aa⟩:=ag.node ai af;obtain⟨k,rfl⟩:=dZ ax;have:=(yr ag k Z x ae).1;omega
def p2(ns:List ak)(l:List Int):Prop:=∀ i (h:i<l.length),∀ k∈(nodeAt ns (l[i]).toNat).ao,k∈l.take i
omit ag in
theorem p2.append{l m:List Int}(h:p2 ns l)(bu:p2 ns m):p2 ns (l++m):=by
 intro i hi k af;by_cases ay:i<l.length
 ·rw[wE ay]at af;rw[BJ Z];exact h i ay k af
 ·rw[Cl Z]at af;have:=bu (i-l.length) (by simp at hi;omega) k af;rw[HH,fE Z];exact cW.2 (.inr this)
omit ag in
theorem p2.flat{ns:List ak}{f:Int->List Int}:∀ {ks:List Int},(∀ k∈ks,p2 ns (f k))->p2 ns (ks.flatMap f)
 |[],_=>λi h=>by simp at h
 |k::ks,h=>by rw[iS];exact(h k (.head _)).append (p2.flat λx ae=>h x (.tail _ ae))
theorem Y3{j:Nat}(ai:j<t.ns.length):(j:Int)∈ek t.ns j:=by rw[ld ag ai];simp
theorem QK:∀ (j:Nat),j<t.ns.length->p2 t.ns (ek t.ns j):=by
 intro j
 induction j using Nat.strongRecOn with
 |_ j aX=>
  intro ai;have af:∀ k∈(nodeAt t.ns j).ao,∃ q:Nat,k=q/\q<j:=λk af=>by obtain⟨ax,aa⟩:=ag.node ai af;exact⟨k.toNat,Z,Z⟩
  have aa:p2 t.ns ((nodeAt t.ns j).ao.flatMap (ek t.ns)):=p2.flat λk hQ=>by obtain⟨q,rfl,aM⟩:=af k hQ;exact aX q aM Z
  rw[ld ag ai];intro i hi k ot;by_cases ay:i<((nodeAt t.ns j).ao.flatMap (ek t.ns)).length;·rw[wE ay]at ot;rw[BJ Z];exact aa i ay k ot
  ·rw[Cl Z]at ot;have e:i-((nodeAt t.ns j).ao.flatMap (ek t.ns)).length=0:=by simp only[ct,ey,hl]at hi;omega
   simp only[e,tp,h2]at ot;rw[HH,fE Z];refine cW.2 (.inl (hB.2 ⟨k,ot,?_⟩));obtain⟨q,rfl,aM⟩:=af k ot;exact Y3 ag Z
theorem Y4{j:Nat}(ai:j<t.ns.length):(ek t.ns j).getLast?=some (j:Int):=by rw[ld ag ai];simp
theorem QL:∀ (j:Nat),j<t.ns.length->(ek t.ns j).length=iF t.ns j:=by
 intro j
 induction j using Nat.strongRecOn with
 |_ j aX=>
  intro ai;rw[ld ag ai,z' (ix.2 ag) ai,<-fw ai];simp only[ct,yg,ey,hl,fC];have:(nodeAt t.ns j).ao.map (λa=>(ek t.ns a).length)=(nodeAt t.ns j).ao.map (iF t.ns):=fX λk af=>by obtain⟨ax,aa⟩:=ag.node ai af;obtain⟨k,rfl⟩:=dZ ax;exact aX k Z Z
  rw[this];omega
theorem Y5:∀ (f:Nat) (todo b:List Int),(∀ k∈todo,0<=k/\k<t.ns.length)->(todo.map λn=>(ek t.ns n).length).sum<=f->wP t.ns f todo b=b++todo.reverse.flatMap (λn=>(ek t.ns n).reverse)
 |0,todo,b,an,aC=>by
  rcases xS todo with h | ⟨r,p,h⟩;·subst h;simp[wP]
  ·subst h;obtain⟨ax,aa⟩:=an p am;obtain⟨p,rfl⟩:=dZ ax;have:=congrArg List.length (ld ag (j:=p) Z);simp at aC this;have ab:(ek t.ns (p:Int)).length=0:=by rw[aC.2];rfl
   omega
 |f+1,todo,b,an,aC=>by
  rcases xS todo with h | ⟨r,p,h⟩;·subst h;rw[Qb];simp
  ·rw[List.concat_eq_append]at h;subst h;obtain⟨ax,aa⟩:=an p am;obtain⟨p,rfl⟩:=dZ ax;have aK:p<t.ns.length:=by omega
   have he:=ld ag aK;have ay:=congrArg List.length he;simp only[ct,yg,ey,hl]at ay;have jS:∀ k∈r++(nodeAt t.ns p).ao,0<=k/\k<t.ns.length:=λk af=>by
    rcases cW.1 af with af | af;·exact an k ai'
    ·have:=ag.node aK af;omega
   have to:((r++(nodeAt t.ns p).ao).map λn=>(ek t.ns n).length).sum<=f:=by simp only[cJ,pW,ch,hd,hx,x5]at aC |-;omega
   rw[Qc,h2,Y5 f _ _ jS to];rw[yh,yh,fL,fL,zU,o9,he,yh,ej];congr 1;rw[<-ej];congr 1;simp[List.reverse_flatMap];rfl
theorem ak0{j:Nat}(ai:j<t.ns.length):(Ab t.ns j).reverse=ek t.ns j:=by unfold Ab;have aa:=QL ag j ai;have ab:=Aa (ix.2 ag) t.ns.length j ai Z;rw[Y5 ag _ _ _ (λk af=>by simp only[ep]at af;omega) d7];simp
def kN(rb:List Int)(k:Int):Int:=(rb.idxOf k:Nat)
def nl(ns:List ak)(rb:List Int)(b:Int):ak:=(nodeAt ns b.toNat).dJ ((nodeAt ns b.toNat).ao.map (kN rb))
omit ag in
theorem hP.idx{l:List Int}(h:hP l){i:Nat}(hi:i<l.length):l.idxOf l[i]=i:=by
 have aa:=Ld (bD hi);have ab:=Lg aa;have al:=P8.1 h;rcases Nat.lt_trichotomy (l.idxOf l[i]) i with aL | aL | aL
 ·exact absurd ab (al _ _ aa hi aL)
 ·exact aL
 ·exact absurd ab.symm (al _ _ hi aa aL)
omit ag in
theorem hP.nodup{l:List Int}(h:hP l){i j:Nat}(hi:i<l.length)(ai:j<l.length)(e:l[i]=l[j]):i=j:=by rw[<-h.idx hi,<-h.idx ai,e]
omit ag in
theorem sub_fold{rb:List Int}(aj:hP rb)(aK:p2 t.ns rb)(an:∀ k∈rb,0<=k/\k<t.ns.length):∀ i,i<=rb.length->∃ P:List Int,(rb.take i).foldl (Lk t.ns) (List.replicate t.ns.length 0,[])=(P,(rb.take i).map (nl t.ns rb))/\P.length=t.ns.length/\∀ q (h:q<rb.length),q<i->P.getD rb[q].toNat 0=(q:Int)
 |0,_=>⟨List.replicate t.ns.length 0,rfl,am,λq h aM=>Z⟩
 |i+1,hi=>by
  obtain⟨P,aa,ab,al⟩:=sub_fold aj aK an i Z;have dP:i<rb.length:=by omega
  have awR:=an _ (bD dP);have key:∀ q (h:q<rb.length),q<i+1->(P.set rb[i].toNat (i:Nat)).getD rb[q].toNat 0=(q:Int):=λq h aM=>by
   have VV:=an _ (bD h);by_cases e:q=i;·subst e;simp[bP,iq,show rb[q].toNat<P.length by omega]
   ·have bH:rb[i].toNat≠rb[q].toNat:=λcY=>e (aj.nodup h dP Z);have:=al q h Z;simp only[bP,iq]at this |-;rw[bK bH];exact this
  refine⟨P.set rb[i].toNat (i:Nat),?_,In,key⟩;rw[gi dP,sL,aa,cJ];simp only[kw,Ez,Lk,bA,fF,pE (Nat.le_of_lt dP),ch,hd];have:nl t.ns rb rb[i]=(nodeAt t.ns rb[i].toNat).dJ ((nodeAt t.ns rb[i].toNat).ao.map λk=>(P.set rb[i].toNat (i:Nat)).getD k.toNat 0):=by unfold nl;congr 1;refine fX λk af=>?_;have hm:=aK i dP k af;obtain⟨q,aM,e⟩:=hL hm;rw[fF]at aM;rw[Qa]at e;rw[<-e,key q Z Z];unfold kN;rw[aj.idx]
  rw[this]
theorem CB{j:Nat}(ai:j<t.ns.length):tL t.ns j=(ek t.ns j).map (nl t.ns (ek t.ns j)):=by obtain⟨P,aa,-,-⟩:=sub_fold (HX ag j ai) (QK ag j ai) (λk af=>by have:=(yr ag j ai k af).1;omega) (ek t.ns j).length (cf _);rw[DZ]at aa;unfold tL;rw[ak0 ag ai,aa]
theorem ak1{j:Nat}(ai:j<t.ns.length):hg (jM (tL t.ns j)):=by
 have aj:=HX ag j ai;have aK:=QK ag j ai;have hm:=yr ag j ai;have EM:=Y4 ag ai;rw[CB ag ai];generalize ek t.ns j=rb at *;have c0:0<rb.length:=by
  cases rb with
  |nil=>simp at EM| cons a l=>simp
 have EN:rb[rb.length-1]=(j:Int):=by rw[Yc,du Z]at EM;exact eX EM
 have aE:∀ i (h:i<rb.length),rb[i].toNat<t.ns.length:=λi h=>by have:=(hm _ (bD h)).1;omega
 have kB:∀ i (h:i<rb.length),∀ k∈(nodeAt t.ns rb[i].toNat).ao,k∈rb/\rb.idxOf k<i:=λi h k af=>by have:=aK i h k af;refine⟨uW this,?_⟩;obtain⟨q,aM,e⟩:=hL this;rw[fF]at aM;rw[Qa]at e;rw[<-e,aj.idx];omega
 have B':∀ a∈rb,∀ b∈rb,kN rb a=kN rb b->a=b:=λa a8 b ah e=>by
  unfold kN at e;have cY:rb.idxOf a=rb.idxOf b:=by omega
  rw[<-Lg (Ld a8),<-Lg (Ld ah)];simp only[cY]
 have eG:eI (rb.map (nl t.ns rb))=rb.flatMap λb=>(nodeAt t.ns b.toNat).ao.map (kN rb):=by unfold eI;rw[yj];rfl
 have fx:∀ b∈rb,∀ k∈(nodeAt t.ns b.toNat).ao,k∈rb:=λb ah k af=>by obtain⟨i,hi,rfl⟩:=hL ah;exact(kB i hi k af).1
 refine⟨by simp[jM];omega,λi hi=>?_,λi hi k af=>?_,?_,λi hi=>?_⟩
 ·have ck:i<rb.length:=by simpa[jM]using hi
  have aC:=ag.fits _ (aE i ck);rw[<-fw (aE i ck)]at aC;simp only[jM,gl];have e:(nl t.ns rb rb[i]).ao.length=(nodeAt t.ns rb[i].toNat).ao.length:=by show((nodeAt t.ns rb[i].toNat).ao.map (kN rb)).length=_;rw[bA]
  rw[e];exact aC
 ·have ck:i<rb.length:=by simpa[jM]using hi
  simp only[jM,gl]at af;obtain⟨q,aM,rfl⟩:=c6.1 af;have:=(kB i ck q aM).2;unfold kN;omega
 ·show hP (eI (rb.map (nl t.ns rb)));rw[eG];refine Ev.2 ⟨λb ah=>?_,?_⟩
  ·have g2:=(hm b ah).1;refine Cp.2 ((ag.Y0 (j:=b.toNat) Z).imp_of_mem ?_);intro x y ae aF bH e;exact bH (B' x (fx b ah x ae) y (fx b ah y aF) e)
  ·refine aj.imp_of_mem ?_;intro a b a8 ah bH x ae y aF e;obtain⟨p,u',rfl⟩:=c6.1 ae;obtain⟨q,rJ,rfl⟩:=c6.1 aF;have aN:=B' p (fx a a8 p u') q (fx b ah q rJ) e;subst aN;have sS:=(hm a a8).1;have g2:=(hm b ah).1;exact ag.two (i:=a.toNat) (j:=b.toNat) Z Z Z u' rJ
 ·have ck:i<rb.length:=by simpa[jM]using hi
  show(i:Int)∈eI (rb.map (nl t.ns rb)) ↔ (i:Int)≠((rb.map (nl t.ns rb)).length:Int)-1;rw[eG,bA];constructor
  ·intro h e;obtain⟨b,ah,h⟩:=hB.1 h;obtain⟨k,af,bc⟩:=c6.1 h;have ak2:=fx b ah k af;have cy:k=rb[i]:=by
    rw[<-Lg (Ld ak2)];unfold kN at bc;have:rb.idxOf k=i:=by omega
    simp only[this]
   have dX:i=rb.length-1:=by omega
   subst dX;rw[EN]at cy;have g2:=(hm b ah).1;have:=ag.node (j:=b.toNat) Z af;omega
  ·intro h;obtain⟨ah,ar⟩:=hm _ (bD ck);rcases ar with e | ⟨y,aF,G8,Lu⟩
   ·have:=aj.nodup ck (show rb.length-1<rb.length by omega) (e.trans EN.symm);omega
   ·refine hB.2 ⟨y,aF,c6.2 ⟨rb[i],by simpa using Lu,?_⟩⟩;unfold kN;rw[aj.idx]
end
structure a5 where
 a:BitVec 64
 b:BitVec 64
 c:BitVec 64
 d:BitVec 64
 deriving DecidableEq
def a5.zero:a5:=⟨0,0,0,0⟩
def a5.or(x y:a5):a5:=⟨x.a ||| y.a,x.b ||| y.b,x.c ||| y.c,x.d ||| y.d⟩
def a5.and(x y:a5):a5:=⟨x.a &&& y.a,x.b &&& y.b,x.c &&& y.c,x.d &&& y.d⟩
def a5.sub(x y:a5):Bool:=decide (x.and y=x)
def a5.cells(x:a5):List Value:=[.int .u64 x.a.toNat,.int .u64 x.b.toNat,.int .u64 x.c.toNat,.int .u64 x.d.toNat]
def a5.val(x:a5):Value:=.agg #[.int .u64 x.a.toNat,.int .u64 x.b.toNat,.int .u64 x.c.toNat,.int .u64 x.d.toNat]
structure lf where
 w:a5
 f:Bool
 deriving DecidableEq
def lf.cells(x:lf):List Value:=[.int .u64 x.w.a.toNat,.int .u64 x.w.b.toNat,.int .u64 x.w.c.toNat,.int .u64 x.w.d.toNat,.bool x.f]
def QM:lf:=⟨.zero,false⟩
def a5.ext'{x y:a5}(aa:x.a=y.a)(ab:x.b=y.b)(al:x.c=y.c)(aL:x.d=y.d):x=y:=by obtain⟨a,b,c,d⟩:=x;obtain⟨bT,il,c',d'⟩:=y;simp only at aa ab al aL;subst aa ab al aL;rfl
def a5.or_assoc(x y z:a5):(x.or y).or z=x.or (y.or z):=by simp only[a5.or,BitVec.or_assoc]
def a5.or_comm(x y:a5):x.or y=y.or x:=by simp only[a5.or,BitVec.or_comm]
def a5.or_self(x:a5):x.or x=x:=by simp[a5.or]
def a5.zero_or(x:a5):a5.zero.or x=x:=by simp[a5.or,a5.zero]
def Ai{x y:BitVec 64}:x &&& y=x ↔ x ||| y=y:=by
 constructor
 ·intro h;apply BitVec.eq_of_getElem_eq;intro i hi;have:=congrArg (λw:BitVec 64=>w[i]) h;simp only[BitVec.getElem_and,BitVec.getElem_or]at this |-;revert this;cases x[i]<;>cases y[i]<;>simp
 ·intro h;apply BitVec.eq_of_getElem_eq;intro i hi;have:=congrArg (λw:BitVec 64=>w[i]) h;simp only[BitVec.getElem_and,BitVec.getElem_or]at this |-;revert this;cases x[i]<;>cases y[i]<;>simp
def a5.Lv{x y:a5}:x.sub y=true ↔ x.or y=y:=by
 unfold a5.sub;rw[gN];constructor
 ·intro h;have aa:=congrArg a5.a h;have ab:=congrArg a5.b h;have al:=congrArg a5.c h;have aL:=congrArg a5.d h;exact a5.ext' (Ai.1 aa) (Ai.1 ab) (Ai.1 al) (Ai.1 aL)
 ·intro h;have aa:=congrArg a5.a h;have ab:=congrArg a5.b h;have al:=congrArg a5.c h;have aL:=congrArg a5.d h;exact a5.ext' (Ai.2 aa) (Ai.2 ab) (Ai.2 al) (Ai.2 aL)
def a5.ak3(x:a5):x.sub x=true:=a5.Lv.2 x.or_self
def a5.ak4{x y z:a5}(h:x.sub y=true)(bu:y.sub z=true):x.sub z=true:=by rw[a5.Lv]at h bu |-;rw[<-bu,<-a5.or_assoc,h]
def a5.ak5{x y:a5}(h:x.sub y=true)(bu:y.sub x=true):x=y:=by rw[a5.Lv]at h bu;exact bu.symm.trans ((a5.or_comm y x).trans h)
def a5.zero_sub(x:a5):a5.zero.sub x=true:=by rw[a5.Lv,a5.zero_or]
structure lf.le(a b:lf):Prop where
 w:a.w.sub b.w=true
 f:a.f=true->b.f=true
def lf.le_refl(a:lf):a.le a:=⟨a5.ak3 _,id⟩
def lf.le.trans{a b c:lf}(h:a.le b)(bu:b.le c):a.le c:=⟨a5.ak4 h.w bu.w,λx=>bu.f (h.f x)⟩
theorem lf.le.antisymm{a b:lf}(h:a.le b)(bu:b.le a):a=b:=by
 have aa:=a5.ak5 h.w bu.w;obtain⟨awS,ak6⟩:=a;obtain⟨awT,tW⟩:=b;simp only at aa;subst aa;have aC:=h.f;have to:=bu.f;cases ak6<;>cases tW<;>simp_all
def lf.qL(a:lf):QM.le a:=⟨a5.zero_sub _,λh=>ci⟩
def CC(x:BitVec 64):BitVec.ofInt 64 (x.toNat:Int)=x:=by rw[BitVec.ofInt_natCast,BitVec.ofNat_toNat,BitVec.setWidth_eq]
def QN(x:BitVec 64):IntKind.u64.wrap (x.toNat:Int)=(x.toNat:Int):=by have:=x.isLt;unfold IntKind.wrap;simp only[IntKind.bits,IntKind.signed];simp;omega
def EO{x y:BitVec 64}:((x.toNat:Int) == (y.toNat:Int))=decide (x=y):=by rw[my];simp[BitVec.toNat_eq];omega
def a5.lZ(x y:a5):(((x.a.toNat:Int) == y.a.toNat)&&(((x.b.toNat:Int) == y.b.toNat)&&(((x.c.toNat:Int) == y.c.toNat)&&((x.d.toNat:Int) == y.d.toNat))))=decide (x=y):=by obtain⟨a,b,c,d⟩:=x;obtain⟨bT,il,c',d'⟩:=y;rw[EO,EO,EO,EO,my];simp[and_assoc]
def ak7{x:Int}(h:0<=x/\x<18446744073709551616):∃ w:BitVec 64,x=(w.toNat:Int):=by refine⟨BitVec.ofNat 64 x.toNat,?_⟩;rw[Co,z9 Z];omega
structure QO(α:Type) where
 le:α->α->Prop
 qL:α
 refl:∀ a,le a a
 trans:∀ {a b c},le a b->le b c->le a c
 Y6:∀ {a b},le a b->le b a->a=b
 low:∀ a,le qL a
structure CD{α:Type}(O:QO α)(l m:List α):Prop where
 len:l.length=m.length
 at':∀ i,O.le (l.getD i O.qL) (m.getD i O.qL)
section
variable{α:Type}{O:QO α}
def CD.trans{a b c:List α}(h:CD O a b)(bu:CD O b c):CD O a c:=⟨h.len.trans bu.len,λi=>O.trans (h.at' i) (bu.at' i)⟩
def CD.of{a b:List α}(ay:a.length=b.length)(h:∀ i,i<a.length->O.le (a.getD i O.qL) (b.getD i O.qL)):CD O a b:=⟨ay,λi=>by
 by_cases hi:i<a.length
 ·exact h i hi
 ·have e:a.getD i O.qL=O.qL:=by simp[bP,rp (Nat.le_of_not_lt hi)]
  rw[e];exact O.low _⟩
section
end
end
theorem Y7{α:Type}{p q:α->Bool}:∀ {l:List α},(∀ x∈l,p x=true->q x=true)->l.countP q<=l.countP p->∀ x∈l,q x=true->p x=true
 |[],_,_,x,ae,_=>by cases ae
 |y::l,h,bo,x,ae,aM=>by
  have hm:=List.countP_mono_left (p:=p) (q:=q) (l:=l) (λx ae=>h x (.tail _ ae));rw[List.countP_cons,List.countP_cons]at bo;have aF:=h y (.head _);have key:(q y=true->p y=true)/\l.countP q<=l.countP p:=by cases aK:p y<;>cases awU:q y<;>simp_all<;>omega
  rcases ez.1 ae with rfl | ae;·exact key.1 aM
  ·exact Y7 (λx ae=>h x (.tail _ ae)) key.2 x ae aM
def HY(x:BitVec 64):Nat:=(List.range 64).countP λi=>!x.getLsbD i
theorem ak8{x y:BitVec 64}(h:x &&& y=x):HY y<=HY x/\(HY x<=HY y->x=y):=by
 have ah:∀ i,x.getLsbD i=true->y.getLsbD i=true:=λi ae=>by have:=congrArg (λw:BitVec 64=>w.getLsbD i) h;simp only[Ew,ae,m5]at this;exact this
 have aK:∀ i∈List.range 64,(!y.getLsbD i)=true->(!x.getLsbD i)=true:=λi _ hi=>by
  have aa:=ah i;cases ae:x.getLsbD i with
  |false=>rfl| true=>rw[aa ae]at hi;cases hi
 refine⟨List.countP_mono_left aK,λbo=>?_⟩;have:=Y7 aK bo;apply HG;intro i hi;have aa:=ah i;have ab:=this i (kx.2 hi);cases ae:x.getLsbD i<;>cases aF:y.getLsbD i<;>simp_all
def Y8:QO lf:=⟨lf.le,QM,lf.le_refl,λh bu=>h.trans bu,λh bu=>h.antisymm bu,lf.qL⟩
def a5.at(w:a5)(i:Nat):BitVec 64:=bif decide (i=0)then w.a else bif decide (i=1)then w.b else bif decide (i=2)then w.c else w.d
def a5.one(i:Nat)(x:BitVec 64):a5:=⟨bif decide (i=0)then x else 0,bif decide (i=1)then x else 0,bif decide (i=2)then x else 0,bif decide (i=3)then x else 0⟩
def j0(b:UInt8):a5:=.one (b.toNat/64) (1#64 <<< (b.toNat%64))
def nn(l:List UInt8):a5:=l.foldl (λw b=>w.or (j0 b)) .zero
def ak.ws(d:ak):a5:=⟨BitVec.ofInt 64 d.b0,BitVec.ofInt 64 d.s1,BitVec.ofInt 64 d.s2,BitVec.ofInt 64 d.cg⟩
def awV.map{f g:α->lf}{l:List α}(h:∀ x∈l,(f x).le (g x)):CD Y8 (l.map f) (l.map g):=.of am λi hi=>by
 have ck:i<l.length:=by simpa using hi
 have:=h _ (bD ck);simpa[bP,ck]using(show Y8.le _ _ from this)
def a5.has(w:a5)(n:Nat):Bool:=(w.at (n/64)).getLsbD (n%64)
def a5.PL(w:a5):w.at 0=w.a:=rfl
def a5.qF(w:a5):w.at 1=w.b:=rfl
def a5.El(w:a5):w.at 2=w.c:=rfl
def a5.ak9(w:a5):w.at 3=w.d:=rfl
def a5.Y9{x y:a5}(h:∀ n,n<256->x.has n=y.has n):x=y:=by
 have key:∀ j,j<4->x.at j=y.at j:=λj ai=>by apply HG;intro i hi;have:=h (j*64+i) Z;unfold a5.has at this;rwa [show(j*64+i)/64=j by omega,show(j*64+i)%64=i by omega]at this
 exact a5.ext' (key 0 bv) (key 1 bv) (key 2 bv) (key 3 bv)
def a5.ala(x y:a5)(j:Nat):(x.or y).at j=x.at j ||| y.at j:=by
 unfold a5.at
 cases decide (j=0)<;>cases decide (j=1)<;>cases decide (j=2)<;>rfl
def a5.QP(x y:a5)(n:Nat):(x.or y).has n=(x.has n||y.has n):=by unfold a5.has;rw[a5.ala,z8]
def a5.alb(n:Nat):a5.zero.has n=false:=by
 unfold a5.has a5.at a5.zero;cases decide (n/64=0)<;>cases decide (n/64=1)<;>cases decide (n/64=2)<;>simp
def a5.at_one{i:Nat}(x:BitVec 64){j:Nat}(ai:j<4):(a5.one i x).at j=if j=i then x else 0:=by
 unfold a5.at a5.one;rcases(by omega:j=0\/j=1\/j=2\/j=3)with rfl | rfl | rfl | rfl
 ·by_cases h:i=0<;>simp[h];omega
 ·by_cases h:i=1<;>simp[h];omega
 ·by_cases h:i=2<;>simp[h];omega
 ·by_cases h:i=3<;>simp[h];omega
def Y'(k i:Nat)(af:k<64)(hi:i<64):(1#64 <<< k).getLsbD i=decide (i=k):=by rw[BitVec.getLsbD_shiftLeft,my];simp only[hi,HI,m5,cH,vX,pN,gN,BitVec.getLsbD_one];omega
def QQ(b:UInt8)(h:n<256):(j0 b).has n=decide (n=b.toNat):=by
 have ah:=b.toNat_lt;unfold a5.has j0;rw[a5.at_one _ Z];by_cases e:n/64=b.toNat/64
 ·rw[bY e,Y' _ _ Z Z,my,gN,gN];omega
 ·rw[bK e];have:¬ n=b.toNat:=λh=>e (by rw[h]);simp[this]
structure EP(x:a0)(k:lf):Prop where
 z:x.z=true->k.f=true
 s:x.s=true->k.w≠.zero
def EP.none(k:lf):EP cn k:=⟨λh=>ci,λh=>ci⟩
inductive Aj:List a0->List lf->Prop
 |nil:Aj [] []| cons {x k l m} (h:EP x k) (t:Aj l m):Aj (x::l) (k::m)
def Aj.head{l:List a0}{m:List lf}(h:Aj l m):EP (l.headD cn) (m.headD QM):=by
 cases h with
 |nil=>exact EP.none _| cons h t=>exact h
def Aj.map{α:Type}{f:α->a0}{g:α->lf}:∀ {l:List α},(∀ x∈l,EP (f x) (g x))->Aj (l.map f) (l.map g)
 |[],_=>.nil| x::l,h=>.cons (h x (.head _)) (Aj.map λy aF=>h y (.tail _ aF))
structure lg(t:bf)(k:Int)(be:bf):Prop where
 aW:be.ns.map ak.aW=tL t.ns k
 bp:be.bp=(be.ns.length:Int)-1
def Za(ag:right t=true){j:Nat}(ai:j<t.ns.length)(h:lg t j be):right be=true:=by
 have aa:=ix.2 (ak1 (ix.1 ag) ai);have ay:=congrArg List.length h.aW;rw[bA]at ay;have ab:right be.aW=right (jM (tL t.ns j)):=by unfold right bf.aW jM;simp only[h.aW,h.bp,ay]
 rw[tV]at ab;rw[ab,aa]
def QR(ag:right t=true){j:Nat}(ai:j<t.ns.length)(h:lg t j be):be.ns.length=iF t.ns j:=by have ay:=congrArg List.length h.aW;rw[bA,CB (ix.1 ag) ai,bA,QL (ix.1 ag) j ai]at ay;exact ay
def alc(ag:right t=true){j:Nat}(ai:j<t.ns.length)(h:lg t j be):∀ d∈be.ns,∃ d0∈t.ns,∃ ks:List Int,d.aW=d0.dJ ks/\ks.length=d0.ao.length:=λd aj=>by have aa:d.aW∈be.ns.map ak.aW:=c6.2 ⟨d,aj,rfl⟩;rw[h.aW,CB (ix.1 ag) ai]at aa;obtain⟨b,ah,e⟩:=c6.1 aa;have hm:=(yr (ix.1 ag) j ai b ah).1;refine⟨t.ns[b.toNat]' Z,bD _,(t.ns[b.toNat]' Z).ao.map (kN (ek t.ns j)),?_,bA _⟩;rw[<-e,nl,fw Z]
def kp:List (a0×List Nat)->List Nat
 |[]=>[]| x::xs=>x.2++bif x.1.z then kp xs else []
def lM(pl:List (ByteArray×Int))(d:ak)(xs:List (a0×List Nat)):List Nat:=
 bif decide (d.k=3)then [((eU d.t pl).getD 0).toNat]else
 bif decide (d.k=4)then kp xs else
 bif decide (d.k=6)&&decide (d.hi=0)then []else xs.flatMap (·.2)
def rP(pl:List (ByteArray×Int))(F:List a0)(d:ak)(xs:List (a0×List Nat)):a0×List Nat:=
 (gL d (xs.map (·.1)++bif decide (d.k=3)then [F.getD ((eU d.t pl).getD 0).toNat cn]else []),lM pl d xs)
def gF(pl:List (ByteArray×Int))(F:List a0)(ns:List ak)(j:Int):a0×List Nat:=mH (cn,[]) (λd g=>rP pl F d (d.ao.map g)) ns j
def QS{F:List a0}(ag:right t=true){j:Nat}(ai:j<t.ns.length):gF pl F t.ns j=rP pl F t.ns[j] (t.ns[j].ao.map (gF pl F t.ns)):=
 D9 (λd g et h=>by rw[fX h]) ag ai
def ald(pl:List (ByteArray×Int))(F:List a0)(ns:List ak)(j:Int):gF pl F (ns.map ak.aW) j=gF pl F ns j:=by unfold gF mH;rw[HW (f:=λd g=>rP pl F d (d.ao.map g)) (g:=λd g=>rP pl F d (d.ao.map g)) (λd q=>rfl)]
def Zb(a7:List (a0×List Nat))(i:Nat):(a7.getD i (cn,[])).1=(a7.map (·.1)).getD i cn:=by
 simp only[bP,jJ];cases a7[i]?<;>rfl
def Zc(pl:List (ByteArray×Int))(F:List a0):∀ (ds:List ak) (a7:List (a0×List Nat)),(gS (cn,[]) (λd g=>rP pl F d (d.ao.map g)) ds a7).map (·.1)=eD pl F ds (a7.map (·.1))
 |[],a7=>rfl
 |d::ds,a7=>by
  have aN:(rP pl F d (d.ao.map λk=>a7.getD k.toNat (cn,[]))).1=gL d (sP pl F (a7.map (·.1)) d):=by unfold rP sP;simp only[gE,Function.comp_def,Zb]
  have aa:=Zc pl F ds (a7++[rP pl F d (d.ao.map λk=>a7.getD k.toNat (cn,[]))]);rw[cJ,ch,hd,aN]at aa;rw[gS,aa,eD]
def QT(pl:List (ByteArray×Int))(F:List a0)(ns:List ak)(j:Int):(gF pl F ns j).1=(eD pl F ns []).getD j.toNat cn:=by have h:=Zc pl F ns [];unfold gF mH;rw[Zb,h];rfl
abbrev ef:=BitVec 64
def lN(k:Nat):ef:=1#64 <<< k
def Lw{k i:Nat}(hi:i<64):(lN k).getLsbD i=decide (i=k):=by
 unfold lN;rw[BitVec.getLsbD_shiftLeft];simp only[hi,HI,m5];by_cases h:i<k
 ·have bH:¬ i=k:=by omega
  simp[h,bH]
 ·simp only[h,decide_false,Bool.not_false,m5];by_cases e:i=k
  ·subst e;simp
  ·rw[fb e];have ab:0<i-k:=by omega
   rw[BitVec.getLsbD_one];simp;omega
def ale(l:List Nat):∀ (w:ef) {i:Nat},i<64->(l.foldl (λw k=>w ||| lN k) w).getLsbD i=(w.getLsbD i||l.contains i):=by
 induction l with
 |nil=>intro w i hi;simp| cons k l aX=>intro w i hi;rw[kw,aX _ hi,z8,Lw hi,List.contains_cons,Bool.or_assoc];rfl
def np(m:List ef):Nat->Nat->ef->ef
 |_,0,w=>w| k,f+1,w=>np m (k+1) f (bif w.getLsbD k then w ||| m.getD k 0 else w)
def rQ(m:List ef):List ef:=(List.range 64).map λi=>np m 0 64 (m.getD i 0)
inductive qM(m:List ef):Nat->Nat->Prop
 |one{i k}(af:k<64)(h:(m.getD i 0).getLsbD k=true):qM m i k| step {i j k} (h:(m.getD i 0).getLsbD j=true) (ai:j<64) (t:qM m j k):qM m i k
def qM.trans{m:List ef}{i j k:Nat}(h:qM m i j)(bu:qM m j k):qM m i k:=by
 induction h with
 |one af h=>exact .step h af bu| step h ai t aX=>exact .step h ai (aX bu)
def j1(x y:ef):Prop:=∀ i,i<64->x.getLsbD i=true->y.getLsbD i=true
def j1.refl(x:ef):j1 x x:=λ_ _ h=>h
def j1.trans{x y z:ef}(h:j1 x y)(bu:j1 y z):j1 x z:=λi hi ae=>bu i hi (h i hi ae)
def j1.or(x y:ef):j1 x (x ||| y):=λi hi h=>by rw[z8,h];rfl
def j1.or'(x y:ef):j1 y (x ||| y):=λi hi h=>by rw[z8,h,Li]
theorem j1.Y6{x y:ef}(h:j1 x y)(bu:j1 y x):x=y:=HG λi hi=>by
 have aa:=h i hi;have ab:=bu i hi;cases ae:x.getLsbD i<;>cases aF:y.getLsbD i<;>simp_all
theorem j1.and{x y:ef}(h:j1 x y):x &&& y=x:=HG λi hi=>by
 have aa:=h i hi;rw[Ew];cases ae:x.getLsbD i<;>simp_all
def HZ(m:List ef):∀ (f k:Nat) (w:ef),j1 w (np m k f w)
 |0,k,w=>j1.refl w
 |f+1,k,w=>by
  rw[np];cases w.getLsbD k with
  |true=>exact(j1.or _ _).trans (HZ m f (k+1) _)| false=>exact HZ m f (k+1) _
def QU{m:List ef}{P:Nat->Prop}(hm:∀ j,P j->∀ x,x<64->(m.getD j 0).getLsbD x=true->P x):∀ (f k:Nat) (w:ef),k+f<=64->(∀ x,x<64->w.getLsbD x=true->P x)->∀ x,x<64->(np m k f w).getLsbD x=true->P x
 |0,k,w,_,hw=>hw
 |f+1,k,w,af,hw=>by
  rw[np];cases ah:w.getLsbD k with
  |true=>
   refine QU hm f (k+1) _ Z λx ae h=>?_;rw[cD,z8,nD]at h;rcases h with h | h;·exact hw x ae h
   ·exact hm k (hw k Z ah) x ae h
  |false=>exact QU hm f (k+1) _ Z hw
def QV{m:List ef}:∀ (f k:Nat) {w:ef},np m k f w=w->∀ j,k<=j->j<k+f->w.getLsbD j=true->j1 (m.getD j 0) w
 |0,k,w,_,j,aa,ab,_=>by omega
 |f+1,k,w,h,j,aa,ab,ai=>by
  rw[np]at h;cases ah:w.getLsbD k with
  |true=>
   rw[ah,cD]at h;have e:w ||| m.getD k 0=w:=by refine j1.Y6 ?_ (j1.or _ _);have:=HZ m f (k+1) (w ||| m.getD k 0);rwa [h]at this
   by_cases QW:j=k;·subst QW;have:=j1.or' w (m.getD j 0);rwa [e]at this
   ·rw[e]at h;exact QV f (k+1) h j Z Z ai
  |false=>
   rw[ah,cw]at h;by_cases QW:j=k;·subst QW;rw[ah]at ai;cases ai
   ·exact QV f (k+1) h j Z Z ai
def Zd(m:List ef):(rQ m).length=64:=by simp[rQ]
def Lx(m:List ef){i:Nat}(h:i<64):(rQ m).getD i 0=np m 0 64 (m.getD i 0):=by simp[rQ,bP,h]
structure Ak(jw m:List ef):Prop where
 len:m.length=64
 le:∀ i,i<64->j1 (jw.getD i 0) (m.getD i 0)
 ok:∀ i,i<64->∀ k,k<64->(m.getD i 0).getLsbD k=true->qM jw i k
def Ak.start{jw:List ef}(h:jw.length=64):Ak jw jw:=⟨h,λi _=>j1.refl _,λi _ k af ah=>.one af ah⟩
def Ak.next{jw m:List ef}(h:Ak jw m):Ak jw (rQ m):=by
 refine⟨Zd m,λi hi=>?_,λi hi k af ah=>?_⟩
 ·rw[Lx m hi];exact(h.le i hi).trans (HZ m 64 0 _)
 ·rw[Lx m hi]at ah;refine QU (P:=λx=>x<64/\qM jw i x) (λj ai x ae ah=>⟨ae,ai.2.trans (h.ok j ai.1 x ae ah)⟩) 64 0 _ (cf _) (λx ae ah=>⟨ae,h.ok i hi x ae ah⟩) k af ah |>.2
def Ak.done{jw m:List ef}(h:Ak jw m)(aC:rQ m=m){i k:Nat}(hi:i<64)(af:k<64):(m.getD i 0).getLsbD k=true ↔ qM jw i k:=by
 refine⟨h.ok i hi k af,λar=>?_⟩;have dN:∀ i,i<64->∀ j,j<64->(m.getD i 0).getLsbD j=true->j1 (m.getD j 0) (m.getD i 0):=λi hi j ai ah=>by have:=Lx m hi;rw[aC]at this;exact QV 64 0 this.symm j (dh _) Z ah
 revert hi
 induction ar with
 |one hQ ah=>exact λhi=>h.le _ hi _ hQ ah
 |step ah ai t aX=>exact λhi=>dN _ hi _ ai (h.le _ hi _ ai ah) _ af (aX af ai)
def Al(m:List ef):Nat:=(m.map HY).sum
def Ze:∀ {m n:List ef},m.length=n.length->(∀ i,i<m.length->j1 (m.getD i 0) (n.getD i 0))->Al n<=Al m/\(Al m<=Al n->m=n)
 |[],[],_,_=>⟨cf _,λ_=>rfl⟩| [],_::_,h,_=>by simp at h
 |_::_,[],h,_=>by simp at h
 |a::m,b::n,h,aw=>by
  have ax:j1 a b:=by simpa using aw 0 am
  obtain⟨aa,ab⟩:=ak8 ax.and;obtain⟨t1,t2⟩:=Ze (m:=m) (n:=n) i9 λi hi=>by simpa using aw (i+1) i7
  simp only[Al,ch,hx]at t1 t2 |-;refine⟨Z,λbo=>?_⟩;rw[ab Z,t2 Z]
def alf{m:List ef}(ay:m.length=64)(h:rQ m≠m):Al (rQ m)<Al m:=by
 have aw:=Ze (m:=m) (n:=rQ m) (by rw[ay,Zd]) λi hi=>by rw[Lx m Z];exact HZ m 64 0 _
 refine Nat.lt_of_le_of_ne aw.1 λe=>h (aw.2 Z).symm
def QX(m:List ef):ef:=(List.range 64).foldl (λw i=>w ||| ((m.getD i 0) &&& lN i)) 0
def Zf(m:List ef):∀ (l:List Nat) (w:ef) {i:Nat},i<64->(∀ k∈l,k<64)->(l.foldl (λw i=>w ||| ((m.getD i 0) &&& lN i)) w).getLsbD i=(w.getLsbD i||(l.contains i&&(m.getD i 0).getLsbD i))
 |[],w,i,hi,_=>by simp
 |k::l,w,i,hi,ay=>by
  rw[kw,Zf m l _ hi λk af=>ay k (.tail _ af),z8,Ew,Lw hi,List.contains_cons];by_cases e:i=k
  ·subst e;simp;cases w.getLsbD i<;>cases(m.getD i 0).getLsbD i<;>simp
  ·have cY:(i == k)=false:=by simpa using e
   rw[fb e,cY];simp
def alg(m:List ef){i:Nat}(hi:i<64):(QX m).getLsbD i=(m.getD i 0).getLsbD i:=by
 unfold QX;rw[Zf m _ _ hi λk af=>kx.1 af];have:(List.range 64).contains i=true:=by simpa using hi
 rw[this];simp
def bitsOf(w:ef)(n:Nat):List Nat:=(List.range n).filter λi=>w.getLsbD i
def Zg(w:ef)(n:Nat):bitsOf w (n+1)=bitsOf w n++(bif w.getLsbD n then [n]else []):=by
 unfold bitsOf;rw[Ey,Ex];cases h:w.getLsbD n<;>simp[h]
def alh(w:ef)(n:Nat):(bitsOf w n).length<=n:=by unfold bitsOf;have:=Kx (λi=>w.getLsbD i) (List.range n);simpa using this
section
variable{X:c3}{o:Oper}{F:Fr}{C:dB}{I:aI}{M:List aD}{K:gx}
theorem bz.ali(aQ:cX X.P X.E){x:Operand}(aG:o.op=.convert src dst x)(aj:∀ d,o.dst=some d->d<X.n)
 (au:X.E src=some dd) (dA:dd.bM=.slice e) (he:X.E e=some aH) (jV:aH.bM=.int .u8) (k2:X.E dst=some Lj) (e5:Lj.bM=.string)
  {ad:Addr} {c:Nat} {l:List UInt8} (ae:bI F x=.val (.slice (some ad) n c)) (aE:l.length=n) (bj:cG I M ad n (l.map λb=>.int .u8 b.toNat))
  (h:K (put o.dst (.val (.string ⟨l.toArray⟩)) F) C I M):bz X o F C I M K:=by
 subst aE;refine⟨λa w Q ⟨β,aZ⟩=>?_⟩;obtain⟨aw,cs,T,ap,af,an,ay⟩:=bj;have az:=af.heap aZ.holds;obtain⟨d,fQ,eZ⟩:=(aQ _ _ au).fA;have aa:d=.slice e:=by rw[dA]at eZ;cases d<;>simp_all[fz]
 subst aa;obtain⟨d2,QY,sI⟩:=(aQ _ _ he).fA;have ab:d2=.int .u8:=by rw[jV]at sI;cases d2<;>simp_all[fz]
 subst ab;obtain⟨d3,QZ,K9⟩:=(aQ _ _ k2).fA;have al:d3=.string:=by rw[e5]at K9;cases d3<;>simp_all[fz]
 subst al;have ar:∀ j (ai:j<l.length),w.cell? (ad.add j)=some (.int .u8 (l[j].toNat:Int)):=by
  intro j ai;rw[eK ad aw,th az];have jT:(l.map λb=>Value.int .u8 b.toNat)[j]?=some (.int .u8 (l[j].toNat:Int)):=by simp[ai]
  rw[<-an,lv,bY ai,nC]at jT;simpa using jT
 have ex:=dt aZ.ap ae;refine v5 aZ aj f9 ?_ h;unfold execOp;simp only[aG,cz,dn,ex,run_convert_bytes_back w src dst e ad c l fQ QY QZ ar,cd]
end
section
variable{X:c3}{F:Fr}{C:dB}{I:aI}{M:List aD}{o:Oper}{K:gx}
theorem bz.alj(aQ:cX X.P X.E){x:Operand}(aG:o.op=.convert src dst x)(aj:∀ d,o.dst=some d->d<X.n)
 (au:X.E src=some dd) (dA:dd.bM=.slice e) (he:X.E e=some aH) (jV:aH.bM=.int .u8) (k2:X.E dst=some Lj) (e5:Lj.bM=.string)
  {c:Nat} (ae:bI F x=.val (.slice none 0 c))
  (h:K (put o.dst (.val (.string ⟨#[]⟩)) F) C I M):bz X o F C I M K:=by
 refine⟨λa w Q ⟨β,aZ⟩=>?_⟩;obtain⟨d,fQ,eZ⟩:=(aQ _ _ au).fA;have aa:d=.slice e:=by rw[dA]at eZ;cases d<;>simp_all[fz]
 subst aa;obtain⟨d2,QY,sI⟩:=(aQ _ _ he).fA;have ab:d2=.int .u8:=by rw[jV]at sI;cases d2<;>simp_all[fz]
 subst ab;obtain⟨d3,QZ,K9⟩:=(aQ _ _ k2).fA;have al:d3=.string:=by rw[e5]at K9;cases d3<;>simp_all[fz]
 subst al;have ex:=dt aZ.ap ae;refine v5 aZ aj f9 ?_ h;unfold execOp;have fk:(convert src dst (.slice none 0 c)).run X.P w=.ok (.string ⟨#[]⟩) w:=by rw[run_convert_bytes_string w src dst e none 0 c fQ QY QZ];rfl
 simp only[aG,cz,dn,ex,fk,cd]
end
def a9.whole{f:Nat}(post:Value->aI->List aD->Prop)(aw:Spec P f args I M post)(k:∀ v I' M',(∀ b o,I b=some o->I' b=some o)->post v I' M'->K v I' M'):a9 foot P f args I M K:=
 .mk M [] post am aw λv I' M' aa ab=>by rw[dE];exact k v I' M' aa ab
def er.whole{soft:Bool}{f:Nat}(post:Value->aI->List aD->Prop)(aw:Spec P f args I M post)(wh:∀ v I' M',post v I' M'->∀ x∈M,x∈M')(k:∀ v I' M',(∀ b o,I b=some o->I' b=some o)->post v I' M'->K v I' M'):er soft foot P f args I M K:=
 .oR M [] post am aw wh λv I' M' aa ab=>by rw[dE];exact k v I' M' aa ab
section
variable{X:c3}{β:Nat->Nat}{a:Act}{w:World}{F:Fr}{C:dB}{I:aI}{M:List aD}{o:Oper}{K:gx}
def h5.mc{I:aI}{M M':List aD}(h:M=M'):h5 foot I M I M':=by subst h;exact .refl
def bz.h6(h:bz X o F C I M λF C I M=>∃ I' M',h5 X.foot I M I' M'/\K F C I' M'):bz X o F C I M K:=by obtain⟨h⟩:=h;refine⟨λa w Q aZ=>s' ?_ (h a w Q aZ)⟩;rintro bT w'⟨df,C',I',M',⟨β,ag⟩,ed,dp,hw,af⟩;exact⟨df,C',ed,dp,⟨β,ag.h6 hw⟩,af⟩
def bz.lh(aQ:cX X.P X.E){s x:Operand}{t:Nat}(aG:o.op=.call { callee:=.builtin .append,args:=#[s,x],argTypes:=#[t,t] })(aj:∀ d,o.dst=some d->d<X.n)
 (au:X.E t=some dd) (dA:dd.bM=.slice e) (he:X.E e=some aH)
  (os:aO) (bl:os.ok aH.size xs) (aw:bI F s=.val os.val)
  {b9:Nat} {cs:List Value} (ae:bI F x=.val (.slice (some ⟨b9,0,none⟩) 1 c')) (ay:cs.length=aH.size) (aa:fG cs=true)
  (ba post:List aD) (bd:M=⟨b9,.cells cs.toArray e (0,0)⟩::(ba++(os.aq e++post))) (b1:os.n+1<=9223372036854775807) (b8:(os.n+1)*aH.bytes<=140737488355328)
  (k:∀ br:aO,br.n=os.n+1->(∀ g,br.a=some g->I g=none)->br.ok aH.size (xs++cs)->K (put o.dst (.val br.val) F) C I (ba++(br.aq e++post))):bz X o F C I M K:=by
 refine .h6 (.Wd aQ aG aj au dA he os bl aw (m:=1) (cb:=cs) ae bv ?_ aa (Mr:=⟨b9,.cells cs.toArray e (0,0)⟩::(ba++post)) ?_ t9 b8 ?_)
 ·rw[m6];refine⟨rfl,_,_,_,.inr ⟨⟨b9,.cells cs.toArray e (0,0)⟩,ayX,rfl,rfl⟩,?_,ay⟩;simp only[tq];exact fE Z
 ·rw[bd];have ab:(⟨b9,.cells cs.toArray e (0,0)⟩::(ba++(os.aq e++post)):List aD).Perm (⟨b9,.cells cs.toArray e (0,0)⟩::(os.aq e++(ba++post))):=.cons _ (wM _ _ _);exact ab.trans lL.symm
 ·intro g c aR bG ee eO eS jq;refine⟨I,ba++((⟨some g,os.n+1,c,aR⟩:aO).aq e++post),.sub (M1:=⟨g,.cells aR.toArray e (0,0)⟩::(ba++post)) (.cons_cons _ (.cons _ (.refl _))) (.perm ?_ .refl),k ⟨some g,os.n+1,c,aR⟩ rfl (λet az=>by cases az;exact bG) ⟨?_,(λh=>ci),λet az=>?_⟩⟩
  ·exact lL.symm
  ·rw[ct,bl.len,ay,kD,m6]
  ·cases az;exact⟨ee,eO,eS,jq⟩
def bz.w0(aQ:cX X.P X.E){s x:Operand}{t:Nat}(aG:o.op=.call { callee:=.builtin .append,args:=#[s,x],argTypes:=#[t,t] })(aj:∀ d,o.dst=some d->d<X.n)
 (au:X.E t=some dd) (dA:dd.bM=.slice e) (he:X.E e=some aH)
  (os:aO) (bl:os.ok aH.size xs) (aw:bI F s=.val os.val)
  {sa:Option Addr} {m:Nat} {cb:List Value} (ae:bI F x=.val (.slice sa m c')) (ay:cb.length=m*aH.size) (aE:0<m->∃ ad,sa=some ad/\cG I M ad (m*aH.size) cb) (aa:fG cb=true)
  (ba post:List aD) (bd:M=ba++(os.aq e++post)) (b1:os.n+m<=9223372036854775807) (b8:(os.n+m)*aH.bytes<=140737488355328)
  (k:∀ br:aO,br.n=os.n+m->(0<m->∀ g,br.a=some g->I g=none)->br.ok aH.size (xs++cb)->K (put o.dst (.val br.val) F) C I (ba++(br.aq e++post))):bz X o F C I M K:=by
 by_cases ax:m=0
 ·subst ax;have nJ:cb=[]:=iB rt;subst nJ;refine .KJ aQ aG aj au dA au (λk=>by rw[dA];simp) he (sa:=os.a.map λg=>⟨g,0,none⟩) (n:=os.n) (c:=os.c) aw ?_ ae (.inl ⟨_,_,rfl⟩) ?_
  ·cases a8:os.a with
   |none=>obtain⟨ee,eO⟩:=bl.nil a8;omega
   |some g=>exact(bl.cap g a8).2.1
  ·have:=k os rfl (λh=>Z) (by rw[dE];exact bl);rw[bd];exact this
 obtain⟨ad,rfl,bj⟩:=aE Z;refine .h6 (.Wd aQ aG aj au dA he os bl aw (m:=m) (cb:=cb) ae Z bj aa (Mr:=ba++post) ?_ t9 b8 ?_)
 ·rw[bd];exact(wM _ _ _)
 ·intro g c aR bG ee eO eS jq;refine⟨I,ba++((⟨some g,os.n+m,c,aR⟩:aO).aq e++post),.perm ?_ .refl,k ⟨some g,os.n+m,c,aR⟩ rfl (λ_ et az=>by cases az;exact bG) ⟨?_,(λh=>ci),λet az=>?_⟩⟩
  ·exact lL.symm
  ·rw[ct,bl.len,ay,kD]
  ·cases az;exact⟨ee,eO,eS,jq⟩
end
end Go.V
