/- Part 4 of what the proofs of this seat share: the executor, data in memory, walks.
-/
import Derived.Test.YtjambecdkaahmaaGreatDoorK3
import Derived.Test.YtjambecdkaahmaaGreatDoorK2
import Derived.Laws.IdiomStrings
import Derived.Lib.SliceRun
set_option linter.all false
set_option maxHeartbeats 16000000
set_option maxRecDepth 100000
namespace Go.V
open Go Go.Proofs
def lT:=@Nat.le_of_succ_le
def ph:=@List.getElem_range
def q0:=@List.replicate_succ
def pi:=@List.perm_middle
def r3:=@List.length_range
def yo:=@Nat.ble_eq_true_of_le
def CK:=@List.perm_append_comm_assoc
def mA:=@Nat.ble_eq
def q1:=@Nat.sub_self
def F7:=@Int.tdiv_eq_ediv_of_nonneg
def tj:=@Nat.sub_zero
def yp:=@List.length_set
def Ad:=@Nat.mod_eq_of_lt
def CL:=@BitVec.toNat_ofNat
def JU:=@Nat.add_sub_cancel_left
def JV:=@List.set_append_right
def F8:=@Nat.min_le_right
def F9:=@Nat.le_max_right
def JW:=@List.pairwise_append
def JX:=@List.replicate_zero
def F':=@Nat.le_max_left
def Ga:=@Nat.zero_lt_one
def JY:=@List.take_append
def Gb:=@decide_true
variable{dc qT aD Gc:dz}{e c gL ln lc z hA p src dst c':Nat}{g:dX}{s:ByteArray}{x y hi mx:Operand}{I:aS}{M M0:List ay}{d:a9}{ks aM bj p':List aZ}{os:bk}{pl:List (ByteArray×Int)}{q2 ad:Option Addr}{c4:List (Nat×Nat)}{aW:List Int}{α:Type}{vs args aJ:List Value}{K:Value->aS->List ay->Prop}{kn m':Nat->Nat->cy}{lo:Int}{A:Nat->Nat->Prop}{bW:List Nat}{bL fB:IntKind}
section
variable{X:cD}{β:Nat->Nat}{a:Act}{w:World}{F:Fr}{C:c2}{I:aS}{M:List ay}{o:Oper}{Q:Exit->Act->World->Prop}{K:fo}
def Qy(aE:cE X.P X.E){t:Nat}{k:Nat}(av:X.E t=some dc)(dL:dc.bz=.map k e)(ae:X.E k=some qT)(eU:qT.bz=.string)(bg:∀ w,(zeroValue e).run X.P w=.ok (.int .i64 0) w){g:Nat}{l:List (ByteArray×Int)}(aA:w.heap[g]?=some (hO l))(ok:Bool) :
  (Instr.lookup t (.map (some g)) (.string s) ok).run X.P w=.ok (bif ok then .tuple #[.int .i64 ((dI s l).getD 0),.bool (dI s l).isSome]else .int .i64 ((dI s l).getD 0)) w:=by
 obtain⟨d,eM,e4⟩:=(aE _ _ av).eJ;have U:d=.map k e:=by rw[dL]at e4;cases d<;>simp_all[eD]
 subst U;obtain⟨iy,p6,h1⟩:=(aE _ _ ae).eJ;have aa:iy=.string:=by rw[eU]at h1;cases iy<;>simp_all[eD]
 subst aa;have aA:w.heap[g]?=some (.map (mw l 0).toArray l.length):=aA;obtain⟨r,sJ,lP⟩:=FR s l 0 0;have aL:(Instr.checkKey (mw l 0).toArray.isEmpty 10000 k (.string s)).run X.P w=.ok () w:=z1 (k:=.string s) p6 (by simp[MapKept.IsKey]) _ 9999;have rZ:(Instr.findKey k (.string s) (mw l 0)).run X.P w=.ok r w:=z2 p6 sJ;unfold Instr.lookup;simp only[bZ,run_underlying eM,bK,z0 aA,cG,aL,rZ];cases r with
 |none=>
  cases ar:dI s l with
  |none=>cases ok<;>simp[bg]
  |some v=>rw[ar]at lP;simp at lP
 |some p=>
  cases ar:dI s l with
  |none=>rw[ar]at lP;simp at lP
  |some v=>
   rw[ar]at lP;simp only[jT,iJ]at lP;cases ok<;>simp[lP]
def bl.Qz(aE:cE X.P X.E){t:Nat}(aq:o.op=.lookup t x y true)(ah:∀ d,o.dst=some d->d<X.n){k:Nat}(av:X.E t=some dc)(dL:dc.bz=.map k e)(ae:X.E k=some qT)(eU:qT.bz=.string)(bg:∀ w,(zeroValue e).run X.P w=.ok (.int .i64 0) w){g:Nat}{l:List (ByteArray×Int)}(ab:br F x=.val (.map (some g)))(aN:br F y=.val (.string s))(a4:gO I M g (hO l))
  (h:K (put o.dst (.val (.tuple #[.int .i64 ((dI s l).getD 0),.bool (dI s l).isSome])) F) C I M):bl X o F C I M K:=by
 refine⟨λa w Q ⟨β,a1⟩=>?_⟩;have eK:=Qy aE av dL ae eU bg (a4.heap a1.holds) (s:=s) true;have ex:=cV a1.aj ab;have nV:=cV a1.aj aN;refine sI a1 ah (by rw[aq];simp) ?_ h;unfold execOp;simp only[aq,ex,nV,bZ,eK,bK,cG,bh]
def bl.Zu(aE:cE X.P X.E){t:Nat}(aq:o.op=.lookup t x y false)(ah:∀ d,o.dst=some d->d<X.n){k:Nat}(av:X.E t=some dc)(dL:dc.bz=.map k e)(ae:X.E k=some qT)(eU:qT.bz=.string)(bg:∀ w,(zeroValue e).run X.P w=.ok (.int .i64 0) w){g:Nat}{l:List (ByteArray×Int)}(ab:br F x=.val (.map (some g)))(aN:br F y=.val (.string s))(a4:gO I M g (hO l))
  (h:K (put o.dst (.val (.int .i64 ((dI s l).getD 0))) F) C I M):bl X o F C I M K:=by
 refine⟨λa w Q ⟨β,a1⟩=>?_⟩;have eK:=Qy aE av dL ae eU bg (a4.heap a1.holds) (s:=s) false;have ex:=cV a1.aj ab;have nV:=cV a1.aj aN;refine sI a1 ah (by rw[aq];simp) ?_ h;unfold execOp;simp only[aq,ex,nV,bZ,eK,bK,cG,ba]
end
def tk:List (ByteArray×Int)->Nat->List bE->List (ByteArray×Int)
 |aM,_,[]=>aM| aM,i,d::ds=>tk (bif (dI d.name aM).isSome then aM else aM++[(d.name,(i:Int))]) (i+1) ds
def bM(ds:List bE):List (ByteArray×Int):=tk [] 0 ds
def QA(aA:g.ok I):Spec Tryz.prog 42 [g.val] I [] λv I' M'=>(∀ b o,I b=some o->I' b=some o)/\M'=[]/\∃ gL,v=.map (some gL)/\I' gL=some (hO (bM g.ds)):=by
 refine NO [] aV Tryz.func42 rfl rfl rfl ?_;intro B ao;have gb:=aA.n;have ki:=aA.bd.cap;refine bl.makeMap aV rfl (by simp) rfl rfl rfl λhP=>?_;refine dB.inv (ι:=Nat×List (ByteArray×Int)) (λx=>{ bj:=[(1,.ref 1 0),(3,.val (.map (some hP))),(13,.val (.slice g.a g.n g.c)),(14,.val (.int .i64 g.n)),(15,.val (.int .i64 x.1))],cl:=[(1,[.slice g.a g.n g.c])],c5:=I,dv:=[⟨hP,hO x.2⟩] }) (λx=>x.1<=g.n/\bM g.ds=tk x.2 x.1 (g.ds.drop x.1)) (λx=>g.n-x.1) ?_ ?_
 ·exact⟨(0,[]),⟨bq _,rfl⟩,.refl,g',.cons rfl .nil⟩
 rintro⟨i,aM⟩⟨hi,aG⟩;simp only at hi aG;refine a0.mk (λh=>?_) (λh=>?_)
 ·have aK:i<g.n:=by have:(i:Int)<(g.n:Int):=du h;omega
  have bP:i<g.ds.length:=by omega
  obtain⟨ad,b7,bs⟩:=aA.bd.row bE.de aK bP;rw[fg bP,tk]at aG;refine bc.mk ad i b7 rfl aK ?_;refine aF.mk _ (bs _) ?_;refine bl.Qz aV rfl (by simp) rfl rfl rfl rfl (λw=>CA w) (l:=aM) (g:=hP) rfl rfl (.inr ⟨_,.head _,rfl,rfl⟩) ?_;refine a0.mk (λaf=>?_) (λaf=>?_)
  ·have ax:(dI g.ds[i].name aM).isSome=false:=by simpa using af
   have ar:dI g.ds[i].name aM=none:=by simpa using ax
   rw[ax,ba]at aG;refine bl.PX aV rfl rfl rfl rfl rfl rfl rfl rfl rfl ar (Mr:=[]) (.refl _) ?_;refine a5.mk _ (cm (i:=i) (by omega)) ?_;exact⟨(i+1,_),⟨⟨by simp only;omega,aG⟩,by simp only;omega⟩,.refl,g',.cons rfl .nil⟩
  ·have ax:(dI g.ds[i].name aM).isSome=true:=by simpa using af
   rw[ax,bh]at aG;refine a5.mk _ (cm (i:=i) (by omega)) ?_;exact⟨(i+1,_),⟨⟨by simp only;omega,aG⟩,by simp only;omega⟩,.refl,g',.cons rfl .nil⟩
 have c1:g.n<=i:=by have:¬ (i:Int)<(g.n:Int):=dt h;omega
 rw[ir (by omega),tk]at aG;intro ja;have ai:=ja.d ⟨hP,hO aM⟩ (.head _);exact⟨_,_,.qs rfl (by simp) .refl,pY ai,rfl,hP,rfl,by rw[aG];exact s8 ..⟩
def Zv:List Nat:=[149,150,151,152,153,154,155,156,157,152]
def JZ:List Value:=[.func (.func 149) #[] #[],.func (.func 150) #[] #[],.func (.func 151) #[] #[],.func (.func 152) #[] #[],.func (.func 153) #[] #[],.func (.func 154) #[] #[],.func (.func 155) #[] #[],.func (.func 156) #[] #[],.func (.func 157) #[] #[],.func (.func 152) #[] #[]]
def Zw:Spec Tryz.prog 95 [] I [] λv I' M'=>v=.agg JZ.toArray/\I'=I/\M'=[]:=by refine bX [] aV Tryz.func95 rfl rfl rfl ?_;intro B ao;exact⟨_,_,.refl,rfl,rfl,rfl⟩
def tl{a:Option Addr}{n:Nat}(ae:kT I M a n ks)(ax:n<=140737488355328)(j:Nat)(an:j<10)(ah:d.k=j)(ao:(j=3\/6<=j)->0<n) :
  Spec Tryz.prog (Zv.getD j 0) [d.val,.slice a n c] I M λv I' M'=>v=(dN d ks).val/\I'=I/\M'=M:=by
 match j,an,ah,ao with
 |0,_,ah,_=>rw[show dN d ks=⟨true,false,false⟩ by simp[dN,ah]];exact Zl (I:=I) (M:=M) (d:=d) (a:=a) (n:=n) (c:=c)| 1,_,ah,_=>rw[show dN d ks=⟨false,!d.lK,true⟩ by simp[dN,ah]];exact Zp (I:=I) (M:=M) (d:=d) (a:=a) (n:=n) (c:=c)| 2,_,ah,_=>rw[show dN d ks=⟨false,true,true⟩ by simp[dN,ah]];exact Zm (I:=I) (M:=M) (d:=d) (a:=a) (n:=n) (c:=c)| 3,_,ah,ao=>rw[show dN d ks=ks.headD bY by simp[dN,ah]];exact Qw (d:=d) (c:=c) ae (ao (by omega))| 4,_,ah,_=>rw[show dN d ks=Ac ks by simp[dN,ah]];exact Zt (d:=d) (c:=c) ae ax| 5,_,ah,_=>rw[show dN d ks=CI ks by simp[dN,ah]];exact Zr (d:=d) (c:=c) ae ax| 6,_,ah,ao=>rw[show dN d ks=lS d (ks.headD bY) by simp[dN,ah]];exact Zq (d:=d) (c:=c) ae (ao (by omega))| 7,_,ah,ao=>rw[show dN d ks=⟨(ks.headD bY).hQ,false,(ks.headD bY).f⟩ by simp[dN,ah]];exact Zn (d:=d) (c:=c) ae (ao (by omega))| 8,_,ah,ao=>rw[show dN d ks=⟨(ks.headD bY).f,false,(ks.headD bY).hQ⟩ by simp[dN,ah]];exact Zo (d:=d) (c:=c) ae (ao (by omega))| 9,_,ah,ao=>rw[show dN d ks=ks.headD bY by simp[dN,ah]];exact Qw (d:=d) (c:=c) ae (ao (by omega))
def ee(b:Nat)(l:List aZ):ay:=⟨b,.cells (l.flatMap aZ.cells).toArray 46 (0,0)⟩
def yq(l:List aZ):(l.flatMap aZ.cells).length=l.length*3:=hb _ 3 aZ.de l
def wA{b:Nat}{l:List aZ}(a4:ee b l∈M){j:Nat}(an:j<l.length):ca I M ((⟨b,0,none⟩:Addr).add (j*3)) 3 l[j].cells:=by have h:=dn (I:=I) (cs:=l.flatMap aZ.cells) (k:=j*3) (n:=3) a4 (by rw[yq];omega);rwa [rM aZ.cells 3 aZ.de l j an]at h
def J0(l:List aZ)(j:Nat)(an:j<l.length)(x:aZ):bu (l.flatMap aZ.cells) (j*3) x.cells=(l.set j x).flatMap aZ.cells:=by
 have e:l.flatMap aZ.cells=(l.take j).flatMap aZ.cells++(l[j].cells++(l.drop (j+1)).flatMap aZ.cells):=by
  have U:l=l.take j++(l[j]::l.drop (j+1)):=by rw[<-fg an,uB]
  have aa:=congrArg (λq:List aZ=>q.flatMap aZ.cells) U;simp only[mm,lD]at aa;exact aa
 have ar:((l.take j).flatMap aZ.cells).length=j*3:=by rw[yq,ma];congr 1;omega
 unfold bu;rw[xM,cK an,mm,lD,e,gl];congr 1
 ·rw[<-ar,zI]
 ·congr 1;rw[aZ.de,<-ar,<-gl,B0 (by rw[cU,aZ.de])]
def QB(l:List aZ)(x:aZ):(l++[x]).flatMap aZ.cells=l.flatMap aZ.cells++x.cells:=by simp
def bk.zero{os:bk}{size:Nat}{xs:List Value}(h:os.ok size xs):bk.ok ⟨os.a,0,os.c,os.aJ⟩ size []:=by refine⟨by simp,λaC=>⟨rfl,(h.nil aC).2⟩,λg aA=>?_⟩;obtain⟨U,aa,af,aR⟩:=h.cap g aA;exact⟨U,bq _,af,by simp⟩
def bk.QC{l:List aZ}(h:os.ok 3 (l.flatMap aZ.cells))(a4:∀ x∈os.aY e,x∈M):kT I M (os.a.map λg=>⟨g,0,none⟩) os.n l:=by
 have ar:=h.len;rw[yq]at ar;refine⟨by omega,λj an=>?_⟩;obtain⟨a,n,c,aJ⟩:=os;simp only at ar;cases a with
 |none=>have:=(h.nil rfl).1;simp only at this;omega
 |some g=>
  obtain⟨U,aa,af,aR⟩:=h.cap g rfl;simp only at U aa aR;refine⟨⟨g,0,none⟩,rfl,?_⟩;have hm:(⟨g,.cells aJ.toArray e (0,0)⟩:ay)∈M:=a4 _ (by simp[bk.aY]);have al:=dn (I:=I) (cs:=aJ) (k:=j*3) (n:=3) hm (by omega);have aw:(aJ.drop (j*3)).take 3=((aJ.take (n*3)).drop (j*3)).take 3:=by rw[uE,sZ];congr 1;omega
  rw[aw,aR,rM aZ.cells 3 aZ.de l j an]at al;exact al
def lU(pl:List (ByteArray×Int))(bj aM:List aZ)(d:a9):List aZ:=
 d.aX.map (λk=>aM.getD k.toNat bY)++bif decide (d.k=3)then [bj.getD ((dI d.t pl).getD 0).toNat bY]else []
def eN(pl:List (ByteArray×Int))(bj:List aZ):List a9->List aZ->List aZ
 |[],aM=>aM| d::ds,aM=>eN pl bj ds (aM++[dN d (lU pl bj aM d)])
def J1(pl:List (ByteArray×Int))(bj:List aZ):∀ (ds:List a9) (aM:List aZ),(eN pl bj ds aM).length=aM.length+ds.length
 |[],aM=>rfl| d::ds,aM=>by rw[eN,J1];simp;omega
def J2(pl:List (ByteArray×Int))(n:Nat)(ns:List a9):Prop:=∀ d∈ns,d.k=3->∃ i:Nat,dI d.t pl=some (i:Int)/\i<n
def J3{n:Int}(h:fits d n=true):d.k<10:=by apply Int.lt_of_not_ge;intro c1;have:(10:Int)<=d.k:=c1;simp[fits,this]at h
def QD{n:Int}(ao:0<=d.k)(h:fits d n=true)(ae:6<=d.k):0<n:=by
 have o1:=J3 h;have uX:d.k=6\/d.k=7\/d.k=8\/d.k=9:=by omega
 rcases uX with e | e | e | e<;>(simp[fits,e,qO,mZ,lJ]at h;omega)
def Zx(aM:List aZ)(n i:Nat)(ar:aM.length=i)(hi:i<n)(x:aZ):(aM++List.replicate (n-i) bY).set i x=(aM++[x])++List.replicate (n-(i+1)) bY:=by subst ar;rw[JV _ _ (cC _),q1,show n-aM.length=(n-(aM.length+1))+1 by omega,q0,List.set_cons_zero];simp
def QE:∀ n:Nat,rowOf bY.cells (n*3)=(List.replicate n bY).flatMap aZ.cells:=λn=>by
 apply uD
 ·rw[yq,xO];simp[vx,madeCells]
 intro i U aa;have af:∀ x∈(List.replicate n bY).flatMap aZ.cells,x=Value.bool false:=λx ab=>by obtain⟨y,aN,ab⟩:=List.mem_flatMap.1 ab;have:=List.eq_of_mem_replicate aN;subst this;simpa[aZ.cells,bY]using ab
 rw[af _ (dK aa)];have bg:∀ j,j<3->bY.cells[j]! = Value.bool false:=λj an=>by
  match j,an with
  |0,_=>rfl| 1,_=>rfl| 2,_=>rfl
 simp only[rowOf,lE,ph];exact bg _ (Nat.mod_lt _ (by decide))
def tm{n i:Nat}(fR:aM.length=i)(aK:i<n)(x:aZ):Nat.ble (0+i*3+x.cells.length) ((aM++List.replicate (n-i) bY).flatMap aZ.cells).length=true:=by rw[mA,yq,aZ.de,cU,xO];omega
def QF{t:dG}(av:t.ok I)(al:right t=true)(hm:I gL=some (hO pl))(n4:kT I M0 q2 ln bj)(aL:J2 pl ln t.ns) :
  Spec Tryz.prog 44 [.map (some gL),.slice q2 ln lc,t.val] I M0 λv I' M'=>I'=I/\∃ b,v=.slice (some ⟨b,0,none⟩) t.n t.n/\M'=ee b (eN pl bj t.ns [])::M0:=by
 refine bX [] aV Tryz.func44 rfl rfl rfl ?_;intro B ao;have pf:=av.n;have ki:=av.bd.cap;refine bb.mk [] M0 _ (.refl _) Zw ?_;rintro v cL M1 -⟨rfl,rfl,rfl⟩;refine oD.mk t.n t.n rfl rfl (cC _) (by show 3*t.n<=_;omega) (by omega) ?_;refine cz.mk λcO J4 Zy=>?_;refine dB.inv (ι:=Nat×List aZ×bk) (λx=>{ bj:=[(0,.val (.map (some gL))),(1,.val (.slice q2 ln lc)),(5,.ref 5 0),(7,.ref 7 0),(8,.val (.slice (some ⟨cO,0,none⟩) t.n t.n)),(9,.val x.2.2.val),(20,.val (.slice t.a t.n t.c)),(21,.val (.int .i64 t.n)),(22,.val (.int .i64 x.1))],cl:=[(5,t.cells),(7,JZ)],c5:=cL,dv:=ee cO (x.2.1++List.replicate (t.n-x.1) bY)::(x.2.2.aY 46++M0) }) (λx=>x.1<=t.n/\x.2.1.length=x.1/\eN pl bj t.ns []=eN pl bj (t.ns.drop x.1) x.2.1/\∃ ks,x.2.2.ok 3 ks) (λx=>t.n-x.1) ?_ ?_
 ·refine⟨(0,[],qX),⟨bq _,rfl,rfl,[],uS 3⟩,?_,hk,.cons rfl (.cons rfl .nil)⟩;have e:rowOf bY.cells (t.n*3)=(List.replicate t.n bY).flatMap aZ.cells:=QE t.n;simp only[ee,mT,tj];rw[<-e];exact .refl
 rintro⟨i,aM,yr⟩⟨hi,fR,uY,Zz,CM⟩;simp only at hi fR uY CM;refine a0.mk (λh=>?_) (λh=>?_)
 rotate_left
 ·have c1:i=t.n:=by have:¬ (i:Int)<(t.n:Int):=dt h;omega
  subst c1;rw[ir (by omega),eN]at uY;refine⟨cL,ee cO (aM++List.replicate (t.n-t.n) bY)::M0,.sub (.cons_cons _ (kH _ _)) .refl,rfl,cO,rfl,?_⟩;rw[uY,q1,JX,dF]
 have aK:i<t.n:=by have:(i:Int)<(t.n:Int):=du h;omega
 have bP:i<t.ns.length:=by omega
 obtain⟨ad,b7,bs⟩:=av.bd.row a9.de aK bP;have eA:=dK bP;have ah:=av.ns _ eA;have dR:=ah.kn;have Ae:=ah.bd.cap;have p0:=qP al i bP;have pj:=Fi al bP;have CN:=aL _ eA;have Af:eN pl bj t.ns []=eN pl bj (t.ns.drop (i+1)) (aM++[dN t.ns[i] (lU pl bj aM t.ns[i])]):=by rw[uY,fg bP,eN]
 generalize t.ns[i]=d at bs ah dR Ae p0 pj CN Af;have fI:=ah.k.1;have Gd:=J3 pj;have q3:∀ {M:List ay} {q:Int},ee cO (aM++List.replicate (t.n-i) bY)∈M->q∈d.aX->ca cL M ((⟨cO,0,none⟩:Addr).add (q.toNat*3)) 3 (aM.getD q.toNat bY).cells:=fun {M q} a4 aO=>by
  have ZA:=p0 q aO;have e5:q.toNat<aM.length:=by omega
  have:=wA (I:=cL) a4 (j:=q.toNat) (by rw[cU];omega);rw[Fu e5]at this;simpa[dh,e5]using this
 refine bc.mk ad i b7 rfl aK ?_;refine aF.mk _ (bs _) ?_;refine ie.mk 0 0 rfl rfl (cC _) (bq _) ?_;refine dB.inv (ι:=Nat×bk×List aZ) (λx=>{ bj:=[(0,.val (.map (some gL))),(1,.val (.slice q2 ln lc)),(5,.ref 5 0),(7,.ref 7 0),(8,.val (.slice (some ⟨cO,0,none⟩) t.n t.n)),(9,.val x.2.1.val),(10,.val (.int .i64 i)),(11,.ref 11 0),(20,.val (.slice t.a t.n t.c)),(21,.val (.int .i64 t.n)),(22,.val (.int .i64 i)),(30,.val (.slice d.kg d.kn d.jc)),(31,.val (.int .i64 d.kn)),(32,.val (.int .i64 x.1))],cl:=[(5,t.cells),(7,JZ),(11,d.cells)],c5:=cL,dv:=ee cO (aM++List.replicate (t.n-i) bY)::(x.2.1.aY 46++M0) }) (λx=>x.1<=d.kn/\x.2.1.ok 3 (x.2.2.flatMap aZ.cells)/\x.2.2=(d.aX.take x.1).map λk=>aM.getD k.toNat bY) (λx=>d.kn-x.1) ?_ ?_
 ·exact⟨(0,⟨yr.a,0,yr.c,yr.aJ⟩,[]),⟨bq _,bk.zero CM,rfl⟩,.refl,ET,.cons rfl (.cons rfl (.cons rfl .nil))⟩
 rintro⟨k,bL,k4⟩⟨ae,fC,fr⟩;simp only at ae fC fr;have ZB:bL.n=k4.length:=by have:=fC.len;rw[yq]at this;omega
 have J5:k4.length<=k:=by rw[fr,eX];exact zH _ _
 refine a0.mk (λh=>?_) (λh=>?_)
 ·have gv:k<d.kn:=by have:(k:Int)<(d.kn:Int):=du h;omega
  have rE:k<d.aX.length:=by omega
  obtain⟨hq,h2,gI⟩:=ah.bd.one gv rE;have aO:=p0 _ (dK rE);refine bc.mk hq k h2 rfl gv ?_;refine aF.mk _ (gI _) ?_;refine bc.mk ⟨cO,0,none⟩ d.aX[k].toNat rfl (by omega) (by omega) ?_;refine aF.mk _ (q3 (.head _) (dK rE)) ?_;refine cz.mk λb9 gz yg=>?_;refine bl.append aV rfl (by simp) (e:=46) rfl rfl rfl bL fC rfl (m:=1) rfl (ct:=(aM.getD d.aX[k].toNat bY).cells) (by decide) (dn (b:=b9) (cs:=(aM.getD d.aX[k].toNat bY).cells) (k:=0) (n:=3) (T:=46) (.head _) (bJ rfl)) rfl (Mr:=⟨b9,.cells (aM.getD d.aX[k].toNat bY).cells.toArray 46 (0,0)⟩::ee cO (aM++List.replicate (t.n-i) bY)::M0) (by
   have:=CK [(⟨b9,.cells (aM.getD d.aX[k].toNat bY).cells.toArray 46 (0,0)⟩:ay),ee cO (aM++List.replicate (t.n-i) bY)] (bL.aY 46) M0;exact this) (by simp only[maxLen];omega) (by show(bL.n+1)*3<=_;omega) ?_
  intro aU eL ys gC eG gT lQ;refine a5.mk _ (cm (i:=k) (by omega)) ?_;refine⟨(k+1,⟨some aU,bL.n+1,eL,ys⟩,k4++[aM.getD d.aX[k].toNat bY]),⟨⟨by simp only;omega,?_,?_⟩,by simp only;omega⟩,.sub (M1:=[(⟨aU,.cells ys.toArray 46 (0,0)⟩:ay),ee cO (aM++List.replicate (t.n-i) bY)]++M0) (.cons_cons _ (.cons _ (.refl _))) (.perm (List.Perm.swap _ _ _) .refl),ET,.cons rfl (.cons rfl (.cons rfl .nil))⟩;·simp only;rw[QB];exact Qt fC (aZ.de _) gC eG gT lQ
  ·simp only;rw[hU rE,gX,<-fr];rfl
 have c1:d.kn<=k:=by have:¬ (k:Int)<(d.kn:Int):=dt h;omega
 rw[hn (by omega)]at fr;have ZC:k4.length=d.aX.length:=by rw[fr,eX]
 have eW:bL.n+1<=140737488355328:=by omega
 clear h ae J5;have fj:∀ x:aZ,bu ((aM++List.replicate (t.n-i) bY).flatMap aZ.cells) (0+i*3) x.cells=((aM++[x])++List.replicate (t.n-(i+1)) bY).flatMap aZ.cells:=λx=>by rw[dk,J0 _ _ (by simp;omega),Zx aM t.n i fR aK]
 have hinv:∀ (yt:bk) (yu:List Value),yt.ok 3 yu->((i+1<=t.n/\(aM++[dN d (lU pl bj aM d)]).length=i+1/\eN pl bj t.ns []=eN pl bj (t.ns.drop (i+1)) (aM++[dN d (lU pl bj aM d)])/\∃ ks,yt.ok 3 ks)/\t.n-(i+1)<t.n-i):=λyt yu aa=>
  ⟨⟨aK,by simp[fR],Af,yu,aa⟩,by omega⟩
 by_cases af:d.k=3
 ·refine a0.mk (λ_=>?_) (λh=>absurd h (by simp[af]));obtain⟨q,yv,n8⟩:=CN af;have uZ:lU pl bj aM d=k4++[bj.getD q bY]:=by rw[lU,<-fr,yv,af];rfl
  have e5:q<bj.length:=by rw[n4.n];exact n8
  obtain⟨gd,wj,gx⟩:=n4.rd q e5;have J6:bj.getD q bY=bj[q]:=by simp[dh,e5]
  refine bl.Zu aV rfl (by simp) rfl rfl rfl rfl (λw=>CA w) (l:=pl) (g:=gL) rfl rfl (.inl hm) ?_;rw[yv];refine bc.mk gd q wj rfl n8 ?_;refine aF.mk _ (gx.sub λx ab=>by simp[ab]) ?_;refine cz.mk λb9 gz yg=>?_;refine bl.append aV rfl (by simp) (e:=46) rfl rfl rfl bL fC rfl (m:=1) rfl (ct:=bj[q].cells) (by decide) (dn (b:=b9) (cs:=bj[q].cells) (k:=0) (n:=3) (T:=46) (.head _) (bJ rfl)) rfl (Mr:=⟨b9,.cells bj[q].cells.toArray 46 (0,0)⟩::ee cO (aM++List.replicate (t.n-i) bY)::M0) (by
   have:=CK [(⟨b9,.cells bj[q].cells.toArray 46 (0,0)⟩:ay),ee cO (aM++List.replicate (t.n-i) bY)] (bL.aY 46) M0;exact this) (by simp only[maxLen];omega) (by show(bL.n+1)*3<=_;omega) ?_
  intro aU eL ys gC eG gT lQ;have h0:=Qt (g:=aU) fC (aZ.de bj[q]) gC eG gT lQ;rw[<-QB,<-J6,<-uZ]at h0;have eU:=bk.QC (I:=cL) (M:=⟨aU,.cells ys.toArray 46 (0,0)⟩::⟨b9,.cells bj[q].cells.toArray 46 (0,0)⟩::ee cO (aM++List.replicate (t.n-i) bY)::M0) (e:=46) h0 (λx ab=>by
   simp only[bk.aY,iY]at ab;subst ab;exact .head _)
  refine cW.draw aV rfl rfl rfl ?_;obtain⟨iy,dJ,s1,s2,dQ,fl,lo,cw,jq,jr,js,jt⟩:=d;simp only at af;subst af;refine cH.mk 3 rfl (by decide) ?_;refine fi.lC _ [] _ perm_nil (tl (d:=⟨3,dJ,s1,s2,dQ,fl,lo,cw,jq,jr,js,jt⟩) eU eW 3 (by decide) rfl (λ_=>Nat.succ_pos _)) (λv I' M' h x ab=>by rw[h.2.2];exact ab) ?_;rintro v dP dr -⟨rfl,rfl,rfl⟩;rw[dF];refine bc.mk ⟨cO,0,none⟩ i rfl rfl aK ?_;refine cg.f' [(⟨aU,.cells ys.toArray 46 (0,0)⟩:ay),⟨b9,.cells bj[q].cells.toArray 46 (0,0)⟩] M0 ((aM++List.replicate (t.n-i) bY).flatMap aZ.cells) _ rfl (tm fR aK _) rfl _ (fj _) ?_;refine a5.mk _ (cm (i:=i) (by omega)) ?_;exact⟨(i+1,_,⟨some aU,bL.n+1,eL,ys⟩),hinv _ _ h0,.sub (M1:=[(⟨aU,.cells ys.toArray 46 (0,0)⟩:ay),ee cO _]++M0) (.cons_cons _ (.cons _ (.refl _))) (.perm (List.Perm.swap _ _ _) .refl),hk,.cons rfl (.cons rfl .nil)⟩
 refine a0.mk (λh=>absurd (du h) af) (λ_=>?_);have uZ:lU pl bj aM d=k4:=by rw[lU,<-fr,ea af];simp
 rw[uZ]at hinv;have eU:=bk.QC (I:=cL) (M:=ee cO (aM++List.replicate (t.n-i) bY)::(bL.aY 46++M0)) (e:=46) fC (λx ab=>by simp[ab]);have jX:6<=d.k->0<bL.n:=λbO=>by have:=QD fI pj bO;omega
 have uX:d.k=0\/d.k=1\/d.k=2\/d.k=4\/d.k=5\/d.k=6\/d.k=7\/d.k=8\/d.k=9:=by omega
 obtain⟨iy,dJ,s1,s2,dQ,fl,lo,cw,jq,jr,js,jt⟩:=d;simp only at uX jX af;refine cW.draw aV rfl rfl rfl ?_;rcases uX with rfl | rfl | rfl | rfl | rfl | rfl | rfl | rfl | rfl
 ·refine cH.mk 0 rfl (by decide) ?_;refine fi.lC _ [] _ perm_nil (tl (d:=⟨0,dJ,s1,s2,dQ,fl,lo,cw,jq,jr,js,jt⟩) eU (lT eW) 0 (by decide) rfl (λh=>by omega)) (λv I' M' h x ab=>by rw[h.2.2];exact ab) ?_;rintro v dP dr -⟨rfl,rfl,rfl⟩;rw[dF];refine bc.mk ⟨cO,0,none⟩ i rfl rfl aK ?_;refine cg.f' [] (bL.aY 46++M0) ((aM++List.replicate (t.n-i) bY).flatMap aZ.cells) _ rfl (tm fR aK _) rfl _ (fj _) ?_;refine a5.mk _ (cm (i:=i) (by omega)) ?_;exact⟨(i+1,_,bL),hinv _ _ fC,.refl,hk,.cons rfl (.cons rfl .nil)⟩
 ·refine cH.mk 1 rfl (by decide) ?_;refine fi.lC _ [] _ perm_nil (tl (d:=⟨1,dJ,s1,s2,dQ,fl,lo,cw,jq,jr,js,jt⟩) eU (lT eW) 1 (by decide) rfl (λh=>by omega)) (λv I' M' h x ab=>by rw[h.2.2];exact ab) ?_;rintro v dP dr -⟨rfl,rfl,rfl⟩;rw[dF];refine bc.mk ⟨cO,0,none⟩ i rfl rfl aK ?_;refine cg.f' [] (bL.aY 46++M0) ((aM++List.replicate (t.n-i) bY).flatMap aZ.cells) _ rfl (tm fR aK _) rfl _ (fj _) ?_;refine a5.mk _ (cm (i:=i) (by omega)) ?_;exact⟨(i+1,_,bL),hinv _ _ fC,.refl,hk,.cons rfl (.cons rfl .nil)⟩
 ·refine cH.mk 2 rfl (by decide) ?_;refine fi.lC _ [] _ perm_nil (tl (d:=⟨2,dJ,s1,s2,dQ,fl,lo,cw,jq,jr,js,jt⟩) eU (lT eW) 2 (by decide) rfl (λh=>by omega)) (λv I' M' h x ab=>by rw[h.2.2];exact ab) ?_;rintro v dP dr -⟨rfl,rfl,rfl⟩;rw[dF];refine bc.mk ⟨cO,0,none⟩ i rfl rfl aK ?_;refine cg.f' [] (bL.aY 46++M0) ((aM++List.replicate (t.n-i) bY).flatMap aZ.cells) _ rfl (tm fR aK _) rfl _ (fj _) ?_;refine a5.mk _ (cm (i:=i) (by omega)) ?_;exact⟨(i+1,_,bL),hinv _ _ fC,.refl,hk,.cons rfl (.cons rfl .nil)⟩
 ·refine cH.mk 4 rfl (by decide) ?_;refine fi.lC _ [] _ perm_nil (tl (d:=⟨4,dJ,s1,s2,dQ,fl,lo,cw,jq,jr,js,jt⟩) eU (lT eW) 4 (by decide) rfl (λh=>by omega)) (λv I' M' h x ab=>by rw[h.2.2];exact ab) ?_;rintro v dP dr -⟨rfl,rfl,rfl⟩;rw[dF];refine bc.mk ⟨cO,0,none⟩ i rfl rfl aK ?_;refine cg.f' [] (bL.aY 46++M0) ((aM++List.replicate (t.n-i) bY).flatMap aZ.cells) _ rfl (tm fR aK _) rfl _ (fj _) ?_;refine a5.mk _ (cm (i:=i) (by omega)) ?_;exact⟨(i+1,_,bL),hinv _ _ fC,.refl,hk,.cons rfl (.cons rfl .nil)⟩
 ·refine cH.mk 5 rfl (by decide) ?_;refine fi.lC _ [] _ perm_nil (tl (d:=⟨5,dJ,s1,s2,dQ,fl,lo,cw,jq,jr,js,jt⟩) eU (lT eW) 5 (by decide) rfl (λh=>by omega)) (λv I' M' h x ab=>by rw[h.2.2];exact ab) ?_;rintro v dP dr -⟨rfl,rfl,rfl⟩;rw[dF];refine bc.mk ⟨cO,0,none⟩ i rfl rfl aK ?_;refine cg.f' [] (bL.aY 46++M0) ((aM++List.replicate (t.n-i) bY).flatMap aZ.cells) _ rfl (tm fR aK _) rfl _ (fj _) ?_;refine a5.mk _ (cm (i:=i) (by omega)) ?_;exact⟨(i+1,_,bL),hinv _ _ fC,.refl,hk,.cons rfl (.cons rfl .nil)⟩
 ·refine cH.mk 6 rfl (by decide) ?_;refine fi.lC _ [] _ perm_nil (tl (d:=⟨6,dJ,s1,s2,dQ,fl,lo,cw,jq,jr,js,jt⟩) eU (lT eW) 6 (by decide) rfl (λ_=>jX (by decide))) (λv I' M' h x ab=>by rw[h.2.2];exact ab) ?_;rintro v dP dr -⟨rfl,rfl,rfl⟩;rw[dF];refine bc.mk ⟨cO,0,none⟩ i rfl rfl aK ?_;refine cg.f' [] (bL.aY 46++M0) ((aM++List.replicate (t.n-i) bY).flatMap aZ.cells) _ rfl (tm fR aK _) rfl _ (fj _) ?_;refine a5.mk _ (cm (i:=i) (by omega)) ?_;exact⟨(i+1,_,bL),hinv _ _ fC,.refl,hk,.cons rfl (.cons rfl .nil)⟩
 ·refine cH.mk 7 rfl (by decide) ?_;refine fi.lC _ [] _ perm_nil (tl (d:=⟨7,dJ,s1,s2,dQ,fl,lo,cw,jq,jr,js,jt⟩) eU (lT eW) 7 (by decide) rfl (λ_=>jX (by decide))) (λv I' M' h x ab=>by rw[h.2.2];exact ab) ?_;rintro v dP dr -⟨rfl,rfl,rfl⟩;rw[dF];refine bc.mk ⟨cO,0,none⟩ i rfl rfl aK ?_;refine cg.f' [] (bL.aY 46++M0) ((aM++List.replicate (t.n-i) bY).flatMap aZ.cells) _ rfl (tm fR aK _) rfl _ (fj _) ?_;refine a5.mk _ (cm (i:=i) (by omega)) ?_;exact⟨(i+1,_,bL),hinv _ _ fC,.refl,hk,.cons rfl (.cons rfl .nil)⟩
 ·refine cH.mk 8 rfl (by decide) ?_;refine fi.lC _ [] _ perm_nil (tl (d:=⟨8,dJ,s1,s2,dQ,fl,lo,cw,jq,jr,js,jt⟩) eU (lT eW) 8 (by decide) rfl (λ_=>jX (by decide))) (λv I' M' h x ab=>by rw[h.2.2];exact ab) ?_;rintro v dP dr -⟨rfl,rfl,rfl⟩;rw[dF];refine bc.mk ⟨cO,0,none⟩ i rfl rfl aK ?_;refine cg.f' [] (bL.aY 46++M0) ((aM++List.replicate (t.n-i) bY).flatMap aZ.cells) _ rfl (tm fR aK _) rfl _ (fj _) ?_;refine a5.mk _ (cm (i:=i) (by omega)) ?_;exact⟨(i+1,_,bL),hinv _ _ fC,.refl,hk,.cons rfl (.cons rfl .nil)⟩
 ·refine cH.mk 9 rfl (by decide) ?_;refine fi.lC _ [] _ perm_nil (tl (d:=⟨9,dJ,s1,s2,dQ,fl,lo,cw,jq,jr,js,jt⟩) eU (lT eW) 9 (by decide) rfl (λ_=>jX (by decide))) (λv I' M' h x ab=>by rw[h.2.2];exact ab) ?_;rintro v dP dr -⟨rfl,rfl,rfl⟩;rw[dF];refine bc.mk ⟨cO,0,none⟩ i rfl rfl aK ?_;refine cg.f' [] (bL.aY 46++M0) ((aM++List.replicate (t.n-i) bY).flatMap aZ.cells) _ rfl (tm fR aK _) rfl _ (fj _) ?_;refine a5.mk _ (cm (i:=i) (by omega)) ?_;exact⟨(i+1,_,bL),hinv _ _ fC,.refl,hk,.cons rfl (.cons rfl .nil)⟩
structure aZ.le(a b:aZ):Prop where
 z:a.z=true->b.z=true
 s:a.s=true->b.s=true
 f:a.f=true->b.f=true
def aZ.le_refl(a:aZ):a.le a:=⟨id,id,id⟩
def aZ.le.trans{a b c:aZ}(h:a.le b)(a':b.le c):a.le c:=⟨λx=>a'.z (h.z x),λx=>a'.s (h.s x),λx=>a'.f (h.f x)⟩
def aZ.le.antisymm{a b:aZ}(h:a.le b)(a':b.le a):a=b:=by
 obtain⟨cc,dd,df⟩:=a;obtain⟨bI,cx,dx⟩:=b;have e:∀ {x y:Bool},(x=true->y=true)->(y=true->x=true)->x=y:=fun {x y} h a'=>by cases x<;>cases y<;>simp_all
 have aw:cc=bI:=e h.z a'.z;have aB:dd=cx:=e h.s a'.s;have bD:df=dx:=e h.f a'.f;subst aw aB bD;rfl
def aZ.ju(a:aZ):bY.le a:=⟨(λh=>by cases h),(λh=>by cases h),(λh=>by cases h)⟩
def aZ.J7{a b:aZ}(h:a.le b):a.hQ=true->b.hQ=true:=by intro ap;simp only[aZ.hQ,j7]at ap |-;exact ap.imp h.z h.s
inductive dT:List aZ->List aZ->Prop
 |nil:dT [] []| cons {a b l m} (h:aZ.le a b) (t:dT l m):dT (a::l) (b::m)
def dT.refl:∀ l,dT l l
 |[]=>.nil| a::l=>.cons a.le_refl (dT.refl l)
def dT.trans:∀ {a b c},dT a b->dT b c->dT a c
 |_,_,_,.nil,.nil=>.nil| _,_,_,.cons h t,.cons a' eS=>.cons (h.trans a') (t.trans eS)
def dT.antisymm:∀ {a b},dT a b->dT b a->a=b
 |_,_,.nil,_=>rfl| _,_,.cons h t,.cons a' eS=>by rw[h.antisymm a',t.antisymm eS]
def dT.len:∀ {a b},dT a b->a.length=b.length
 |_,_,.nil=>rfl| _,_,.cons h t=>by simp[t.len]
def dT.append:∀ {a b c d},dT a b->dT c d->dT (a++c) (b++d)
 |_,_,_,_,.nil,h=>h| _,_,_,_,.cons h t,a'=>.cons h (t.append a')
def dT.getD:∀ {a b},dT a b->∀ i,(a.getD i bY).le (b.getD i bY)
 |_,_,.nil,i=>by simp;exact aZ.le_refl _
 |_,_,.cons h t,0=>h| _,_,.cons h t,i+1=>by simpa using t.getD i
def dT.of:∀ {a b:List aZ},a.length=b.length->(∀ i,i<a.length->(a.getD i bY).le (b.getD i bY))->dT a b
 |[],[],_,_=>.nil| x::a,y::b,ar,h=>.cons (by simpa using h 0 (by simp)) (dT.of (by simpa using ar) λi hi=>by simpa using h (i+1) (by simpa using hi))
def dT.map{α:Type}{f g:α->aZ}:∀ {l:List α},(∀ x∈l,(f x).le (g x))->dT (l.map f) (l.map g)
 |[],_=>.nil| x::l,h=>.cons (h x (.head _)) (dT.map λy aN=>h y (.tail _ aN))
def dT.head{a b:List aZ}(h:dT a b):(a.headD bY).le (b.headD bY):=by
 cases h with
 |nil=>exact aZ.le_refl _| cons h _=>exact h
def dT.ju:∀ l:List aZ,dT (List.replicate l.length bY) l
 |[]=>.nil| a::l=>.cons a.ju (dT.ju l)
def Ge:∀ {a b:List aZ},dT a b->∀ {x y:aZ×Bool},x.1.le y.1->(x.2=true->y.2=true)->(a.foldl jZ x).1.le (b.foldl jZ y).1/\((a.foldl jZ x).2=true->(b.foldl jZ y).2=true)
 |_,_,.nil,_,_,U,aa=>⟨U,aa⟩
 |_,_,.cons h t,x,y,U,aa=>by
  refine Ge t ⟨?_,?_,?_⟩ ?_;·simp only[jZ,b3];exact λg=>⟨U.z g.1,h.z g.2⟩
  ·simp only[jZ,j7];exact λg=>g.imp U.s h.s
  ·simp only[jZ,j7,b3];exact λg=>g.imp U.f λg=>⟨aa g.1,h.f g.2⟩
  ·simp only[jZ,b3];exact λg=>⟨aa g.1,aZ.J7 h g.2⟩
def QG:∀ {a b:List aZ},dT a b->∀ {x y:aZ},x.le y->(a.foldl lk x).le (b.foldl lk y)
 |_,_,.nil,_,_,U=>U
 |_,_,.cons h t,x,y,U=>by
  refine QG t ⟨?_,?_,?_⟩;·simp only[lk,j7,b3];exact λg=>g.imp U.z λg=>⟨U.f g.1,h.z g.2⟩
  ·simp only[lk,j7,b3];exact λg=>g.imp U.s λg=>⟨U.f g.1,h.s g.2⟩
  ·simp only[lk,b3];exact λg=>⟨U.f g.1,h.f g.2⟩
def ZD(d:a9){a b:aZ}(h:a.le b):(lS d a).le (lS d b):=by
 unfold lS;cases decide (d.hi=0)with
 |true=>exact aZ.le_refl _
 |false=>
  refine⟨?_,h.s,?_⟩;·simp only[ba,j7,b3];exact λg=>g.imp h.z λg=>⟨g.1,h.f g.2⟩
  ·simp only[ba,b3];exact λg=>⟨g.1,h.f g.2⟩
def ZE(d:a9){a b:List aZ}(h:dT a b):(dN d a).le (dN d b):=by
 have bA:=h.head;unfold dN;cases decide (d.k=0)with
 |true=>exact aZ.le_refl _| false=>
 cases decide (d.k=1)with
 |true=>exact aZ.le_refl _| false=>
 cases decide (d.k=2)with
 |true=>exact aZ.le_refl _| false=>
 cases decide (d.k=3)with
 |true=>exact bA| false=>
 cases decide (d.k=4)with
 |true=>have ap:=Ge h (x:=(⟨true,false,false⟩,true)) (y:=(⟨true,false,false⟩,true)) (aZ.le_refl _) id;refine⟨ap.1.z,?_,ap.1.f⟩;simp only[bh,ba,Ac,n7,b3];exact λg=>⟨ap.1.s g.1,ap.2 g.2⟩
 |false=>
 cases decide (d.k=5)with
 |true=>exact QG h (aZ.le_refl _)| false=>
 cases decide (d.k=6)with
 |true=>exact ZD d bA| false=>
 cases decide (d.k=7)with
 |true=>exact⟨aZ.J7 bA,id,bA.f⟩| false=>
 cases decide (d.k=8)with
 |true=>exact⟨bA.f,id,aZ.J7 bA⟩| false=>exact bA
def ZF{q4:List aZ}(h:dT bj p')(aC:dT aM q4)(d:a9):dT (lU pl bj aM d) (lU pl p' q4 d):=by
 unfold lU;refine(dT.map λk _=>aC.getD _).append ?_;cases decide (d.k=3)with
 |true=>exact .cons (h.getD _) .nil| false=>exact .nil
def QH{pl:List (ByteArray×Int)}{bj p':List aZ}(h:dT bj p'):∀ (ds:List a9) {aM q4:List aZ},dT aM q4->dT (eN pl bj ds aM) (eN pl p' ds q4)
 |[],_,_,aC=>aC| d::ds,_,_,aC=>QH h ds (aC.append (.cons (ZE d (ZF h aC d)) .nil))
def kU(pl:List (ByteArray×Int))(bj:List aZ)(d:bE):aZ:=(eN pl bj d.t.ns []).getD d.t.b1.toNat bY
def J8(h:dT bj p')(d:bE):(kU pl bj d).le (kU pl p' d):=(QH h d.t.ns .nil).getD _
def ll(pl:List (ByteArray×Int)):Nat->List bE->List aZ->List aZ
 |_,[],l=>l| i,d::ds,l=>ll pl (i+1) ds (l.set i (kU pl l d))
structure q5(ds:List bE)(l:List aZ):Prop where
 len:l.length=ds.length
 up:∀ i (h:i<ds.length),(l.getD i bY).le (kU (bM ds) l ds[i])
 least:∀ m:List aZ,m.length=ds.length->(∀ i (h:i<ds.length),(kU (bM ds) m ds[i]).le (m.getD i bY))->dT l m
def CO(l:List aZ)(i j:Nat)(x:aZ)(hi:i<l.length):(l.set i x).getD j bY=if i=j then x else l.getD j bY:=by
 simp only[dh,sW];by_cases e:i=j
 ·subst e;simp[hi]
 ·rw[cA e,cA e]
def q5.start(ds:List bE):q5 ds (List.replicate ds.length bY):=by
 refine⟨by simp,λi h=>?_,λm hm _=>by rw[<-hm];exact dT.ju m⟩;have:(List.replicate ds.length bY).getD i bY=bY:=by simp[dh,h]
 rw[this];exact aZ.ju _
def q5.step{ds:List bE}{l:List aZ}(h:q5 ds l){i:Nat}(hi:i<ds.length):q5 ds (l.set i (kU (bM ds) l ds[i]))/\dT l (l.set i (kU (bM ds) l ds[i])):=by
 have ek:i<l.length:=by rw[h.len];exact hi
 have bo:dT l (l.set i (kU (bM ds) l ds[i])):=dT.of (by simp) λj an=>by
  rw[CO _ _ _ _ ek];by_cases e:i=j;·subst e;rw[cK rfl];exact h.up i hi
  ·rw[cA e];exact aZ.le_refl _
 refine⟨⟨by simpa using h.len,λj an=>?_,λm hm aL=>?_⟩,bo⟩
 ·rw[CO _ _ _ _ ek];by_cases e:i=j
  ·subst e;rw[cK rfl];exact J8 bo _
  ·rw[cA e];exact(h.up j an).trans (J8 bo _)
 ·have CP:=h.least m hm aL;refine dT.of (by simp[h.len,hm]) λj an=>?_;rw[CO _ _ _ _ ek];by_cases e:i=j
  ·subst e;rw[cK rfl];exact(J8 CP _).trans (aL i hi)
  ·rw[cA e];exact CP.getD j
def J9{ds:List bE}:∀ (a2 a6:List bE) {l:List aZ},ds=a6++a2->q5 ds l->q5 ds (ll (bM ds) a6.length a2 l)/\dT l (ll (bM ds) a6.length a2 l) /\ (ll (bM ds) a6.length a2 l=l->∀ i (h:i<ds.length),a6.length<=i->l.getD i bY=kU (bM ds) l ds[i])
 |[],a6,l,jn,h=>⟨h,dT.refl l,λ_ i hi c1=>by rw[jn,dF]at hi;omega⟩
 |d::a2,a6,l,jn,h=>by
  have hi:a6.length<ds.length:=by rw[jn];simp
  have ah:ds[a6.length]=d:=by simp[jn]
  have ek:a6.length<l.length:=by rw[h.len];exact hi
  obtain⟨s1,s2⟩:=h.step hi;rw[ah]at s1 s2;obtain⟨gC,eG,gT⟩:=J9 a2 (a6++[d]) (by rw[jn];simp) s1;rw[cU,e1,jh,dk]at gC eG gT;refine⟨gC,s2.trans eG,λe i g8 c1=>?_⟩;have aw:l.set a6.length (kU (bM ds) l d)=l:=by refine dT.antisymm ?_ s2;have:ll (bM ds) a6.length (d::a2) l=ll (bM ds) (a6.length+1) a2 (l.set a6.length (kU (bM ds) l d)):=rfl;rw[this]at e;rw[e]at eG;exact eG
  have aB:ll (bM ds) (a6.length+1) a2 l=l:=by have:ll (bM ds) a6.length (d::a2) l=ll (bM ds) (a6.length+1) a2 (l.set a6.length (kU (bM ds) l d)):=rfl;rw[this,aw]at e;exact e
  rw[aw]at gT;by_cases aG:i=a6.length;·subst aG;have aR:=CO l a6.length a6.length (kU (bM ds) l d) ek;rw[aw,cK rfl]at aR;rw[aR,ah]
  ·exact gT aB i g8 (by omega)
structure u0(ds:List bE)(l:List aZ):Prop where
 len:l.length=ds.length
 fix:∀ i (h:i<ds.length),l.getD i bY=kU (bM ds) l ds[i]
 least:∀ m:List aZ,m.length=ds.length->(∀ i (h:i<ds.length),(kU (bM ds) m ds[i]).le (m.getD i bY))->dT l m
def q5.done{ds:List bE}{l:List aZ}(h:q5 ds l)(az:ll (bM ds) 0 ds l=l):u0 ds l:=
 ⟨h.len,λi hi=>(J9 ds [] rfl h).2.2 az i hi (bq _),h.least⟩
def u0.unique{ds:List bE}{l c4:List aZ}(h:u0 ds l)(a':u0 ds c4):l=c4:=
 dT.antisymm (h.least c4 a'.len λi hi=>by rw[<-a'.fix i hi];exact aZ.le_refl _) (a'.least l h.len λi hi=>by rw[<-h.fix i hi];exact aZ.le_refl _)
def Ag(x:aZ):Nat:=(bif x.z then 0 else 1)+((bif x.s then 0 else 1)+(bif x.f then 0 else 1))
def wB(l:List aZ):Nat:=(l.map Ag).sum
def ZG{a b:aZ}(h:a.le b):Ag b<=Ag a/\(Ag a<=Ag b->a=b):=by
 obtain⟨cc,dd,df⟩:=a;obtain⟨bI,cx,dx⟩:=b;obtain⟨U,aa,af⟩:=h;cases cc<;>cases bI<;>cases dd<;>cases cx<;>cases df<;>cases dx<;>simp_all[Ag]
def QI:∀ {l m:List aZ},dT l m->wB m<=wB l/\(wB l<=wB m->l=m)
 |_,_,.nil=>⟨cC _,λ_=>rfl⟩| _,_,.cons h t=>by obtain⟨U,aa⟩:=ZG h;obtain⟨t1,t2⟩:=QI t;simp only[wB,dV,qK]at t1 t2 |-;refine⟨by omega,λh=>?_⟩;rw[aa (by omega),t2 (by omega)]
def ZH{l m:List aZ}(h:dT l m)(bB:m≠l):wB m<wB l:=by obtain⟨U,aa⟩:=QI h;apply Nat.lt_of_le_of_ne U;intro e;exact bB (aa (by omega)).symm
def r4(bU:ByteArray):List bE->Nat->Option Int
 |[],_=>none| d::ds,i=>bif decide (bU=d.name)then some (i:Int)else r4 bU ds (i+1)
def QJ(s n:ByteArray)(v:Int):∀ l:List (ByteArray×Int),dI s (l++[(n,v)])=match dI s l with
  |some x=>some x| none=>bif decide (s=n)then some v else none
 |[]=>rfl
 |p::l=>by
  have be:=QJ s n v l;simp only[sY,dI];cases decide (s=p.1)with
  |true=>rfl| false=>simpa using be
def QK:∀ (ds:List bE) (aM:List (ByteArray×Int)) (i:Nat) (bU:ByteArray),dI bU (tk aM i ds)=match dI bU aM with
  |some x=>some x| none=>r4 bU ds i
 |[],aM,i,bU=>by rw[tk,r4];cases dI bU aM<;>rfl
 |d::ds,aM,i,bU=>by
  rw[tk,QK ds,r4];cases ah:(dI d.name aM).isSome with
  |true=>
   simp only[bh];cases ar:dI bU aM with
   |some x=>rfl
   |none=>
    have:decide (bU=d.name)=false:=by rw[nP];intro e;rw[<-e,ar]at ah;cases ah
    rw[this];rfl
  |false=>
   simp only[ba,QJ];cases ar:dI bU aM with
   |some x=>rfl| none=>cases decide (bU=d.name)<;>rfl
def Gf(ds:List bE)(bU:ByteArray):dI bU (bM ds)=r4 bU ds 0:=QK ds [] 0 bU
def J':∀ {ds:List bE} {i:Nat} {bU:ByteArray} {v:Int},r4 bU ds i=some v->∃ j:Nat,v=((i+j:Nat):Int)/\j<ds.length
 |d::ds,i,bU,v,h=>by
  unfold r4 at h;cases ah:decide (bU=d.name)with
  |true=>rw[ah]at h;simp only[bh,iJ]at h;exact⟨0,by rw[<-h];rfl,by simp⟩| false=>rw[ah]at h;obtain⟨j,U,aa⟩:=J' h;exact⟨j+1,by rw[U];congr 1;omega,by simpa using aa⟩
def r5(pl:List (ByteArray×Int))(ns:List a9):Bool:=ns.all λd=>!decide (d.k=3)||(dI d.t pl).isSome
def Ka{ds:List bE}{ns:List a9}(h:r5 (bM ds) ns=true):J2 (bM ds) ds.length ns:=by intro d ah ae;have:=gi.1 h d ah;simp only[ae,Gb,oB,ud]at this;obtain⟨v,ag⟩:=Option.isSome_iff_exists.1 this;have kB:=ag;rw[Gf]at kB;obtain⟨j,U,aa⟩:=J' kB;rw[dk]at U;exact⟨j,by rw[ag,U],aa⟩
def QL:∀ (ds:List bE) {aM r:List (ByteArray×Int)} {i:Nat},n3 aM i ds=some r->tk aM i ds=r
 |[],aM,r,i,h=>by simp only[n3,iJ]at h;exact h
 |d::ds,aM,r,i,h=>by
  unfold n3 at h;cases ah:(dI d.name aM).isSome with
  |true=>rw[ah]at h;cases h| false=>rw[ah]at h;rw[tk,ah];exact QL ds h
def ZI{d:bE}{ch:a9}(ax:ch∈d.t.ns):∀ (ds:List bE) (i:Nat),d∈ds->∃ j,(j,ch)∈r0 i ds:=by
 intro ds
 induction ds with
 |nil=>intro i ah;cases ah
 |cons x ds be=>
  intro i ah;rcases eg.1 ah with e | ah;·subst e;exact⟨i,eb.2 (.inl (ej.2 ⟨ch,ax,rfl⟩))⟩
  ·obtain⟨j,an⟩:=be (i+1) ah;exact⟨j,eb.2 (.inr an)⟩
def ZJ(h:g1 aW g=0):∀ d∈g.ds,r5 (bM g.ds) d.t.ns=true:=by
 unfold g1 at h;cases U:decide ((g.n:Int)=0)with
 |true=>rw[U]at h;cases h| false=>
 cases aa:te g.ds with
 |false=>rw[U,aa]at h;cases h| true=>
 cases af:td aW g with
 |true=>rw[U,aa,af]at h;cases h| false=>
 rw[U,aa,af]at h;simp only[ba,oB]at h;split at h
 ·cases h
 ·rename_i aM fR;have aG:bM g.ds=aM:=QL g.ds fR;cases aR:uR aM g.ds with
  |false=>rw[aR]at h;cases h| true=>intro d ah;rw[aG,r5,gi];intro ch cJ;obtain⟨j,an⟩:=ZI cJ g.ds 0 ah;exact gi.1 aR _ an
def ZK(h:g1 aW g=0):te g.ds=true:=by
 unfold g1 at h;cases U:decide ((g.n:Int)=0)with
 |true=>rw[U]at h;cases h| false=>
 cases aa:te g.ds with
 |false=>rw[U,aa]at h;cases h| true=>rfl
def kT.mono{I':aS}{a:Option Addr}{n:Nat}(h:kT I M a n ks)(bF:∀ b o,I b=some o->I' b=some o):kT I' M a n ks:=
 ⟨h.n,λj an=>by
  obtain⟨ad,U,aa⟩:=h.rd j an;exact⟨ad,U,aa.mono bF⟩⟩
def QM{b:Nat}{l:List aZ}(a4:ee b l∈M):kT I M (some ⟨b,0,none⟩) l.length l:=
 ⟨rfl,λj an=>⟨_,rfl,wA a4 an⟩⟩
def wC(g:dX)(bj:List aZ)(t:dG):Option (List aZ):=bif decide (bj.length=g.n)&&(right t&&r5 (bM g.ds) t.ns)then some (eN (bM g.ds) bj t.ns [])else none
def ZL(b6:ix I aW)(aA:g.ok I){t:dG}(av:t.ok I)(n4:kT I M0 q2 ln bj) :
  Spec Tryz.prog 45 [g.val,.slice q2 ln lc,t.val] I M0 λv I' M'=>(∀ b o,I b=some o->I' b=some o) /\
   ((wC g bj t=none/\v=.tuple #[.slice none 0 0,.bool false]/\M'=M0)\/∃ r b,wC g bj t=some r/\v=.tuple #[.slice (some ⟨b,0,none⟩) t.n t.n,.bool true]/\M'=ee b r::M0):=by
 refine bX [] aV Tryz.func45 rfl rfl rfl ?_;intro B ao;have gb:=aA.n;have pf:=av.n;have ki:=av.bd.cap;have QN:=n4.n;refine cB.mk (λh=>?_) (λh=>?_)
 rotate_left
 ·refine⟨_,_,.refl,λ_ _ h=>h,.inl ⟨?_,rfl,rfl⟩⟩;have bB:¬ (ln:Int)=(g.n:Int):=by simpa using h
  have:decide (bj.length=g.n)=false:=ea (by omega);simp[wC,this]
 have Gg:ln=g.n:=by
  have:(ln:Int)=(g.n:Int):=by simpa using h
  omega
 have hc:decide (bj.length=g.n)=true:=iQ (by omega);refine bb.mk [] M0 _ (.refl _) (xX b6.c av) ?_;rintro v cL M1 -⟨rfl,rfl,rfl⟩;refine a0.mk (λh=>?_) (λh=>?_)
 ·refine⟨_,_,.refl,λ_ _ h=>h,.inl ⟨?_,rfl,rfl⟩⟩;have:right t=false:=by simpa using h
  simp[wC,this]
 have al:right t=true:=by simpa using h
 refine bb.mk [] M0 _ (.refl _) (QA aA) ?_;rintro v dP dr -⟨ht,rfl,gL,rfl,Ah⟩;have nb:=av.mono ht;refine dB.inv (ι:=Nat) (λx=>{ bj:=[(1,.val (.slice q2 ln lc)),(3,.ref 3 0),(5,.ref 5 0),(8,.val (.map (some gL))),(27,.val (.slice t.a t.n t.c)),(28,.val (.int .i64 t.n)),(29,.val (.int .i64 x))],cl:=[(3,[.slice g.a g.n g.c]),(5,t.cells)],c5:=dP,dv:=M0 }) (λx=>x<=t.n/\∀ d∈t.ns.take x,(!decide (d.k=3)||(dI d.t (bM g.ds)).isSome)=true) (λx=>t.n-x) ?_ ?_
 ·exact⟨0,⟨bq _,λd ah=>by simp at ah⟩,.refl,im,.cons rfl (.cons rfl .nil)⟩
 rintro i⟨hi,uq⟩;refine a0.mk (λh=>?_) (λh=>?_)
 ·have aK:i<t.n:=by have:(i:Int)<(t.n:Int):=du h;omega
  have bP:i<t.ns.length:=by omega
  obtain⟨ad,b7,bs⟩:=nb.bd.row a9.de aK bP;have nT:t.ns.take (i+1)=t.ns.take i++[t.ns[i]]:=hU bP;have gF:=dK bP;have next:(!decide (t.ns[i].k=3)||(dI t.ns[i].t (bM g.ds)).isSome)=true->∀ d∈t.ns.take (i+1),(!decide (d.k=3)||(dI d.t (bM g.ds)).isSome)=true:=λh d ah=>by
   rw[nT]at ah;rcases eb.1 ah with ah | ah;·exact uq d ah
   ·simp only[iY]at ah;rw[ah];exact h
  refine bc.mk ad i b7 rfl aK ?_;refine aF.mk _ (bs _) ?_;refine a0.mk (λaf=>?_) (λaf=>?_);·refine a5.mk _ (cm (i:=i) (by omega)) ?_;refine⟨i+1,⟨⟨by omega,next ?_⟩,by omega⟩,.refl,im,.cons rfl (.cons rfl .nil)⟩;rw[show(!decide (t.ns[i].k=3))=true from af];rfl
  ·refine bl.Qz aV rfl (by simp) rfl rfl rfl rfl (λw=>CA w) (l:=bM g.ds) (g:=gL) rfl rfl (.inl Ah) ?_;refine a0.mk (λaR=>?_) (λaR=>?_)
   ·refine⟨_,_,.refl,ht,.inl ⟨?_,rfl,rfl⟩⟩;have bC:r5 (bM g.ds) t.ns=false:=by
     rw[r5,Fz];refine⟨_,gF,?_⟩;have bO:(dI t.ns[i].t (bM g.ds)).isSome=false:=by simpa using aR
     rw[bO,show(!decide (t.ns[i].k=3))=false from af];simp
    simp[wC,bC]
   ·refine a5.mk _ (cm (i:=i) (by omega)) ?_;refine⟨i+1,⟨⟨by omega,next ?_⟩,by omega⟩,.refl,im,.cons rfl (.cons rfl .nil)⟩;have bO:(dI t.ns[i].t (bM g.ds)).isSome=true:=by simpa using aR
    rw[bO];simp
 have c1:i=t.n:=by have:¬ (i:Int)<(t.n:Int):=dt h;omega
 rw[hn (by omega)]at uq;have d':r5 (bM g.ds) t.ns=true:=gi.2 uq;have tn:=Ka d';rw[gb,<-Gg]at tn;refine bb.mk M0 [] _ perm_nil (QF nb al Ah (n4.mono ht) tn) ?_;rintro v hL mc -⟨rfl,b,rfl,rfl⟩;rw[dF];exact⟨_,_,.refl,ht,.inr ⟨_,b,by rw[wC,hc,al,d'];rfl,rfl,rfl⟩⟩
structure Kb(g:dX):Prop where
 n:g.ds.length=g.n
 right:∀ d∈g.ds,right d.t=true
 named:∀ d∈g.ds,r5 (bM g.ds) d.t.ns=true
def Kc(ax:g.ds.length=g.n)(h:g1 aW g=0):Kb g:=by refine⟨ax,λd ah=>?_,ZJ h⟩;have:=gi.1 (ZK h) d ah;simp only[normal,b3]at this;exact this.2.1
def ofM(bQ gL eZ dy bI:Nat)(g:dX)(l:List aZ):List ay:=[⟨bQ,.cells #[.map (some gL)] 96 (0,0)⟩,⟨eZ,.cells #[.slice (some ⟨dy,0,none⟩) g.n g.n] 34 (0,0)⟩,ee dy l,⟨bI,.cells #[.slice g.a g.n g.c] 24 (0,0)⟩]
def CQ(a b c d:α):[a,b,c,d].Perm ([c]++[a,b,d]):=pi (l₁:=[a,b]) (l₂:=[d])
def ZM(x a b c d:α):[x,a,b,c,d].Perm ([c]++[x,a,b,d]):=pi (l₁:=[x,a,b]) (l₂:=[d])
def Gh{b:Nat}{f:aZ}(a4:(⟨b,.cells f.cells.toArray 46 (0,0)⟩:ay)∈M):ca I M (⟨b,0,none⟩:Addr) 3 f.cells:=⟨rfl,_,_,_,.inr ⟨_,a4,rfl,rfl⟩,rfl,rfl⟩
def QO{l:List aZ}{i:Nat}(hi:i<l.length){x:aZ}:Nat.ble (0+i*3+x.cells.length) (l.flatMap aZ.cells).length=true:=by rw[mA,yq,aZ.de];omega
def cg.aP{a:Addr}{K:List ay->Prop}(a6 post:List ay)(cs:Array Value)(T:Nat)(a4:M=a6++⟨a.block,.cells cs T (0,0)⟩::post)(ap:a.spot=none)(ai:Nat.ble (a.off+vs.length) cs.size=true)(U:hH vs=true)(cs':List Value)(he:bu cs.toList a.off vs=cs')(k:K (a6++⟨a.block,.cells cs'.toArray T (0,0)⟩::post)):cg M a vs K:=
 ⟨a6,post,cs,T,a4,ap,bJ ai,U,by rw[he];exact k⟩
def ZN(aA:g.ok I)(hm:Kb g){bQ eZ dy bI:Nat}(Ah:I gL=some (hO (bM g.ds))){dC:List aZ}(vB:q5 g.ds dC) :
  Spec Tryz.prog 43 [ptr bI,ptr bQ,ptr eZ] I (ofM bQ gL eZ dy bI g dC) λv I' M'=>v=.bool (decide (ll (bM g.ds) 0 g.ds dC≠dC))/\I'=I/\M'=ofM bQ gL eZ dy bI g (ll (bM g.ds) 0 g.ds dC):=by
 refine bX [] aV Tryz.func43 rfl rfl rfl ?_;intro B ao;have gb:=aA.n;have ki:=aA.bd.cap;have Kd:∀ {M:List ay},(⟨bI,.cells #[.slice g.a g.n g.c] 24 (0,0)⟩:ay)∈M->ca I M ((⟨bI,0,none⟩:Addr).add 0) 1 [.slice g.a g.n g.c]:=λa4=>dn (cs:=[.slice g.a g.n g.c]) (k:=0) (n:=1) a4 (by simp);have CR:∀ {M:List ay},(⟨bQ,.cells #[.map (some gL)] 96 (0,0)⟩:ay)∈M->ca I M (⟨bQ,0,none⟩:Addr) 1 [.map (some gL)]:=λa4=>⟨rfl,_,_,_,.inr ⟨_,a4,rfl,rfl⟩,rfl,rfl⟩;have CS:∀ {M:List ay},(⟨eZ,.cells #[.slice (some ⟨dy,0,none⟩) g.n g.n] 34 (0,0)⟩:ay)∈M->ca I M (⟨eZ,0,none⟩:Addr) 1 [.slice (some ⟨dy,0,none⟩) g.n g.n]:=λa4=>⟨rfl,_,_,_,.inr ⟨_,a4,rfl,rfl⟩,rfl,rfl⟩;refine aF.mk _ (Kd (by simp[ofM])) ?_;refine dB.inv (ι:=Nat×List aZ) (λx=>{ bj:=[(0,.val (ptr bI)),(1,.val (ptr bQ)),(2,.val (ptr eZ)),(4,.val (.bool (decide (x.2≠dC)))),(9,.val (.slice g.a g.n g.c)),(10,.val (.int .i64 g.n)),(11,.val (.int .i64 x.1))],c5:=I,dv:=ofM bQ gL eZ dy bI g x.2 }) (λx=>x.1<=g.n/\q5 g.ds x.2/\dT dC x.2/\ll (bM g.ds) 0 g.ds dC=ll (bM g.ds) x.1 (g.ds.drop x.1) x.2) (λx=>g.n-x.1) ?_ ?_
 ·refine⟨(0,dC),⟨bq _,vB,dT.refl _,rfl⟩,.refl,.cons .refl (.cons .refl (.cons .refl (.cons ?_ (fZ)))),.nil⟩;exact Ab (by simp)
 rintro⟨i,l⟩⟨hi,lp,bo,r6⟩;simp only at hi lp bo r6;have oI:=lp.len;refine a0.mk (λh=>?_) (λh=>?_)
 rotate_left
 ·have c1:i=g.n:=by have:¬ (i:Int)<(g.n:Int):=dt h;omega
  rw[ir (by omega),ll]at r6;exact⟨_,_,.refl,by rw[r6],rfl,by rw[r6]⟩
 have aK:i<g.n:=by have:(i:Int)<(g.n:Int):=du h;omega
 have bP:i<g.ds.length:=by omega
 have ek:i<l.length:=by omega
 obtain⟨ad,b7,bs⟩:=aA.bd.row bE.de aK bP;have eA:=dK bP;have ah:=aA.ds _ eA;have al:=hm.right _ eA;have tn:=Ka (hm.named _ eA);rw[show g.ds.length=l.length from oI.symm]at tn;obtain⟨Ai,oH⟩:=lp.step bP;have q6:ll (bM g.ds) 0 g.ds dC=ll (bM g.ds) (i+1) (g.ds.drop (i+1)) (l.set i (kU (bM g.ds) l g.ds[i])):=by rw[r6,fg bP,ll]
 have u1:kU (bM g.ds) l g.ds[i]=(eN (bM g.ds) l g.ds[i].t.ns []).getD g.ds[i].t.b1.toNat bY:=rfl;generalize kU (bM g.ds) l g.ds[i]=f at Ai oH q6 u1;generalize g.ds[i]=d at bs ah al tn u1;have zT:=Cb al;have pf:=ah.t.n;have qH:=J1 (bM g.ds) l d.t.ns [];simp only[jh,dk]at qH;have gx:d.t.b1.toNat<(eN (bM g.ds) l d.t.ns []).length:=by omega
 have pM:(eN (bM g.ds) l d.t.ns [])[d.t.b1.toNat]=f:=by rw[u1];simp[dh,gx]
 have Aj:=QF (M0:=[ee dy l]) (ln:=l.length) (lc:=g.n) ah.t al Ah (QM (I:=I) (iY.2 rfl)) tn;rw[show l.length=g.n by omega]at Aj;refine bc.mk ad i b7 rfl aK ?_;refine aF.mk _ (bs _) ?_;have Ke:l.getD i bY=l[i]:=by simp[dh,ek]
 have more:(!decide (f=l[i]))=true->decide (l.set i f≠dC)=true:=λh=>by
  have bB:f≠l[i]:=by simpa using h
  rw[e0];intro e;have aB:l.set i f=l:=by refine dT.antisymm ?_ oH;rw[e];exact bo
  have af:=CO l i i f ek;rw[aB,cK rfl,Ke]at af;exact bB af.symm
 have same:(!decide (f=l[i]))=false->l.set i f=l:=λh=>by
  have he:f=l[i]:=by simpa using h
  rw[he];exact List.set_getElem_self ek
 refine cW.draw aV rfl rfl rfl ?_;refine aF.mk _ (CR (by simp[ofM])) ?_;refine aF.mk _ (CS (by simp[ofM])) ?_;refine⟨?_,?_⟩
 ·refine fi.lC [ee dy l] [⟨bQ,.cells #[.map (some gL)] 96 (0,0)⟩,⟨eZ,.cells #[.slice (some ⟨dy,0,none⟩) g.n g.n] 34 (0,0)⟩,⟨bI,.cells #[.slice g.a g.n g.c] 24 (0,0)⟩] _ (CQ ..) Aj (λv I' M' h x ab=>by obtain⟨-,b,-,rfl⟩:=h;exact .tail _ ab) ?_;rintro v dP dr -⟨rfl,b,rfl,rfl⟩;refine bc.mk ⟨b,0,none⟩ d.t.b1.toNat rfl (by omega) (by omega) ?_;refine aF.mk _ (wA (.head _) gx) ?_;rw[pM];refine cz.mk λgf Kf QP=>?_;refine cg.aP [] [ee b (eN (bM g.ds) l d.t.ns []),ee dy l,⟨bQ,.cells #[.map (some gL)] 96 (0,0)⟩,⟨eZ,.cells #[.slice (some ⟨dy,0,none⟩) g.n g.n] 34 (0,0)⟩,⟨bI,.cells #[.slice g.a g.n g.c] 24 (0,0)⟩] _ _ rfl rfl rfl rfl f.cells rfl ?_;refine cW.draw aV rfl rfl rfl ?_;refine aF.mk f.cells (Gh (by simp)) ?_;refine aF.mk _ (CS (by simp)) ?_;refine bc.mk ⟨dy,0,none⟩ i rfl rfl aK ?_;refine aF.mk _ (wA (by simp) ek) ?_;refine fh.Qu (p:=f) (q:=l[i]) ?_;refine a0.mk (λh=>?_) (λh=>?_)
  ·refine aF.mk _ (CS (by simp)) ?_;refine aF.mk f.cells (Gh (by simp)) ?_;refine bc.mk ⟨dy,0,none⟩ i rfl rfl aK ?_;refine cg.f' [(⟨gf,.cells f.cells.toArray 46 (0,0)⟩:ay),ee b (eN (bM g.ds) l d.t.ns [])] [⟨bQ,.cells #[.map (some gL)] 96 (0,0)⟩,⟨eZ,.cells #[.slice (some ⟨dy,0,none⟩) g.n g.n] 34 (0,0)⟩,⟨bI,.cells #[.slice g.a g.n g.c] 24 (0,0)⟩] (l.flatMap aZ.cells) _ rfl (QO ek) rfl ((l.set i f).flatMap aZ.cells) (by rw[dk];exact J0 l i ek f) ?_;refine a5.mk _ (cm (i:=i) (by omega)) ?_;refine⟨(i+1,l.set i f),⟨⟨by simp only;omega,Ai,bo.trans oH,q6⟩,by simp only;omega⟩,.sub (M1:=[ee dy (l.set i f),⟨bQ,.cells #[.map (some gL)] 96 (0,0)⟩,⟨eZ,.cells #[.slice (some ⟨dy,0,none⟩) g.n g.n] 34 (0,0)⟩,⟨bI,.cells #[.slice g.a g.n g.c] 24 (0,0)⟩]) (by exact .cons _ (.cons _ (.refl _))) (.perm (CQ ..).symm .refl),.cons .refl (.cons .refl (.cons .refl (.cons (Ab (more h).symm) (fZ)))),.nil⟩
  ·have he:l.set i f=l:=same h;rw[he]at q6;refine a5.mk _ (cm (i:=i) (by omega)) ?_;exact⟨(i+1,l),⟨⟨by simp only;omega,lp,bo,q6⟩,by simp only;omega⟩,.sub (M1:=[ee dy l,⟨bQ,.cells #[.map (some gL)] 96 (0,0)⟩,⟨eZ,.cells #[.slice (some ⟨dy,0,none⟩) g.n g.n] 34 (0,0)⟩,⟨bI,.cells #[.slice g.a g.n g.c] 24 (0,0)⟩]) (by exact .cons _ (.cons _ (.refl _))) (.perm (CQ ..).symm .refl),im,.nil⟩
 ·refine cz.mk λgf Kf QP=>?_;refine fi.lC [ee dy l] [(⟨gf,.cells bY.cells.toArray 46 (0,0)⟩:ay),⟨bQ,.cells #[.map (some gL)] 96 (0,0)⟩,⟨eZ,.cells #[.slice (some ⟨dy,0,none⟩) g.n g.n] 34 (0,0)⟩,⟨bI,.cells #[.slice g.a g.n g.c] 24 (0,0)⟩] _ (ZM ..) Aj (λv I' M' h x ab=>by obtain⟨-,b,-,rfl⟩:=h;exact .tail _ ab) ?_;rintro v dP dr -⟨rfl,b,rfl,rfl⟩;refine bc.mk ⟨b,0,none⟩ d.t.b1.toNat rfl (by omega) (by omega) ?_;refine aF.mk _ (wA (.head _) gx) ?_;rw[pM];refine cg.aP [ee b (eN (bM g.ds) l d.t.ns []),ee dy l] [⟨bQ,.cells #[.map (some gL)] 96 (0,0)⟩,⟨eZ,.cells #[.slice (some ⟨dy,0,none⟩) g.n g.n] 34 (0,0)⟩,⟨bI,.cells #[.slice g.a g.n g.c] 24 (0,0)⟩] _ _ rfl rfl rfl rfl f.cells rfl ?_;refine cW.draw aV rfl rfl rfl ?_;refine aF.mk f.cells (Gh (by simp)) ?_;refine aF.mk _ (CS (by simp)) ?_;refine bc.mk ⟨dy,0,none⟩ i rfl rfl aK ?_;refine aF.mk _ (wA (by simp) ek) ?_;refine fh.Qu (p:=f) (q:=l[i]) ?_;refine a0.mk (λh=>?_) (λh=>?_)
  ·refine aF.mk _ (CS (by simp)) ?_;refine aF.mk f.cells (Gh (by simp)) ?_;refine bc.mk ⟨dy,0,none⟩ i rfl rfl aK ?_;refine cg.f' [ee b (eN (bM g.ds) l d.t.ns [])] [(⟨gf,.cells f.cells.toArray 46 (0,0)⟩:ay),⟨bQ,.cells #[.map (some gL)] 96 (0,0)⟩,⟨eZ,.cells #[.slice (some ⟨dy,0,none⟩) g.n g.n] 34 (0,0)⟩,⟨bI,.cells #[.slice g.a g.n g.c] 24 (0,0)⟩] (l.flatMap aZ.cells) _ rfl (QO ek) rfl ((l.set i f).flatMap aZ.cells) (by rw[dk];exact J0 l i ek f) ?_;refine a5.mk _ (cm (i:=i) (by omega)) ?_;refine⟨(i+1,l.set i f),⟨⟨by simp only;omega,Ai,bo.trans oH,q6⟩,by simp only;omega⟩,.sub (M1:=[ee dy (l.set i f),⟨bQ,.cells #[.map (some gL)] 96 (0,0)⟩,⟨eZ,.cells #[.slice (some ⟨dy,0,none⟩) g.n g.n] 34 (0,0)⟩,⟨bI,.cells #[.slice g.a g.n g.c] 24 (0,0)⟩]) (by exact .cons _ (.cons_cons _ (.cons _ (.refl _)))) (.perm (CQ ..).symm .refl),.cons .refl (.cons .refl (.cons .refl (.cons (Ab (more h).symm) (fZ)))),.nil⟩
  ·have he:l.set i f=l:=same h;rw[he]at q6;refine a5.mk _ (cm (i:=i) (by omega)) ?_;exact⟨(i+1,l),⟨⟨by simp only;omega,lp,bo,q6⟩,by simp only;omega⟩,.sub (M1:=[ee dy l,⟨bQ,.cells #[.map (some gL)] 96 (0,0)⟩,⟨eZ,.cells #[.slice (some ⟨dy,0,none⟩) g.n g.n] 34 (0,0)⟩,⟨bI,.cells #[.slice g.a g.n g.c] 24 (0,0)⟩]) (by exact .cons _ (.cons_cons _ (.cons _ (.refl _)))) (.perm (CQ ..).symm .refl),im,.nil⟩
def Kg(b6:ix I aW)(aA:g.ok I):Spec Tryz.prog 11 [g.val] I [] λv I' M'=>(∀ b o,I b=some o->I' b=some o) /\
  ((g1 aW g≠0/\v=.tuple #[.slice none 0 0,.int .i64 (g1 aW g)]/\M'=[])\/(g1 aW g=0/\∃ b l,v=.tuple #[.slice (some ⟨b,0,none⟩) g.n g.n,.int .i64 0]/\M'=[ee b l]/\u0 g.ds l)):=by
 refine bX [1,5,6] aV Tryz.func11 rfl rfl rfl ?_;intro B ao;have gb:=aA.n;have ki:=aA.bd.cap;refine cz.mk λbI nS ZO=>?_;refine aF.mk [.slice g.a g.n g.c] ⟨rfl,_,_,_,.inr ⟨_,.head _,rfl,rfl⟩,rfl,rfl⟩ ?_;refine bb.mk [] [⟨bI,.cells #[.slice g.a g.n g.c] 24 (0,0)⟩] _ (.refl _) (PY b6 aA) ?_;rintro v cL M1 -⟨rfl,cM,rfl⟩;refine a0.mk (λh=>?_) (λh=>?_)
 ·have hm:g1 aW g≠0:=by simpa using h
  exact⟨_,_,.sub (ho _) .refl,cM,.inl ⟨hm,rfl,rfl⟩⟩
 have hm:g1 aW g=0:=by simpa using h
 have a4:=Kc gb hm;refine aF.mk _ (dn (b:=bI) (cs:=[.slice g.a g.n g.c]) (k:=0) (n:=1) (T:=24) (.head _) (by simp)) ?_;refine oD.mk g.n g.n rfl rfl (cC _) (by show 3*g.n<=_;omega) (by omega) ?_;refine cz.mk λdy oY ZP=>?_;have e:rowOf bY.cells (g.n*3)=(List.replicate g.ds.length bY).flatMap aZ.cells:=by rw[gb];exact QE g.n
 refine cz.mk λeZ PZ Yq=>?_;refine cg.aP [] _ _ _ rfl rfl rfl rfl [.slice (some ⟨dy,0,none⟩) g.n g.n] rfl ?_;refine aF.mk [.slice g.a g.n g.c] ⟨rfl,_,_,_,.inr ⟨_,.tail _ (.tail _ (.head _)),rfl,rfl⟩,rfl,rfl⟩ ?_;refine bb.mk [] _ _ (.refl _) (QA (aA.mono cM)) ?_;rintro v dP dr -⟨ht,rfl,gL,rfl,Ah⟩;refine cz.mk λbQ FL PO=>?_;refine cg.aP [] _ _ _ rfl rfl rfl rfl [.map (some gL)] rfl ?_;refine dB.inv (ι:=List aZ) (λl=>{ bj:=[(5,.val (ptr eZ)),(7,.val (.func (.func 43) #[] #[ptr bI,ptr bQ,ptr eZ]))],c5:=dP,dv:=ofM bQ gL eZ dy bI g l }) (q5 g.ds) wB ?_ ?_
 ·refine⟨List.replicate g.ds.length bY,.start g.ds,?_,vK,.nil⟩;simp only[ofM,ee];rw[<-e];exact .refl
 intro l ar;refine bb.mk (ofM bQ gL eZ dy bI g l) [] _ (.refl _) (ZN ((aA.mono cM).mono ht) a4 Ah ar) ?_;rintro v hL mc -⟨rfl,rfl,rfl⟩;obtain⟨gC,eG,-⟩:=J9 g.ds [] rfl ar;refine a0.mk (λh=>?_) (λh=>?_)
 ·exact⟨_,⟨gC,ZH eG (du h)⟩,.refl,vK,.nil⟩
 ·have az:ll (bM g.ds) 0 g.ds l=l:=by have:=dt h;exact Classical.not_not.1 this
  rw[az];refine aF.mk [.slice (some ⟨dy,0,none⟩) g.n g.n] ⟨rfl,_,_,_,.inr ⟨_,.tail _ (.head _),rfl,rfl⟩,rfl,rfl⟩ ?_;refine⟨hL,[ee dy l],.sub (.cons _ (.cons _ (.cons_cons _ (ho _)))) .refl,λb o h=>ht _ _ (cM _ _ h),.inr ⟨hm,dy,l,rfl,rfl,ar.done az⟩⟩
def dG.qZ(t:dG):dG:=⟨t.ns.map a9.qZ,none,t.n,0,t.b1⟩
def bE.qZ(d:bE):bE:=⟨d.name,d.t.qZ⟩
def dX.qZ(g:dX):dX:=⟨g.ds.map bE.qZ,none,g.n,0⟩
structure QQ(I:aS)(t:dG)(l:List a9):Prop where
 ok:t.ok I
 qZ:t.ns.map a9.qZ=l
 b1:t.b1=(l.length:Int)-1
def QQ.len{t:dG}{l:List a9}(h:QQ I t l):t.n=l.length:=by rw[<-h.ok.n,<-h.qZ,eX]
def to(ns:List a9):List Int:=ns.flatMap (·.aX)
def u2(l:List Int):Prop:=l.Pairwise (·≠·)
def Ak(s:List Bool)(l:List Int):Prop:=∀ j,s.getD j false=true ↔ ((j:Int)∈l/\j<s.length)
def QR{i:Nat}:∀ {ks seen:List Int} {s:List Bool},i<=s.length->Ak s seen->u2 seen -> ((∃ cq,kh i ks s=some cq) ↔ ((∀ k∈ks,0<=k/\k<i)/\u2 (seen++ks)))/\∀ cq,kh i ks s=some cq->cq.length=s.length/\Ak cq (seen++ks)
 |[],seen,s,hi,hm,ah=>by refine⟨⟨λ_=>⟨λk ae=>by(cases ae),by simpa using ah⟩,λ_=>⟨s,rfl⟩⟩,λcq h=>?_⟩;simp only[kh,iJ]at h;subst h;exact⟨rfl,by simpa using hm⟩
 |k::ks,seen,s,hi,hm,ah=>by
  unfold kh;cases ai:decide (k<0)||(decide ((i:Int)<=k)||s.getD k.toNat false)with
  |true=>
   refine⟨⟨λ⟨cq,h⟩=>(by cases h),λ⟨U,aa⟩=>?_⟩,λcq h=>by cases h⟩;exfalso;have af:=U k (.head _);simp only[j7,e0]at ai;rcases ai with ai | ai | ai;·omega
   ·omega
   ·have:=(hm _).1 ai;rw[xP af.1]at this;exact(JW.1 aa).2.2 k this.1 k (.head _) rfl
  |false=>
   simp only[oW,nP]at ai;obtain⟨bI,cx,dx⟩:=ai;have ae:k.toNat<s.length:=by omega
   have eU:k ∉ seen:=λh=>by have:=(hm k.toNat).2 ⟨by rw[xP (by omega)];exact h,ae⟩;rw[dx]at this;cases this
   have pQ:Ak (s.set k.toNat true) (seen++[k]):=λj=>by
    have:=hm j;simp only[dh,sW,yp,eb,iY]at this |-;by_cases e:k.toNat=j;·subst e;rw[cK rfl,cK ae];simp only[j6,true_iff];exact⟨.inr (by omega),ae⟩
    ·rw[cA e,this];constructor
     ·rintro⟨U,aa⟩;exact⟨.inl U,aa⟩
     ·rintro⟨U | U,aa⟩
      ·exact⟨U,aa⟩
      ·omega
   have gZ:u2 (seen++[k]):=JW.2 ⟨ah,by simp,λa aC b ai e=>by
    simp only[iY]at ai;subst ai;subst e;exact eU aC⟩
   have be:=QR (i:=i) (ks:=ks) (seen:=seen++[k]) (s:=s.set k.toNat true) (by simpa using hi) pQ gZ;simp only[ba];rw[gl,List.singleton_append]at be;refine⟨be.1.trans ⟨λ⟨U,aa⟩=>⟨λx ab=>?_,aa⟩,λ⟨U,aa⟩=>⟨λx ab=>U x (.tail _ ab),aa⟩⟩,λcq h=>?_⟩
   ·rcases eg.1 ab with rfl | ab
    ·omega
    ·exact U x ab
   ·have:=be.2 cq h;simpa using this
def QS:∀ {ds:List a9} {i:Nat} {seen:List Int} {s:List Bool},i+ds.length<=s.length->Ak s seen->u2 seen -> ((∃ cq,k5 i ds s=some cq) ↔ ((∀ j (h:j<ds.length),fits ds[j] ds[j].aX.length=true/\∀ k∈ds[j].aX,0<=k/\k<i+j)/\u2 (seen++to ds)))/\∀ cq,k5 i ds s=some cq->cq.length=s.length/\Ak cq (seen++to ds)
 |[],i,seen,s,hi,hm,ah=>by refine⟨⟨λ_=>⟨λj an=>by simp at an,by simpa[to]using ah⟩,λ_=>⟨s,rfl⟩⟩,λcq h=>?_⟩;simp only[k5,iJ]at h;subst h;exact⟨rfl,by simpa[to]using hm⟩
 |d::ds,i,seen,s,hi,hm,ah=>by
  unfold k5;have ae:=QR (i:=i) (ks:=d.aX) (by simp at hi;omega) hm ah;have gS:to (d::ds)=d.aX++to ds:=rfl;cases az:fits d d.aX.length with
  |false=>refine⟨⟨λ⟨cq,h⟩=>(by cases h),λ⟨U,aa⟩=>?_⟩,λcq h=>by cases h⟩;have:=(U 0 (by simp)).1;simp only[xN]at this;rw[az]at this;cases this
  |true=>
   simp only[bh];cases aO:kh i d.aX s with
   |none=>
    refine⟨⟨λ⟨cq,h⟩=>(by cases h),λ⟨U,aa⟩=>?_⟩,λcq h=>by cases h⟩;exfalso;have:∃ cq,kh i d.aX s=some cq:=ae.1.2 ⟨λk ae=>by
     have:=(U 0 (by simp)).2 k ae;omega,by
     rw[gS,<-gl]at aa;exact(JW.1 aa).1⟩
    obtain⟨cq,h⟩:=this;rw[aO]at h;cases h
   |some s1=>
    obtain⟨pk,c8⟩:=ae.2 s1 aO;obtain⟨gC,d1⟩:=ae.1.1 ⟨s1,aO⟩;have be:=QS (ds:=ds) (i:=i+1) (seen:=seen++d.aX) (s:=s1) (by simp at hi;omega) c8 d1;rw[gl,<-gS]at be;simp only;refine⟨be.1.trans ⟨λ⟨U,aa⟩=>⟨λj an=>?_,aa⟩,λ⟨U,aa⟩=>⟨λj an=>?_,aa⟩⟩,λcq h=>?_⟩
    ·cases j with
     |zero=>exact⟨az,λk ae=>by have:=gC k ae;omega⟩| succ j=>have:=U j (by simpa using an);refine⟨this.1,λk ae=>?_⟩;have:=this.2 k ae;omega
    ·have:=U (j+1) (by simpa using an);refine⟨this.1,λk ae=>?_⟩;have:=this.2 k ae;omega
    ·have:=be.2 cq h;exact⟨this.1.trans pk,this.2⟩
def ZQ(n:Nat):Ak (List.replicate n false) []:=λj=>by
 by_cases h:j<n<;>simp[dh,List.getElem?_replicate,h]
structure QT(t:dG):Prop where
 b1:0<=t.b1/\t.b1<t.ns.length
 fits:∀ j (h:j<t.ns.length),fits t.ns[j] t.ns[j].aX.length=true
 aX:∀ j (h:j<t.ns.length),∀ k∈t.ns[j].aX,0<=k/\k<j
 diff:u2 (to t.ns)
 all:∀ j:Nat,j<t.ns.length->((j:Int)∈to t.ns ↔ (j:Int)≠t.b1)
def QU{t:dG}:right t=true ↔ QT t:=by
 have h:=QS (ds:=t.ns) (i:=0) (seen:=[]) (s:=List.replicate t.ns.length false) (by simp) (ZQ _) (by simp[u2]);simp only[mT,dk,xO]at h;unfold right;constructor
 ·intro al;simp only[b3,e0]at al;obtain⟨gC,eG,gT⟩:=al;split at gT
  ·rename_i s ap;obtain⟨eY,ez⟩:=h.1.1 ⟨s,ap⟩;obtain⟨c8,m2⟩:=h.2 s ap;refine⟨⟨gC,eG⟩,λj an=>(eY j an).1,λj an k ae=>(by have:=(eY j an).2 k ae;omega),ez,λj an=>?_⟩;have ai:(s.getD j false == decide (((0+j:Nat):Int)=t.b1))=false:=by
    cases ai:(s.getD j false == decide (((0+j:Nat):Int)=t.b1))with
    |false=>rfl| true=>have:=Qr (by omega) ai;rw[this]at gT;cases gT
   rw[dk]at ai;have hm:=m2 j;constructor;·intro ab e;have:=hm.2 ⟨ab,by omega⟩;rw[this,iQ e]at ai;cases ai
   ·intro bB;rw[ea bB]at ai;have:s.getD j false=true:=by
     revert ai;cases s.getD j false<;>simp
    exact(hm.1 this).1
  ·cases gT
 ·intro al;obtain⟨s,ap⟩:=h.1.2 ⟨λj an=>⟨al.fits j an,λk ae=>by have:=al.aX j an k ae;omega⟩,al.diff⟩;obtain⟨c8,m2⟩:=h.2 s ap;rw[ap];simp only[b3,e0];refine⟨al.b1.1,al.b1.2,Qs λj an=>?_⟩;rw[dk];have aC:=al.all j (by omega);have hm:=m2 j;by_cases e:(j:Int)=t.b1
  ·have az:s.getD j false=false:=by
    cases ai:s.getD j false with
    |false=>rfl| true=>exact absurd e (aC.1 (hm.1 ai).1)
   rw[az,iQ e];rfl
  ·have:=hm.2 ⟨aC.2 e,by omega⟩;rw[this,ea e];rfl
section
end
def nj:Nat->List bE->List (Nat×a9)
 |_,[]=>[]| b,d::ds=>d.t.ns.map (λn=>(b,n))++nj (b+d.t.ns.length) ds
def gU:Nat->List bE->List Nat
 |_,[]=>[]| b,d::ds=>(b+d.t.b1.toNat)::gU (b+d.t.ns.length) ds
def cP(ds:List bE):Nat:=(ds.map λd=>d.t.ns.length).sum
def ko(ds:List bE)(b:Nat)(n:a9):List Nat:=bif decide (n.k=3)then [(gU 0 ds).getD (c9 n.t ds 0).toNat 0]else n.aX.map λk=>b+k.toNat
def n9(ds:List bE):List n5:=(nj 0 ds).map λp=>⟨p.2,ko ds p.1 p.2⟩
def u3(g:dX)(s:ByteArray)(aH:Nat):da:=⟨n9 g.ds,s,aH⟩
def Gi:∀ (b:Nat) (ds:List bE),(nj b ds).length=cP ds
 |b,[]=>rfl| b,d::ds=>by have:=Gi (b+d.t.ns.length) ds;simp only[nj,cP,cU,eX,dV,qK]at this |-;omega
def Al:∀ (b:Nat) (ds:List bE),(gU b ds).length=ds.length
 |b,[]=>rfl| b,d::ds=>by simp only[gU,e1,Al _ ds]
def Gj:∀ (b:Nat) (ds:List bE),(∀ d∈ds,0<=d.t.b1/\d.t.b1<d.t.ns.length)->∀ x∈gU b ds,x<b+cP ds
 |b,[],_,x,ab=>by cases ab
 |b,d::ds,h,x,ab=>by
  have ah:=h d (.head _);have e:cP (d::ds)=d.t.ns.length+cP ds:=by simp[cP]
  rcases eg.1 ab with rfl | ab;·omega
  ·have:=Gj (b+d.t.ns.length) ds (λd ah=>h d (.tail _ ah)) x ab;omega
def QV:∀ (b:Nat) (ds:List bE) (p:Nat×a9),p∈nj b ds->∃ d∈ds,p.2∈d.t.ns/\p.1+d.t.ns.length<=b+cP ds
 |b,[],p,h=>by cases h
 |b,d::ds,p,h=>by
  have e:cP (d::ds)=d.t.ns.length+cP ds:=by simp[cP]
  rcases eb.1 h with h | h;·obtain⟨n,ax,rfl⟩:=ej.1 h;exact⟨d,.head _,ax,by show b+d.t.ns.length<=_;omega⟩
  ·obtain⟨CT,U,aa,af⟩:=QV _ ds p h;exact⟨CT,.tail _ U,aa,by omega⟩
def Kh:∀ (n:Nat) (l:List Int),u2 l->(∀ k∈l,0<=k/\k<n)->l.length<=n
 |0,[],_,_=>cC _| 0,k::l,_,h=>by have:=h k (.head _);omega
 |n+1,l,ah,h=>by
  have U:=Kh n (l.filter λk=>decide (k≠(n:Int))) (ah.filter _) λk ae=>by have aa:=Bt.1 ae;have af:=du aa.2;have aR:=h k aa.1;omega
  have aa:∀ l:List Int,u2 l->l.length<=(l.filter λk=>decide (k≠(n:Int))).length+1:=by
   intro l
   induction l with
   |nil=>intro _;simp
   |cons a l be=>
    intro ah;obtain⟨d1,d2⟩:=List.pairwise_cons.1 ah;by_cases e:a=(n:Int);·have:l.filter (λk=>decide (k≠(n:Int)))=l:=List.filter_eq_self.2 λk ae=>iQ λaB=>d1 k ae (e.trans aB.symm);rw[List.filter_cons_of_neg (by simp[e]),this,e1];exact cC _
    ·have:=be d2;rw[List.filter_cons_of_pos (by simp[e]),e1,e1];omega
  have:=aa l ah;omega
def Ki{bU:ByteArray}:∀ (ds:List bE) (i:Nat),0<=c9 bU ds i->c9 bU ds i<((i+ds.length:Nat):Int)
 |[],i,h=>by simp[c9]at h
 |d::ds,i,h=>by
  unfold c9 at h |-;cases aL:decide (d.name=bU)with
  |true=>simp only[bh,e1];omega| false=>rw[aL,ba]at h;have:=Ki ds (i+1) h;simp only[ba,e1];omega
structure po(g:dX):Prop where
 n:g.n≠0
 r:∀ d∈g.ds,QT d.t
 find:∀ d∈g.ds,∀ n∈d.t.ns,n.k=3->0<=c9 n.t g.ds 0
 QW:cP g.ds<=1024
 aid:g.n<=64
def QX(h:g1 aW g=0)(ax:∀ d∈g.ds,d.t.ns.length=d.t.n):po g:=by
 rw[<-Zf]at h;unfold JO at h;cases U:decide ((g.n:Int)=0)with
 |true=>rw[U]at h;cases h
 |false=>
  rw[U,ba]at h;cases aa:te g.ds with
  |false=>rw[aa]at h;cases h
  |true=>
   rw[aa,oB,ba]at h;cases af:td aW g with
   |true=>rw[af]at h;cases h
   |false=>
    rw[af,ba]at h;cases aR:!(List.range g.ds.length).all (ti g.ds)with
    |true=>rw[aR]at h;cases h
    |false=>
     rw[aR,ba]at h;cases bC:g.ds.all λd=>d.t.ns.all (CH g.ds)with
     |false=>rw[bC]at h;cases h
     |true=>
      have al:∀ d∈g.ds,right d.t=true:=λd ah=>by have:=gi.1 aa d ah;simp only[normal,b3]at this;exact this.2.1
      refine⟨λe=>by have:=dt U;omega,λd ah=>QU.1 (al d ah),λd ah n ax af=>?_,?_,?_⟩;·have:=gi.1 (gi.1 bC d ah) n ax;simp only[CH,af,Gb,oB,ud,e0]at this;exact this
      ·have e:cP g.ds=yi g:=by unfold cP yi;congr 1;refine BZ λd ah=>?_;rw[tc,al d ah,bh];exact ax d ah
       unfold td at af;simp only[oW,nP]at af;omega
      ·unfold td at af;simp only[oW,nP]at af;omega
def ZR(ao:0<=d.k){n:Nat}(h:fits d n=true):d.k<10/\(d.k=4\/d.k=5->2<=n)/\(6<=d.k->n=1)/\(d.k=6->0<=d.lo/\d.lo<=99/\(d.hi=-1\/(d.lo<=d.hi/\d.hi<=99)))/\(d.k=9->kM d.t=true)/\(d.k=2->d.t.size<=255):=by
 unfold fits at h;cases U:decide (10<=d.k)with
 |true=>rw[U]at h;cases h
 |false=>
  have o1:d.k<10:=by have:=dt U;omega
  rw[U,ba]at h;cases aa:decide ((n:Int)<qO d.k.toNat)||(decide (0<=mZ d.k.toNat)&&decide (mZ d.k.toNat<(n:Int)))with
  |true=>rw[aa]at h;cases h
  |false=>
   rw[aa,ba]at h;simp only[oW,Jc,nP]at aa;refine⟨o1,λae=>?_,λae=>?_,λae=>?_,λae=>?_,λae=>?_⟩
   ·have:qO d.k.toNat=2:=by rcases ae with e | e<;>rw[e]<;>rfl
    omega
   ·have jv:d.k=6\/d.k=7\/d.k=8\/d.k=9:=by omega
    have aw:qO d.k.toNat=1:=by rcases jv with e | e | e | e<;>rw[e]<;>rfl
    have aB:mZ d.k.toNat=1:=by rcases jv with e | e | e | e<;>rw[e]<;>rfl
    omega
   ·rw[ae]at h;have a':((!(decide (d.lo<0)||(decide (99<d.lo)||(decide (d.hi≠-1)&&(decide (d.hi<d.lo)||decide (99<d.hi))))))&&(d.lK&&decide (d.t=⟨#[]⟩)))=true:=h;simp only[b3,nw,oW,Jc,nP,Decidable.not_not]at a';omega
   ·rw[ae]at h;have a':(kM d.t&&(d.lK&&(decide (d.lo=0)&&decide (d.hi=0))))=true:=h;simp only[b3]at a';exact a'.1
   ·rw[ae]at h;have a':((!(decide (d.t=⟨#[]⟩)||decide (255<d.t.size)))&&(d.lK&&(decide (d.lo=0)&&decide (d.hi=0))))=true:=h;simp only[b3,nw,oW,nP]at a';omega
def Kj:∀ {ns:List a9} {n:a9},n∈ns->n.aX.Sublist (to ns)
 |d::ns,n,h=>by
  unfold to;rw[lD];rcases eg.1 h with rfl | h;·exact List.sublist_append_left _ _
  ·exact(Kj h).trans (kH _ _)
def ZS(hm:po g)(fI:∀ d∈g.ds,∀ n∈d.t.ns,0<=n.k){aH:Nat}{a:n5}(aC:a∈n9 g.ds):F3 (u3 g s aH) a:=by
 have bV:(u3 g s aH).ns.length=cP g.ds:=by simp[u3,n9,Gi]
 obtain⟨p,aG,rfl⟩:=ej.1 aC;obtain⟨d,ah,ax,ai⟩:=QV _ _ _ aG;have al:=hm.r d ah;obtain⟨j,an,e⟩:=x6 ax;have az:=al.fits j an;rw[e]at az;obtain⟨f1,f2,f3,f4,-,-⟩:=ZR (fI d ah _ ax) az;have m0:=al.aX j an;rw[e]at m0;have fr:p.2.aX.length<=j:=Kh j _ (al.diff.sublist (Kj ax)) m0;have CU:=hm.QW;by_cases af:p.2.k=3
 ·have q7:ko g.ds p.1 p.2=[(gU 0 g.ds).getD (c9 p.2.t g.ds 0).toNat 0]:=by rw[ko,iQ af,bh]
  have aO:=hm.find d ah _ ax af;have n8:=Ki g.ds 0 aO;have e5:(c9 p.2.t g.ds 0).toNat<(gU 0 g.ds).length:=by rw[Al];omega
  refine⟨⟨fI d ah _ ax,f1⟩,λx ab=>?_,λh=>?_,λ_=>by simp only[q7];rfl,λh=>?_,by simp only[q7];exact bJ rfl⟩;·simp only[q7,iY]at ab;rw[bV,ab,dh,g0 e5,j6];have:=Gj 0 g.ds (λd ah=>(hm.r d ah).b1) _ (dK e5);omega
  ·have a':p.2.k=4\/p.2.k=5:=h;omega
  ·have a':p.2.k=6:=h;omega
 ·have q7:ko g.ds p.1 p.2=p.2.aX.map λk=>p.1+k.toNat:=by rw[ko,ea af,ba]
  refine⟨⟨fI d ah _ ax,f1⟩,λx ab=>?_,λh=>?_,λh=>?_,λh=>f4 h,?_⟩;·simp only[q7]at ab;obtain⟨k,ae,rfl⟩:=ej.1 ab;have:=m0 k ae;rw[bV];omega
  ·have:=f2 h;simp only[q7,eX];omega
  ·have a':p.2.k=3\/6<=p.2.k:=h;have:=f3 (by omega);simp only[q7,eX];exact this
  ·simp only[q7,eX];have:d.t.ns.length<=cP g.ds:=by omega
   omega
def Kk(hm:po g)(fI:∀ d∈g.ds,∀ n∈d.t.ns,0<=n.k){aH:Nat}(U:aH<=s.size)(aa:s.size<=4096):z' (u3 g s aH):=
 ⟨λa aC=>ZS hm fI aC,U,aa⟩
def u4(g:dX)(hB:Nat):Nat:=(gU 0 g.ds).getD hB 0
def lq:Y':=⟨λ_ _=>lR,[],0⟩
def kS.Am{a3 k:Nat}{hi:Int}{t a:Nat}{l:List (Nat×Nat)}(h:kS kn a3 k hi t a l)(a':kS kn a3 k hi t a c4):l=c4:=by
 induction h generalizing c4 with
 |stop U=>
  cases a' with
  |stop=>rfl| fail aa=>exact absurd U aa| more _ aa=>exact absurd U aa
 |fail U aa=>
  cases a' with
  |stop af=>exact absurd af U| fail=>rfl| more _ af aR=>rw[aa]at aR;cases aR
 |more _ U aa r be=>
  cases a' with
  |stop af=>exact absurd af U| fail af aR=>rw[aa]at aR;cases aR| more _ af aR rG=>rw[be rG]
def kl.Am{P:da}{k a:Nat}{l:List (Nat×Nat)}(h:kl P kn k a l)(a':kl P kn k a c4):l=c4:=by
 unfold kl at h a';by_cases bO:(P.aH k).d.k=6
 ·rw[cK bO]at h a';exact h.Am a'
 ·rw[cA bO]at h a';by_cases bC:(P.aH k).d.k=5
  ·rw[cK bC]at h a';exact h.2.trans a'.2.symm
  ·rw[cA bC]at h a';exact h.2.trans a'.2.symm
def h5.Am{P:da}{n m:Nat}{L:List (Nat×Nat)}{l c4:List h4}(h:h5 P kn n L l)(a':h5 P kn m L c4):l=c4:=by
 induction h generalizing m c4 with
 |nil=>cases a';rfl
 |zero af ao r be=>
  cases a' with
  |zero hz hp rG=>exact be rG| node hz hp=>exact absurd ao hp
 |node af ao aG r be=>
  cases a' with
  |zero hz hp=>exact absurd hp ao| node hz hp z5 rG=>cases aG.Am z5;rw[be rG]
structure wD where
 ok:Bool
 aP:Nat
 r7:List h4
def fs(a b:Nat):Nat:=min (a+b) 1099511627776
def g3(m:Nat->Nat->cy):List Nat->Nat->Nat->cy
 |[],a,n=>⟨n,a,3⟩| q::L,a,n=>bif Nat.beq (m q a).au 3 then g3 m L (m q a).aP (fs n (m q a).n)else⟨0,0,(m q a).au⟩
def hC(m:Nat->Nat->cy):List Nat->Nat->cy
 |[],_=>ld| q::L,a=>bif Nat.beq (m q a).au 2 then hC m L a else m q a
def ft(m:Nat->Nat->cy)(q:Nat)(lo hi:Int):Nat->Nat->Nat->Nat->cy
 |0,_,a,n=>bif decide (hi=-1)then lR else⟨n,a,3⟩
 |j+1,i,a,n=>bif Nat.beq (m q a).au 2 then(bif decide ((i:Int)<lo)then ld else⟨n,a,3⟩)else
   bif Nat.beq (m q a).au 3 then(bif decide (hi=-1)&&decide ((m q a).aP=a)then lR else ft m q lo hi j (i+1) (m q a).aP (fs n (m q a).n))else lR
def wE(P:da)(d:a9)(a:Nat):Nat:=bif decide (d.hi=-1)then P.s.size+1-a else d.hi.toNat
def dM(P:da)(m:Nat->Nat->cy)(k a:Nat):cy:=
 let d:=(P.aH k).d
 let q:=(P.aH k).bT.getD 0 0
 bif decide (d.k=0)then⟨0,a,3⟩else
 bif decide (d.k=1)then(match P.s.data[a]? with
  |some b=>bif lf d b.toNat then⟨0,a+1,3⟩else ld| none=>ld)else
 bif decide (d.k=2)then(bif preB P.s d.t a then⟨0,a+d.t.size,3⟩else ld)else
 bif decide (d.k=3)then m q a else
 bif decide (d.k=4)then g3 m (P.aH k).bT a 0 else
 bif decide (d.k=5)then hC m (P.aH k).bT a else
 bif decide (d.k=6)then ft m q d.lo d.hi (wE P d a) 0 a 0 else
 bif decide (d.k=7)then(bif Nat.beq (m q a).au 3 then⟨0,a,3⟩else m q a)else
 bif decide (d.k=8)then(bif Nat.beq (m q a).au 2 then⟨0,a,3⟩else bif Nat.beq (m q a).au 3 then ld else lR)else
 (bif Nat.beq (m q a).au 3 then⟨fs (m q a).n 1,(m q a).aP,3⟩else m q a)
section
variable{P:da}{m m':Nat->Nat->cy}{k a lo:Nat}
def wF(h:(P.aH k).d.k=0):dM P m k a=⟨0,a,3⟩:=by simp[dM,h]
def wG(h:(P.aH k).d.k=1):dM P m k a=match P.s.data[a]? with
  |some b=>bif lf (P.aH k).d b.toNat then⟨0,a+1,3⟩else ld| none=>ld:=by simp[dM,h]
def wH(h:(P.aH k).d.k=2):dM P m k a=bif preB P.s (P.aH k).d.t a then⟨0,a+(P.aH k).d.t.size,3⟩else ld:=by simp[dM,h]
def wI(h:(P.aH k).d.k=3):dM P m k a=m ((P.aH k).bT.getD 0 0) a:=by simp[dM,h]
def wJ(h:(P.aH k).d.k=4):dM P m k a=g3 m (P.aH k).bT a 0:=by simp[dM,h]
def wK(h:(P.aH k).d.k=5):dM P m k a=hC m (P.aH k).bT a:=by simp[dM,h]
def tp(h:(P.aH k).d.k=6):dM P m k a=ft m ((P.aH k).bT.getD 0 0) (P.aH k).d.lo (P.aH k).d.hi (wE P (P.aH k).d a) 0 a 0:=by simp[dM,h]
def wL(h:(P.aH k).d.k=7):dM P m k a=bif Nat.beq (m ((P.aH k).bT.getD 0 0) a).au 3 then⟨0,a,3⟩else m ((P.aH k).bT.getD 0 0) a:=by simp[dM,h]
def wM(h:(P.aH k).d.k=8):dM P m k a=bif Nat.beq (m ((P.aH k).bT.getD 0 0) a).au 2 then⟨0,a,3⟩else bif Nat.beq (m ((P.aH k).bT.getD 0 0) a).au 3 then ld else lR:=by simp[dM,h]
def wN(ao:(P.aH k).d.k≠0)(U:(P.aH k).d.k≠1)(aa:(P.aH k).d.k≠2)(af:(P.aH k).d.k≠3)(aR:(P.aH k).d.k≠4)(bC:(P.aH k).d.k≠5)(bO:(P.aH k).d.k≠6)(eo:(P.aH k).d.k≠7)(gg:(P.aH k).d.k≠8) : dM P m k a=bif Nat.beq (m ((P.aH k).bT.getD 0 0) a).au 3 then⟨fs (m ((P.aH k).bT.getD 0 0) a).n 1,(m ((P.aH k).bT.getD 0 0) a).aP,3⟩else m ((P.aH k).bT.getD 0 0) a:=by simp[dM,ao,U,aa,af,aR,bC,bO,eo,gg]
def An(d:Int):d=0\/d=1\/d=2\/d=3\/d=4\/d=5\/d=6\/d=7\/d=8\/(d≠0/\d≠1/\d≠2/\d≠3/\d≠4/\d≠5/\d≠6/\d≠7/\d≠8):=by omega
def lV(lo:Nat)(m m':Nat->Nat->cy):Prop:=∀ q b,lo<=b->eH (m q b)->m' q b=m q b
def wO(m:Nat->Nat->cy):Prop:=∀ q b,(m q b).au=3->b<=(m q b).aP
def lV.trans{QY:Nat->Nat->cy}(h:lV lo m m')(a':lV lo m' QY):lV lo m QY:=λq b ai ah=>by have e:=h q b ai ah;rw[a' q b ai (by rw[e];exact ah),e]
def q8{c:cy}(h:Nat.beq c.au 3=true):eH c:=.inr (cf h)
def yw{c:cy}(h:Nat.beq c.au 2=true):eH c:=.inl (cf h)
def pq:¬ eH lR:=λh=>by rcases h with h | h<;>cases h
def Kl(h:lV lo m m')(aA:wO m):∀ (L:List Nat) (a n:Nat),lo<=a->eH (g3 m L a n)->g3 m' L a n=g3 m L a n
 |[],a,n,_,_=>rfl
 |q::L,a,n,aC,ah=>by
  cases af:Nat.beq (m q a).au 3 with
  |true=>have e:=h q a aC (q8 af);simp only[g3,e,af,bh]at ah |-;exact Kl h aA L _ _ (jx aC (aA q a (cf af))) ah| false=>simp only[g3,af,ba]at ah;have e:=h q a aC ah;simp only[g3,e,af,ba]
def Km(h:lV lo m m'):∀ (L:List Nat) (a:Nat),lo<=a->eH (hC m L a)->hC m' L a=hC m L a
 |[],a,_,_=>rfl
 |q::L,a,aC,ah=>by
  cases aa:Nat.beq (m q a).au 2 with
  |true=>have e:=h q a aC (yw aa);simp only[hC,e,aa,bh]at ah |-;exact Km h L a aC ah| false=>simp only[hC,aa,ba]at ah;have e:=h q a aC ah;simp only[hC,e,aa,ba]
def Kn(h:lV lo m m')(aA:wO m){q:Nat}{l u:Int}:∀ (j i a n:Nat),lo<=a->eH (ft m q l u j i a n)->ft m' q l u j i a n=ft m q l u j i a n
 |0,i,a,n,_,_=>rfl
 |j+1,i,a,n,aC,ah=>by
  cases aa:Nat.beq (m q a).au 2 with
  |true=>have e:=h q a aC (yw aa);simp only[ft,e,aa,bh]
  |false=>
   cases af:Nat.beq (m q a).au 3 with
   |true=>
    have e:=h q a aC (q8 af);simp only[ft,e,aa,af,bh,ba]at ah |-;cases hu:decide (u=-1)&&decide ((m q a).aP=a)with
    |true=>rfl| false=>rw[hu,ba]at ah;exact Kn h aA j _ _ _ (jx aC (aA q a (cf af))) ah
   |false=>simp only[ft,aa,af,ba]at ah;exact absurd ah pq
def CV(h:lV lo m m')(aA:wO m)(aC:lo<=a)(ah:eH (dM P m k a)):dM P m' k a=dM P m k a:=by
 have one:∀ q:Nat,eH (m q a)->m' q a=m q a:=λq aO=>h q a aC aO;rcases An (P.aH k).d.k with e | e | e | e | e | e | e | e | e | ⟨cv,aw,aB,bD,dH,gJ,kp,mB,nk⟩
 ·rw[wF e,wF e]
 ·rw[wG e,wG e]
 ·rw[wH e,wH e]
 ·rw[wI e]at ah |-;rw[wI e];exact one _ ah
 ·rw[wJ e]at ah |-;rw[wJ e];exact Kl h aA _ _ _ aC ah
 ·rw[wK e]at ah |-;rw[wK e];exact Km h _ _ aC ah
 ·rw[tp e]at ah |-;rw[tp e];exact Kn h aA _ _ _ _ aC ah
 ·rw[wL e]at ah |-;rw[wL e];generalize(P.aH k).bT.getD 0 0=q at ah |-;cases af:Nat.beq (m q a).au 3 with
  |true=>rw[one q (q8 af),af]| false=>rw[af,ba]at ah;rw[one q ah,af]
 ·rw[wM e]at ah |-;rw[wM e];generalize(P.aH k).bT.getD 0 0=q at ah |-;cases aa:Nat.beq (m q a).au 2 with
  |true=>rw[one q (yw aa),aa]
  |false=>
   cases af:Nat.beq (m q a).au 3 with
   |true=>rw[one q (q8 af),aa,af]| false=>rw[aa,af]at ah;exact absurd ah pq
 ·rw[wN cv aw aB bD dH gJ kp mB nk]at ah |-;rw[wN cv aw aB bD dH gJ kp mB nk];generalize(P.aH k).bT.getD 0 0=q at ah |-;cases af:Nat.beq (m q a).au 3 with
  |true=>rw[one q (q8 af),af]| false=>rw[af,ba]at ah;rw[one q ah,af]
end
def iz(z a:Nat)(c:cy):Prop:=c=lR\/c=ld\/(c.au=3/\a<=c.aP/\(a<=z->c.aP<=z)/\c.n<=1099511627776)
def iz.m{a aP n:Nat}(U:a<=aP)(aa:a<=z->aP<=z)(af:n<=1099511627776):iz z a ⟨n,aP,3⟩:=.inr (.inr ⟨rfl,U,aa,af⟩)
def iz.ge{a:Nat}{c:cy}(h:iz z a c)(af:c.au=3):a<=c.aP/\(a<=z->c.aP<=z)/\c.n<=1099511627776:=by
 rcases h with rfl | rfl | h
 ·cases af
 ·cases af
 ·exact h.2
def iz.au{a:Nat}{c:cy}(h:iz z a c):c.au=0\/c.au=2\/c.au=3:=by
 rcases h with rfl | rfl | h
 ·exact .inl rfl
 ·exact .inr (.inl rfl)
 ·exact .inr (.inr h.1)
def iz.zero{z a:Nat}{c:cy}(h:iz z a c)(aa:¬ eH c):c=lR:=by
 rcases h with rfl | rfl | h
 ·rfl
 ·exact absurd (.inl rfl) aa
 ·exact absurd (.inr h.1) aa
def iz.ZT{a:Nat}{c:cy}(h:iz z a c)(af:Nat.beq c.au 3=false):(⟨0,0,c.au⟩:cy)=c:=by
 rcases h with rfl | rfl | h
 ·rfl
 ·rfl
 ·rw[h.1]at af;cases af
def iz.EK{a b:Nat}{c:cy}(h:iz z b c)(iR:a<=b)(bg:a<=z->b<=z):iz z a c:=by
 rcases h with h | h | ⟨U,aa,af,aR⟩
 ·exact .inl h
 ·exact .inr (.inl h)
 ·exact .inr (.inr ⟨U,by omega,λh=>af (bg h),aR⟩)
def r8(a b:Nat):fs a b<=1099511627776:=F8 _ _
section
variable{z:Nat}{m:Nat->Nat->cy}(hm:∀ q b,iz z b (m q b))
include hm
def QZ:∀ (L:List Nat) (a n:Nat),n<=1099511627776->iz z a (g3 m L a n)
 |[],a,n,ax=>.m (cC _) id ax
 |q::L,a,n,ax=>by
  cases af:Nat.beq (m q a).au 3 with
  |true=>simp only[g3,af,bh];obtain⟨aT,aU,bG⟩:=(hm q a).ge (cf af);exact(QZ L _ _ (r8 _ _)).EK aT aU
  |false=>simp only[g3,af,ba];rw[(hm q a).ZT af];exact hm q a
def Q0:∀ (L:List Nat) (a:Nat),iz z a (hC m L a)
 |[],a=>.inr (.inl rfl)
 |q::L,a=>by
  cases aa:Nat.beq (m q a).au 2 with
  |true=>simp only[hC,aa,bh];exact Q0 L a| false=>simp only[hC,aa,ba];exact hm q a
def Q1{q:Nat}{l u:Int}:∀ (j i a n:Nat),n<=1099511627776->iz z a (ft m q l u j i a n)
 |0,i,a,n,ax=>by
  unfold ft;cases decide (u=-1);·exact .m (cC _) id ax
  ·exact .inl rfl
 |j+1,i,a,n,ax=>by
  cases aa:Nat.beq (m q a).au 2 with
  |true=>
   simp only[ft,aa,bh];cases decide ((i:Int)<l);·exact .m (cC _) id ax
   ·exact .inr (.inl rfl)
  |false=>
   cases af:Nat.beq (m q a).au 3 with
   |true=>
    simp only[ft,aa,af,bh,ba];obtain⟨aT,aU,bG⟩:=(hm q a).ge (cf af);cases decide (u=-1)&&decide ((m q a).aP=a)with
    |true=>exact .inl rfl| false=>exact(Q1 j _ _ _ (r8 _ _)).EK aT aU
   |false=>simp only[ft,aa,af,ba];exact .inl rfl
def Ko{P:da}(bg:P.s.size=z)(k a:Nat):iz z a (dM P m k a):=by
 rcases An (P.aH k).d.k with e | e | e | e | e | e | e | e | e | ⟨cv,aw,aB,bD,dH,gJ,kp,mB,nk⟩
 ·rw[wF e];exact .m (cC _) id (by omega)
 ·rw[wG e];cases ai:P.s.data[a]? with
  |none=>exact .inr (.inl rfl)
  |some b=>
   have aK:a<P.s.data.size:=(jS.1 ai).1;have:P.s.data.size=P.s.size:=rfl;simp only;cases lf (P.aH k).d b.toNat;·exact .inr (.inl rfl)
   ·exact .m (by omega) (by omega) (by omega)
 ·rw[wH e];cases aG:preB P.s (P.aH k).d.t a with
  |false=>exact .inr (.inl rfl)| true=>simp only[preB,b3,e0]at aG;exact .m (by omega) (by omega) (by omega)
 ·rw[wI e];exact hm _ a
 ·rw[wJ e];exact QZ hm _ _ _ (by omega)
 ·rw[wK e];exact Q0 hm _ _
 ·rw[tp e];exact Q1 hm _ _ _ _ (by omega)
 ·rw[wL e];cases Nat.beq (m ((P.aH k).bT.getD 0 0) a).au 3
  ·exact hm _ a
  ·exact .m (cC _) id (by omega)
 ·rw[wM e];cases Nat.beq (m ((P.aH k).bT.getD 0 0) a).au 2 with
  |true=>exact .m (cC _) id (by omega)
  |false=>
   cases Nat.beq (m ((P.aH k).bT.getD 0 0) a).au 3;·exact .inl rfl
   ·exact .inr (.inl rfl)
 ·rw[wN cv aw aB bD dH gJ kp mB nk];cases af:Nat.beq (m ((P.aH k).bT.getD 0 0) a).au 3 with
  |false=>exact hm _ a| true=>obtain⟨aT,aU,bG⟩:=(hm _ a).ge (cf af);exact .m aT aU (r8 _ _)
end
def eO(P:da):Nat->Nat->Nat->cy
 |0,_,_=>lR| n+1,k,a=>dM P (eO P n) k a
def Gk(P:da):∀ (n k a:Nat),iz P.s.size a (eO P n k a)
 |0,_,_=>.inl rfl| n+1,k,a=>Ko (Gk P n) rfl k a
def Ao(P:da)(n:Nat):wO (eO P n):=λq b af=>((Gk P n q b).ge af).1
def Kp(P:da):∀ n,lV 0 (eO P n) (eO P (n+1))
 |0=>λq b _ ah=>absurd ah pq
 |n+1=>λq b ai ah=>CV (Kp P n) (Ao P n) ai ah
def Ap(P:da){n:Nat}(h:n<=hA):lV 0 (eO P n) (eO P hA):=by
 induction h with
 |refl=>exact λ_ _ _ _=>rfl
 |step _ be=>exact be.trans (Kp P _)
open Classical in
noncomputable def b8(P:da)(k a:Nat):cy:=if h:∃ n,eH (eO P n k a)then eO P h.choose k a else lR
def Gl{P:da}{n k a:Nat}(h:eH (eO P n k a)):b8 P k a=eO P n k a:=by have ab:∃ n,eH (eO P n k a):=⟨n,h⟩;unfold b8;rw[dif_pos ab];have aL:=ab.choose_spec;have aw:=Ap P (F' n ab.choose) k a (bq _) h;have aB:=Ap P (F9 n ab.choose) k a (bq _) aL;rw[<-aw,<-aB]
def n'{P:da}{k a:Nat}(h:eH (b8 P k a)):∃ n,eO P n k a=b8 P k a:=by
 by_cases ab:∃ n,eH (eO P n k a)
 ·obtain⟨n,ax⟩:=ab;exact⟨n,(Gl ax).symm⟩
 ·unfold b8 at h;rw[dif_neg ab]at h;exact absurd h pq
def Q2(P:da)(n:Nat):lV 0 (eO P n) (b8 P):=λ_ _ _ ah=>Gl ah
def tq(P:da)(k a:Nat):iz P.s.size a (b8 P k a):=by
 by_cases ah:eH (b8 P k a)
 ·obtain⟨n,ax⟩:=n' ah;rw[<-ax];exact Gk P n k a
 ·by_cases ab:∃ n,eH (eO P n k a)
  ·obtain⟨n,ax⟩:=ab;rw[Gl ax]at ah;exact absurd ax ah
  ·unfold b8;rw[dif_neg ab];exact .inl rfl
section
variable{P:da}
def Kq{n q b:Nat}(h:n<=hA)(e:eO P n q b=b8 P q b)(ah:eH (b8 P q b)):eO P hA q b=b8 P q b:=by rw[<-e]at ah |-;exact Ap P h q b (bq _) ah
def Q3:∀ (L:List Nat) (a n:Nat),eH (g3 (b8 P) L a n)->∃ N,g3 (eO P N) L a n=g3 (b8 P) L a n
 |[],a,n,_=>⟨0,rfl⟩
 |q::L,a,n,ah=>by
  cases af:Nat.beq (b8 P q a).au 3 with
  |true=>obtain⟨hs,aw⟩:=n' (q8 af);simp only[g3,af,bh]at ah |-;obtain⟨kO,aB⟩:=Q3 L _ _ ah;refine⟨max hs kO,?_⟩;simp only[Kq (F' hs kO) aw (q8 af),af,bh];rw[<-aB]at ah |-;exact Kl (Ap P (F9 hs kO)) (Ao P kO) _ _ _ (bq _) ah
  |false=>simp only[g3,af,ba]at ah |-;obtain⟨hs,aw⟩:=n' ah;exact⟨hs,by simp only[aw,af,ba]⟩
def Q4:∀ (L:List Nat) (a:Nat),eH (hC (b8 P) L a)->∃ N,hC (eO P N) L a=hC (b8 P) L a
 |[],a,_=>⟨0,rfl⟩
 |q::L,a,ah=>by
  cases aa:Nat.beq (b8 P q a).au 2 with
  |true=>obtain⟨hs,aw⟩:=n' (yw aa);simp only[hC,aa,bh]at ah |-;obtain⟨kO,aB⟩:=Q4 L _ ah;refine⟨max hs kO,?_⟩;simp only[Kq (F' hs kO) aw (yw aa),aa,bh];rw[<-aB]at ah |-;exact Km (Ap P (F9 hs kO)) _ _ (bq _) ah
  |false=>simp only[hC,aa,ba]at ah |-;obtain⟨hs,aw⟩:=n' ah;exact⟨hs,by simp only[aw,aa,ba]⟩
def Q5{q:Nat}{l u:Int}:∀ (j i a n:Nat),eH (ft (b8 P) q l u j i a n)->∃ N,ft (eO P N) q l u j i a n=ft (b8 P) q l u j i a n
 |0,i,a,n,_=>⟨0,rfl⟩
 |j+1,i,a,n,ah=>by
  cases aa:Nat.beq (b8 P q a).au 2 with
  |true=>obtain⟨hs,aw⟩:=n' (yw aa);exact⟨hs,by simp only[ft,aw,aa,bh]⟩
  |false=>
   cases af:Nat.beq (b8 P q a).au 3 with
   |true=>
    obtain⟨hs,aw⟩:=n' (q8 af);simp only[ft,aa,af,bh,ba]at ah |-;cases hu:decide (u=-1)&&decide ((b8 P q a).aP=a)with
    |true=>rw[hu]at ah;exact absurd ah pq| false=>rw[hu,ba]at ah;obtain⟨kO,aB⟩:=Q5 j _ _ _ ah;refine⟨max hs kO,?_⟩;simp only[Kq (F' hs kO) aw (q8 af),aa,af,hu,bh,ba];rw[<-aB]at ah |-;exact Kn (Ap P (F9 hs kO)) (Ao P kO) _ _ _ _ (bq _) ah
   |false=>simp only[ft,aa,af,ba]at ah;exact absurd ah pq
def ZU{k a:Nat}(ah:eH (dM P (b8 P) k a)):∃ N,dM P (eO P N) k a=dM P (b8 P) k a:=by
 rcases An (P.aH k).d.k with e | e | e | e | e | e | e | e | e | ⟨cv,aw,aB,bD,dH,gJ,kp,mB,nk⟩
 ·exact⟨0,by rw[wF e,wF e]⟩
 ·exact⟨0,by rw[wG e,wG e]⟩
 ·exact⟨0,by rw[wH e,wH e]⟩
 ·rw[wI e]at ah |-;obtain⟨n,ax⟩:=n' ah;exact⟨n,by rw[wI e,ax]⟩
 ·rw[wJ e]at ah |-;obtain⟨n,ax⟩:=Q3 _ _ _ ah;exact⟨n,by rw[wJ e,ax]⟩
 ·rw[wK e]at ah |-;obtain⟨n,ax⟩:=Q4 _ _ ah;exact⟨n,by rw[wK e,ax]⟩
 ·rw[tp e]at ah |-;obtain⟨n,ax⟩:=Q5 _ _ _ _ ah;exact⟨n,by rw[tp e,ax]⟩
 ·rw[wL e]at ah |-;have U:eH (b8 P ((P.aH k).bT.getD 0 0) a):=by
   cases af:Nat.beq (b8 P ((P.aH k).bT.getD 0 0) a).au 3 with
   |true=>exact q8 af| false=>rwa [af,ba]at ah
  obtain⟨n,ax⟩:=n' U;exact⟨n,by rw[wL e,ax]⟩
 ·rw[wM e]at ah |-;have U:eH (b8 P ((P.aH k).bT.getD 0 0) a):=by
   cases aa:Nat.beq (b8 P ((P.aH k).bT.getD 0 0) a).au 2 with
   |true=>exact yw aa
   |false=>
    cases af:Nat.beq (b8 P ((P.aH k).bT.getD 0 0) a).au 3 with
    |true=>exact q8 af| false=>rw[aa,af]at ah;exact absurd ah pq
  obtain⟨n,ax⟩:=n' U;exact⟨n,by rw[wM e,ax]⟩
 ·rw[wN cv aw aB bD dH gJ kp mB nk]at ah |-;have U:eH (b8 P ((P.aH k).bT.getD 0 0) a):=by
   cases af:Nat.beq (b8 P ((P.aH k).bT.getD 0 0) a).au 3 with
   |true=>exact q8 af| false=>rwa [af,ba]at ah
  obtain⟨n,ax⟩:=n' U;exact⟨n,by rw[wN cv aw aB bD dH gJ kp mB nk,ax]⟩
def Kr{k a:Nat}(ah:eH (dM P (b8 P) k a)):b8 P k a=dM P (b8 P) k a:=by
 obtain⟨N,e⟩:=ZU ah;have:eH (eO P (N+1) k a):=by show eH (dM P (eO P N) k a);rw[e];exact ah
 rw[Gl this];exact e
def ZV{k a:Nat}(ah:eH (b8 P k a)):dM P (b8 P) k a=b8 P k a:=by
 obtain⟨n,ax⟩:=n' ah;cases n with
 |zero=>rw[<-ax]at ah;exact absurd ah pq| succ n=>rw[<-ax]at ah |-;exact CV (Q2 P n) (Ao P n) (bq _) ah
def ZW{k a:Nat}:dM P (b8 P) k a=b8 P k a:=by
 by_cases ah:eH (b8 P k a)
 ·exact ZV ah
 ·by_cases gZ:eH (dM P (b8 P) k a)
  ·exact(Kr gZ).symm
  ·rw[(tq P k a).zero ah,(Ko (tq P) rfl k a).zero gZ]
def ZX{m:Nat->Nat->cy}{lo:Nat}(h:∀ k a,lo<=a->eH (dM P m k a)->m k a=dM P m k a):lV lo (b8 P) m:=by
 have step:∀ n,lV lo (eO P n) m:=λn=>by
  induction n with
  |zero=>exact λ_ _ _ ah=>absurd ah pq
  |succ n be=>
   intro k a aC ah;have e:=CV be (Ao P n) aC ah;have gZ:eH (dM P m k a):=by rw[e];exact ah
   rw[h k a aC gZ,e];rfl
 intro k a aC ah;obtain⟨n,ax⟩:=n' ah;rw[<-ax]at ah |-;exact step n k a aC ah
end
structure b2 where
 n:Nat
 aP:Nat
 au:Nat
 fJ:Nat
def h7:b2:=⟨0,0,0,0⟩
def mC(aP:Nat):b2:=⟨0,aP,2,0⟩
def tr:b2:=⟨0,0,1,0⟩
def b2.ce(c:b2):cy:=bif Nat.beq c.au 2 then⟨c.n,c.aP,3⟩else bif Nat.beq c.au 1 then ld else lR
def oa(T:Nat->Nat->b2):List Nat->Nat->Nat->b2
 |[],a,n=>⟨n,a,2,0⟩| q::L,a,n=>bif Nat.beq (T q a).au 2 then oa T L (T q a).aP (fs n (T q a).n)else⟨0,0,(T q a).au,0⟩
def ob(T:Nat->Nat->b2):List Nat->Nat->b2
 |[],_=>tr| q::L,a=>bif Nat.beq (T q a).au 1 then ob T L a else T q a
def nl(T:Nat->Nat->b2)(q:Nat)(lo:Int):Nat->Nat->Nat->Nat->b2
 |0,_,a,n=>⟨n,a,2,0⟩
 |j+1,i,a,n=>bif Nat.beq (T q a).au 0||(Nat.beq (T q a).au 1&&decide ((i:Int)<lo))then⟨0,0,(T q a).au,0⟩else
   bif Nat.beq (T q a).au 1 then⟨n,a,2,0⟩else nl T q lo j (i+1) (T q a).aP (fs n (T q a).n)
def lW(lo:Int)(c:b2):b2:=bif decide ((c.fJ:Int)<lo)then { c with au:=1 }else c
def u5(T:Nat->Nat->b2)(k q:Nat)(lo:Int)(a:Nat):b2:=
 bif Nat.beq (T q a).au 0||(Nat.beq (T q a).au 2&&Nat.beq (T q a).aP a)then h7 else
 bif Nat.beq (T q a).au 2 then(bif Nat.beq (T k (T q a).aP).au 0 then h7 else lW lo ⟨fs (T q a).n (T k (T q a).aP).n,(T k (T q a).aP).aP,2,min ((T k (T q a).aP).fJ+1) 99⟩)else lW lo (mC a)
def dp(P:da)(T:Nat->Nat->b2)(k a:Nat):b2:=
 let d:=(P.aH k).d
 let q:=(P.aH k).bT.getD 0 0
 bif decide (d.k=0)then mC a else
 bif decide (d.k=1)then(match P.s.data[a]? with
  |some b=>bif lf d b.toNat then mC (a+1)else tr| none=>tr)else
 bif decide (d.k=2)then(bif preB P.s d.t a then mC (a+d.t.size)else tr)else
 bif decide (d.k=3)then T q a else
 bif decide (d.k=4)then oa T (P.aH k).bT a 0 else
 bif decide (d.k=5)then ob T (P.aH k).bT a else
 bif decide (d.k=6)then(bif decide (d.hi=-1)then u5 T k q d.lo a else nl T q d.lo d.hi.toNat 0 a 0)else
 bif decide (d.k=7)then(bif Nat.beq (T q a).au 2 then mC a else⟨0,0,(T q a).au,0⟩)else
 bif decide (d.k=8)then(bif Nat.beq (T q a).au 1 then mC a else bif Nat.beq (T q a).au 2 then tr else h7)else
 (bif Nat.beq (T q a).au 2 then { T q a with n:=fs (T q a).n 1 }else T q a)
def gE(T:Nat->Nat->b2):Nat->Nat->cy:=λk a=>(T k a).ce
def pt{c:b2}(h:c.au<=2):(c.au=0/\c.ce=lR)\/(c.au=1/\c.ce=ld)\/(c.au=2/\c.ce=⟨c.n,c.aP,3⟩):=by
 have:c.au=0\/c.au=1\/c.au=2:=by omega
 rcases this with e | e | e
 ·exact .inl ⟨e,by simp only[b2.ce,e];rfl⟩
 ·exact .inr (.inl ⟨e,by simp only[b2.ce,e];rfl⟩)
 ·exact .inr (.inr ⟨e,by simp only[b2.ce,e];rfl⟩)
def yx{c:b2}(h:c.au<=2):eH c.ce ↔ c.au≠0:=by
 rcases pt h with⟨e,bn⟩ | ⟨e,bn⟩ | ⟨e,bn⟩<;>rw[bn]<;>simp[eH,lR,ld,e]
section
variable{T:Nat->Nat->b2}(b6:∀ k a,(T k a).au<=2)
include b6
def Q6:∀ (L:List Nat) (a n:Nat),(oa T L a n).ce=g3 (gE T) L a n
 |[],a,n=>rfl
 |q::L,a,n=>by
  rcases pt (b6 q a)with⟨e,bn⟩ | ⟨e,bn⟩ | ⟨e,bn⟩;·simp only[oa,g3,gE,e,bn];rfl
  ·simp only[oa,g3,gE,e,bn];rfl
  ·have be:=Q6 L (T q a).aP (fs n (T q a).n);simp only[oa,g3,gE,e,bn]at be |-;exact be
def Q7:∀ (L:List Nat) (a:Nat),(ob T L a).ce=hC (gE T) L a
 |[],a=>rfl
 |q::L,a=>by
  rcases pt (b6 q a)with⟨e,bn⟩ | ⟨e,bn⟩ | ⟨e,bn⟩;·simp only[ob,hC,gE,e,bn];exact bn
  ·have be:=Q7 L a;simp only[ob,hC,gE,e,bn]at be |-;exact be
  ·simp only[ob,hC,gE,e,bn];exact bn
def Q8{q:Nat}{lo hi:Int}(bA:hi≠-1):∀ (j i a n:Nat),(nl T q lo j i a n).ce=ft (gE T) q lo hi j i a n
 |0,i,a,n=>by simp only[nl,ft,ea bA,ba];rfl
 |j+1,i,a,n=>by
  rcases pt (b6 q a)with⟨e,bn⟩ | ⟨e,bn⟩ | ⟨e,bn⟩;·simp only[nl,ft,gE,e,bn];rfl
  ·simp only[nl,ft,gE,e,bn];cases decide ((i:Int)<lo)<;>rfl
  ·have be:=Q8 (q:=q) (lo:=lo) bA j (i+1) (T q a).aP (fs n (T q a).n);simp only[nl,ft,gE,e,bn,ea bA]at be |-;exact be
def Q9{P:da}{k a:Nat}(h:(P.aH k).d.k=6->(P.aH k).d.hi≠-1):(dp P T k a).ce=dM P (gE T) k a:=by
 rcases An (P.aH k).d.k with e | e | e | e | e | e | e | e | e | ⟨cv,aw,aB,bD,dH,gJ,kp,mB,nk⟩
 ·rw[wF e];simp only[dp,e];rfl
 ·rw[wG e];simp only[dp,e];cases ai:P.s.data[a]? with
  |none=>rfl
  |some b=>
   simp only;cases lf (P.aH k).d b.toNat<;>rfl
 ·rw[wH e];simp only[dp,e];cases preB P.s (P.aH k).d.t a<;>rfl
 ·rw[wI e];simp[dp,e,gE]
 ·rw[wJ e,<-Q6 b6];simp[dp,e]
 ·rw[wK e,<-Q7 b6];simp[dp,e]
 ·have bA:=h e;rw[tp e,<-Q8 b6 bA];simp[dp,e,bA,wE]
 ·rw[wL e];generalize aO:(P.aH k).bT.getD 0 0=q;rcases pt (b6 q a)with⟨g,dD⟩ | ⟨g,dD⟩ | ⟨g,dD⟩
  ·simp only[dp,e,aO,g,gE,dD];rfl
  ·simp only[dp,e,aO,g,gE,dD];rfl
  ·simp only[dp,e,aO,g,gE,dD];rfl
 ·rw[wM e];generalize aO:(P.aH k).bT.getD 0 0=q;rcases pt (b6 q a)with⟨g,dD⟩ | ⟨g,dD⟩ | ⟨g,dD⟩
  ·simp only[dp,e,aO,g,gE,dD];rfl
  ·simp only[dp,e,aO,g,gE,dD];rfl
  ·simp only[dp,e,aO,g,gE,dD];rfl
 ·rw[wN cv aw aB bD dH gJ kp mB nk];generalize aO:(P.aH k).bT.getD 0 0=q;have aq:dp P T k a=bif Nat.beq (T q a).au 2 then { T q a with n:=fs (T q a).n 1 }else T q a:=by simp only[dp,aO,ea cv,ea aw,ea aB,ea bD,ea dH,ea gJ,ea kp,ea mB,ea nk,ba]
  rw[aq];rcases pt (b6 q a)with⟨g,dD⟩ | ⟨g,dD⟩ | ⟨g,dD⟩;·simp only[g,gE,dD];exact dD
  ·simp only[g,gE,dD];exact dD
  ·simp only[g,gE,dD];simp[b2.ce,g]
end
inductive lr(m:Nat->Nat->cy)(q:Nat):Nat->Nat->Nat->Nat->Prop
 |stop{a}(h:(m q a).au=2):lr m q a 0 a 0| more {a t aP n} (h:(m q a).au=3) (ax:(m q a).aP≠a) (r:lr m q (m q a).aP t aP n):lr m q a (t+1) aP (fs (m q a).n n)
def ZY(a b c:Nat):fs a (fs b c)=fs (fs a b) c:=by unfold fs;omega
def lr.mono{m:Nat->Nat->cy}{q a t aP n lo:Nat}(h:lV lo m m')(aA:wO m)(aL:lr m q a t aP n)(aC:lo<=a):lr m' q a t aP n:=by
 induction aL with
 |stop U=>exact .stop (by rw[h q _ aC (.inl U)];exact U)| @more a t aP n U ax r be=>have e:=h q a aC (.inr U);have:=lr.more (m:=m') (q:=q) (a:=a) (by rw[e];exact U) (by rw[e];exact ax) (by rw[e];exact be (jx aC (aA q a U)));rwa [e]at this
def lr.len{m:Nat->Nat->cy}{q a t aP n:Nat}(hm:∀ q b,iz z b (m q b))(aL:lr m q a t aP n):a+t<=aP/\(a<=z->aP<=z)/\n<=1099511627776:=by
 induction aL with
 |stop U=>exact⟨cC _,id,bq _⟩| @more a t aP n U ax r be=>obtain⟨aT,aU,bG⟩:=(hm q a).ge U;obtain⟨i1,i2,i3⟩:=be;exact⟨by omega,λh=>i2 (aU h),r8 _ _⟩
def ZZ{m:Nat->Nat->cy}{q:Nat}{a t aP:Nat}(aL:lr m q a t aP c):∀ (j i n:Nat),t<j->n<=1099511627776 ->
  ft m q lo (-1) j i a n=bif decide (((i+t:Nat):Int)<lo)then ld else⟨fs n c,aP,3⟩:=by
 induction aL with
 | @stop a U=>
  intro j i n an ax;obtain⟨j,rfl⟩:∃ x,j=x+1:=⟨j-1,by omega⟩;have e:fs n 0=n:=by unfold fs;omega
  simp only[ft,U,e];rfl
 | @more a t aP c U bB r be=>intro j i n an ax;obtain⟨j,rfl⟩:∃ x,j=x+1:=⟨j-1,by omega⟩;have aa:=be j (i+1) (fs n (m q a).n) (by omega) (r8 _ _);simp only[ft,U,ea bB];rw[show Nat.beq 3 2=false from rfl,ba,show Nat.beq 3 3=true from rfl,bh,Bool.and_false,ba,aa,<-ZY];rw[show i+1+t=i+(t+1) by omega]
def Q'{m:Nat->Nat->cy}{q:Nat}{lo:Int}:∀ (j i a n:Nat),eH (ft m q lo (-1) j i a n)->∃ t aP c,lr m q a t aP c/\t<j
 |0,i,a,n,ah=>absurd ah pq
 |j+1,i,a,n,ah=>by
  cases aa:Nat.beq (m q a).au 2 with
  |true=>exact⟨0,a,0,.stop (cf aa),by omega⟩
  |false=>
   cases af:Nat.beq (m q a).au 3 with
   |false=>simp only[ft,aa,af,ba]at ah;exact absurd ah pq
   |true=>
    simp only[ft,aa,af,ba,bh]at ah;cases he:decide ((m q a).aP=a)with
    |true=>rw[he]at ah;exact absurd ah pq| false=>rw[he]at ah;obtain⟨t,aP,c,h,aK⟩:=Q' j _ _ _ ah;exact⟨t+1,aP,_,.more (cf af) (dt he) h,by omega⟩
def Ra{P:da}{k a t aP:Nat}(bO:(P.aH k).d.k=6)(bA:(P.aH k).d.hi=-1)(aC:a<=P.s.size)(aL:lr (b8 P) ((P.aH k).bT.getD 0 0) a t aP c) :
  b8 P k a=bif decide ((t:Int)<(P.aH k).d.lo)then ld else⟨c,aP,3⟩:=by
 obtain⟨pk,kV,aie⟩:=aL.len (tq P);have bg:=kV aC;rw[<-ZW,tp bO,bA,wE,bA,iQ rfl,bh,ZZ aL _ _ _ (by omega) (by omega),dk];rw[show fs 0 c=c by unfold fs;omega]
structure hR(P:da)(N:Nat)(T:Nat->Nat->b2):Prop where
 au:∀ k a,(T k a).au<=2
 snd:∀ k a,(T k a).au≠0->b8 P k a=(T k a).ce
 sM:∀ k a,k<N->a<=P.s.size->(P.aH k).d.k=6->(P.aH k).d.hi=-1->(T k a).au≠0->∃ t,lr (b8 P) ((P.aH k).bT.getD 0 0) a t (T k a).aP (T k a).n/\(T k a).fJ=min t 99
 rg:∀ k a,k<N->a<=P.s.size->(T k a).n<=1099511627776/\(T k a).aP<=P.s.size/\(T k a).fJ<=99
 out:∀ k a,¬ (k<N/\a<=P.s.size)->(T k a).ce=b8 P k a
def fu(T:Nat->Nat->b2)(k p:Nat)(c:b2):Nat->Nat->b2:=λdq nz=>bif Nat.beq dq k&&Nat.beq nz p then c else T dq nz
def Aq(T:Nat->Nat->b2)(k p:Nat)(c:b2):fu T k p c k p=c:=by simp[fu]
def u6{T:Nat->Nat->b2}{k dq nz:Nat}{c:b2}(h:¬ (dq=k/\nz=p)):fu T k p c dq nz=T dq nz:=by
 unfold fu;have:(Nat.beq dq k&&Nat.beq nz p)=false:=by rw[wb];intro e;simp only[b3,Nat.beq_eq]at e;exact h e
 rw[this];rfl
structure tt(P:da)(N:Nat)(k:Nat):Prop where
 p8:0<=(P.aH k).d.k
 one:(P.aH k).d.k=3\/6<=(P.aH k).d.k->(P.aH k).bT.getD 0 0<N
 bT:∀ q∈(P.aH k).bT,q<N
 m7:(P.aH k).d.k=6->(P.aH k).d.lo<=99
section
variable{P:da}{N:Nat}{T:Nat->Nat->b2}
def hR.le(h:hR P N T):lV 0 (gE T) (b8 P):=λq b _ ah=>h.snd q b ((yx (h.au q b)).1 ah)
def hR.qZ(h:hR P N T)(q b:Nat):iz P.s.size b (gE T q b):=by
 by_cases e:(T q b).au=0
 ·rcases pt (h.au q b)with⟨_,bn⟩ | ⟨aB,_⟩ | ⟨aB,_⟩
  ·exact .inl bn
  ·omega
  ·omega
 ·show iz _ _ (T q b).ce;rw[<-h.snd q b e];exact tq P q b
def hR.ge(h:hR P N T):wO (gE T):=λq b af=>((h.qZ q b).ge af).1
def Z0{t:Nat}(h:lo<=99):decide (((min t 99:Nat):Int)<lo)=decide ((t:Int)<lo):=by rw[l2];simp only[e0];omega
def Rb(lo:Int)(n aP t:Nat):(lW lo ⟨n,aP,2,t⟩).ce=bif decide ((t:Int)<lo)then ld else⟨n,aP,3⟩:=by
 unfold lW;cases decide ((t:Int)<lo)<;>rfl
def Rc(lo:Int)(c:b2):(lW lo c).n=c.n/\(lW lo c).aP=c.aP/\(lW lo c).fJ=c.fJ:=by
 unfold lW;cases decide ((c.fJ:Int)<lo)<;>exact⟨rfl,rfl,rfl⟩
def Rd(lo:Int)(c:b2)(h:c.au=2):(lW lo c).au<=2:=by
 unfold lW;cases decide ((c.fJ:Int)<lo)
 ·exact Nat.le_of_eq h
 ·show 1<=2;omega
def Z1(h:hR P N T){k a:Nat}(ae:k<N)(aC:a<=P.s.size)(ax:tt P N k)(bO:(P.aH k).d.k=6)(bA:(P.aH k).d.hi=-1){c:b2}(aL:u5 T k ((P.aH k).bT.getD 0 0) (P.aH k).d.lo a=c) :
  c.au<=2/\c.n<=1099511627776/\c.aP<=P.s.size/\c.fJ<=99/\(c.au≠0->b8 P k a=c.ce/\∃ t,lr (b8 P) ((P.aH k).bT.getD 0 0) a t c.aP c.n/\c.fJ=min t 99):=by
 have ev:=ax.m7 bO;have Z2:=ax.one (.inr (by omega));generalize aO:(P.aH k).bT.getD 0 0=q at aL Z2 |-;have CW:=fun {t aP c} (h:lr (b8 P) q a t aP c)=>Ra bO bA aC (by rw[aO];exact h);unfold u5 at aL;rcases pt (h.au q a)with⟨e,bn⟩ | ⟨e,bn⟩ | ⟨e,bn⟩
 ·simp only[e]at aL;subst aL;exact⟨bq _,bq _,bq _,bq _,λh=>absurd rfl h⟩
 ·have ar:=h.snd q a (by omega);rw[bn]at ar;have eE:lr (b8 P) q a 0 a 0:=.stop (by rw[ar];rfl);simp only[e]at aL;have rI:lW (P.aH k).d.lo (mC a)=c:=aL;obtain⟨f1,f2,f3⟩:=Rc (P.aH k).d.lo (mC a);rw[<-rI];refine⟨Rd _ _ rfl,by rw[f1];exact bq _,by rw[f2];exact aC,by rw[f3];exact bq _,λ_=>⟨?_,0,by rw[f1,f2];exact eE,by rw[f3];rfl⟩⟩;rw[CW eE];exact(Rb _ 0 a 0).symm
 ·have ar:=h.snd q a (by omega);rw[bn]at ar;have iP:=tq P q a;rw[ar]at iP;obtain⟨aT,aU,bG⟩:=iP.ge rfl;simp only at aT aU bG;simp only[e]at aL;cases ai:Nat.beq (T q a).aP a with
  |true=>rw[ai]at aL;have rI:h7=c:=aL;subst rI;exact⟨bq _,bq _,bq _,bq _,λh=>absurd rfl h⟩
  |false=>
   have bB:(T q a).aP≠a:=λe=>by rw[e]at ai;simp at ai
   rw[ai]at aL;have rI:(bif Nat.beq (T k (T q a).aP).au 0 then h7 else lW (P.aH k).d.lo ⟨fs (T q a).n (T k (T q a).aP).n,(T k (T q a).aP).aP,2,min ((T k (T q a).aP).fJ+1) 99⟩)=c:=aL;cases ao:Nat.beq (T k (T q a).aP).au 0 with
   |true=>rw[ao,bh]at rI;subst rI;exact⟨bq _,bq _,bq _,bq _,λh=>absurd rfl h⟩
   |false=>
    rw[ao,ba]at rI;have lj:=aU aC;obtain⟨t,eL,av⟩:=h.sM k (T q a).aP ae lj bO bA λe=>by rw[e]at ao;cases ao
    rw[aO]at eL;obtain⟨gC,eG,gT⟩:=h.rg k (T q a).aP ae lj;have eE:lr (b8 P) q a (t+1) (T k (T q a).aP).aP (fs (T q a).n (T k (T q a).aP).n):=by have:=lr.more (m:=b8 P) (q:=q) (a:=a) (by rw[ar]) (by rw[ar];exact bB) (by rw[ar];exact eL);rwa [ar]at this
    generalize ab:(⟨fs (T q a).n (T k (T q a).aP).n,(T k (T q a).aP).aP,2,min ((T k (T q a).aP).fJ+1) 99⟩:b2)=x at rI;obtain⟨f1,f2,f3⟩:=Rc (P.aH k).d.lo x;rw[<-rI];subst ab;have hm:min ((T k (T q a).aP).fJ+1) 99=min (t+1) 99:=by omega
    refine⟨Rd _ _ rfl,by rw[f1];exact r8 _ _,by rw[f2];exact eG,by rw[f3];exact F8 _ _,λ_=>⟨?_,t+1,by rw[f1,f2];exact eE,by rw[f3];exact hm⟩⟩;rw[CW eE,Rb,hm,Z0 ev]
def Re(h:hR P N T):∀ (L:List Nat) (a n:Nat),(∀ q∈L,q<N)->a<=P.s.size->n<=1099511627776->(oa T L a n).au<=2/\(oa T L a n).n<=1099511627776/\(oa T L a n).aP<=P.s.size/\(oa T L a n).fJ<=99
 |[],a,n,_,aC,ax=>⟨cC _,ax,aC,bq _⟩
 |q::L,a,n,c7,aC,ax=>by
  unfold oa;cases Nat.beq (T q a).au 2 with
  |true=>exact Re h L _ _ (λq aO=>c7 q (.tail _ aO)) (h.rg q a (c7 q (.head _)) aC).2.1 (r8 _ _)| false=>exact⟨h.au q a,bq _,bq _,bq _⟩
def Rf(h:hR P N T):∀ (L:List Nat) (a:Nat),(∀ q∈L,q<N)->a<=P.s.size->(ob T L a).au<=2/\(ob T L a).n<=1099511627776/\(ob T L a).aP<=P.s.size/\(ob T L a).fJ<=99
 |[],a,_,aC=>⟨by show 1<=2;omega,bq _,bq _,bq _⟩
 |q::L,a,c7,aC=>by
  unfold ob;cases Nat.beq (T q a).au 1 with
  |true=>exact Rf h L _ (λq aO=>c7 q (.tail _ aO)) aC| false=>exact⟨h.au q a,h.rg q a (c7 q (.head _)) aC⟩
def Rg(h:hR P N T){q:Nat}(aO:q<N){lo:Int}:∀ (j i a n:Nat),a<=P.s.size->n<=1099511627776->(nl T q lo j i a n).au<=2/\(nl T q lo j i a n).n<=1099511627776/\(nl T q lo j i a n).aP<=P.s.size/\(nl T q lo j i a n).fJ<=99
 |0,i,a,n,aC,ax=>⟨cC _,ax,aC,bq _⟩
 |j+1,i,a,n,aC,ax=>by
  unfold nl;cases Nat.beq (T q a).au 0||(Nat.beq (T q a).au 1&&decide ((i:Int)<lo))with
  |true=>exact⟨h.au q a,bq _,bq _,bq _⟩
  |false=>
   cases Nat.beq (T q a).au 1 with
   |true=>exact⟨cC _,ax,aC,bq _⟩| false=>exact Rg h aO j _ _ _ (h.rg q a aO aC).2.1 (r8 _ _)
def Ks(h:hR P N T){k a:Nat}(ae:k<N)(aC:a<=P.s.size)(ax:tt P N k){c:b2}(aL:dp P T k a=c) :
  c.au<=2/\c.n<=1099511627776/\c.aP<=P.s.size/\c.fJ<=99/\(c.au≠0->b8 P k a=c.ce/\((P.aH k).d.k=6->(P.aH k).d.hi=-1->∃ t,lr (b8 P) ((P.aH k).bT.getD 0 0) a t c.aP c.n/\c.fJ=min t 99)):=by
 by_cases aE:(P.aH k).d.k=6/\(P.aH k).d.hi=-1
 ·have e:dp P T k a=u5 T k ((P.aH k).bT.getD 0 0) (P.aH k).d.lo a:=by simp[dp,aE.1,aE.2]
  rw[e]at aL;obtain⟨U,aa,af,aR,bC⟩:=Z1 h ae aC ax aE.1 aE.2 aL;exact⟨U,aa,af,aR,λao=>⟨(bC ao).1,λ_ _=>(bC ao).2⟩⟩
 have Kt:(P.aH k).d.k=6->(P.aH k).d.hi≠-1:=λU aa=>aE ⟨U,aa⟩;have al:c.au<=2/\c.n<=1099511627776/\c.aP<=P.s.size/\c.fJ<=99:=by
  subst aL;rcases An (P.aH k).d.k with e | e | e | e | e | e | e | e | e | ⟨cv,aw,aB,bD,dH,gJ,kp,mB,nk⟩;·simp only[dp,e];exact⟨cC _,bq _,aC,bq _⟩
  ·simp only[dp,e];cases ai:P.s.data[a]? with
   |none=>exact⟨by show 1<=2;omega,bq _,bq _,bq _⟩
   |some b=>
    have aK:a<P.s.data.size:=(jS.1 ai).1;have aB:P.s.data.size=P.s.size:=rfl;simp only;cases lf (P.aH k).d b.toNat;·exact⟨by show 1<=2;omega,bq _,bq _,bq _⟩
    ·exact⟨cC _,bq _,by show a+1<=_;omega,bq _⟩
  ·simp only[dp,e];cases aG:preB P.s (P.aH k).d.t a with
   |false=>exact⟨by show 1<=2;omega,bq _,bq _,bq _⟩| true=>simp only[preB,b3,e0]at aG;exact⟨cC _,bq _,aG.1,bq _⟩
  ·simp only[dp,e];exact⟨h.au _ _,h.rg _ _ (ax.one (.inl e)) aC⟩
  ·simp only[dp,e];exact Re h _ _ _ ax.bT aC (bq _)
  ·simp only[dp,e];exact Rf h _ _ ax.bT aC
  ·simp only[dp,e,ea (Kt e)];exact Rg h (ax.one (.inr (by omega))) _ _ _ _ aC (bq _)
  ·simp only[dp,e];have:=h.au ((P.aH k).bT.getD 0 0) a;cases Nat.beq (T ((P.aH k).bT.getD 0 0) a).au 2
   ·exact⟨this,bq _,bq _,bq _⟩
   ·exact⟨cC _,bq _,aC,bq _⟩
  ·simp only[dp,e];cases Nat.beq (T ((P.aH k).bT.getD 0 0) a).au 1 with
   |true=>exact⟨cC _,bq _,aC,bq _⟩
   |false=>
    cases Nat.beq (T ((P.aH k).bT.getD 0 0) a).au 2;·exact⟨bq _,bq _,bq _,bq _⟩
    ·exact⟨by show 1<=2;omega,bq _,bq _,bq _⟩
  ·have aq:dp P T k a=bif Nat.beq (T ((P.aH k).bT.getD 0 0) a).au 2 then { T ((P.aH k).bT.getD 0 0) a with n:=fs (T ((P.aH k).bT.getD 0 0) a).n 1 }else T ((P.aH k).bT.getD 0 0) a:=by simp only[dp,ea cv,ea aw,ea aB,ea bD,ea dH,ea gJ,ea kp,ea mB,ea nk,ba]
   rw[aq];by_cases bO:6<=(P.aH k).d.k
   ·have U:=h.au ((P.aH k).bT.getD 0 0) a;obtain⟨aa,af,aR⟩:=h.rg ((P.aH k).bT.getD 0 0) a (ax.one (.inr bO)) aC;cases Nat.beq (T ((P.aH k).bT.getD 0 0) a).au 2
    ·exact⟨U,aa,af,aR⟩
    ·exact⟨U,r8 _ _,af,aR⟩
   ·have:=ax.p8;omega
 refine⟨al.1,al.2.1,al.2.2.1,al.2.2.2,λao=>⟨?_,λbO bA=>absurd bA (Kt bO)⟩⟩;have ah:eH c.ce:=(yx al.1).2 ao;rw[<-aL,Q9 h.au Kt]at ah |-;have:=CV h.le h.ge (bq _) ah;rw[<-this]at ah |-;exact Kr ah
def hR.set(h:hR P N T){k a:Nat}(ae:k<N)(aC:a<=P.s.size)(ax:tt P N k){c:b2}(aL:dp P T k a=c)(ao:c.au≠0):hR P N (fu T k a c):=by
 obtain⟨CX,Rh,Ri,Rj,CY⟩:=Ks h ae aC ax aL;obtain⟨CY,Z3⟩:=CY ao;refine⟨λdq bS=>?_,λdq bS=>?_,λdq bS=>?_,λdq bS=>?_,λdq bS=>?_⟩
 ·by_cases e:dq=k/\bS=a
  ·obtain⟨rfl,rfl⟩:=e;rw[Aq];exact CX
  ·rw[u6 e];exact h.au _ _
 ·by_cases e:dq=k/\bS=a
  ·obtain⟨rfl,rfl⟩:=e;rw[Aq];exact λ_=>CY
  ·rw[u6 e];exact h.snd _ _
 ·by_cases e:dq=k/\bS=a
  ·obtain⟨rfl,rfl⟩:=e;rw[Aq];exact λ_ _ bO bA _=>Z3 bO bA
  ·rw[u6 e];exact h.sM _ _
 ·by_cases e:dq=k/\bS=a
  ·obtain⟨rfl,rfl⟩:=e;rw[Aq];exact λ_ _=>⟨Rh,Ri,Rj⟩
  ·rw[u6 e];exact h.rg _ _
 ·intro ab;rw[u6 λe=>ab (by rw[e.1,e.2];exact⟨ae,aC⟩)];exact h.out _ _ ab
def Rk{k a:Nat}(bO:(P.aH k).d.k=6)(bA:(P.aH k).d.hi=-1):dp P T k a=u5 T k ((P.aH k).bT.getD 0 0) (P.aH k).d.lo a:=by simp[dp,bO,bA]
def Rl(lo:Int)(c:b2)(h:c.au=2):(lW lo c).au≠0:=by
 unfold lW;cases decide ((c.fJ:Int)<lo)
 ·rw[ba,h];omega
 ·exact λh=>by cases h
def Rm{k q a:Nat}(h:(T q a).au=1\/((T q a).au=2/\(T q a).aP≠a/\(T k (T q a).aP).au≠0)):(u5 T k q lo a).au≠0:=by
 unfold u5;rcases h with h | ⟨U,aa,af⟩
 ·simp only[h];exact Rl _ _ rfl
 ·have ai:Nat.beq (T q a).aP a=false:=by rw[wb];exact λe=>aa (cf e)
  have x8:Nat.beq (T k (T q a).aP).au 0=false:=by rw[wb];exact λe=>af (cf e)
  simp only[U,ai,x8];exact Rl _ _ rfl
def Z4(h:hR P N T)(ax:∀ k,k<N->tt P N k){a:Nat}(CZ:∀ k b,a<b->(T k b).ce=b8 P k b)(e3:∀ k,k<N->(T k a).au=0->(dp P T k a).au=0)(aC:a<=P.s.size)(k:Nat):(T k a).ce=b8 P k a:=by
 have bo:lV a (b8 P) (gE T):=ZX λk b ai ah=>by
  have aw:dM P (b8 P) k b=dM P (gE T) k b:=CV h.le h.ge (bq _) ah;have ar:b8 P k b=dM P (gE T) k b:=by rw[<-aw];exact Kr (by rw[aw];exact ah)
  by_cases u7:b=a
  ·subst u7;by_cases ao:(T k b).au=0
   ·exfalso;by_cases ae:k<N
    ·have aL:=e3 k ae ao;by_cases aE:(P.aH k).d.k=6/\(P.aH k).d.hi=-1
     ·rw[Rk aE.1 aE.2]at aL;rw[tp aE.1,aE.2]at ah;obtain⟨t,aP,c,CW,-⟩:=Q' _ _ _ _ ah;generalize aO:(P.aH k).bT.getD 0 0=q at CW aL;cases CW with
      |stop U=>
       refine Rm (.inl ?_) aL;rcases pt (h.au q b)with⟨e,bn⟩ | ⟨e,bn⟩ | ⟨e,bn⟩;·simp only[gE,bn,lR]at U;cases U
       ·exact e
       ·simp only[gE,bn]at U;cases U
      |more U bB r=>
       rcases pt (h.au q b)with⟨e,bn⟩ | ⟨e,bn⟩ | ⟨e,bn⟩;·simp only[gE,bn,lR]at U;cases U
       ·simp only[gE,bn,ld]at U;cases U
       ·have iP:=h.qZ q b;simp only[gE,bn]at iP bB r;obtain⟨aT,aU,bG⟩:=iP.ge rfl;simp only at aT aU;refine Rm (.inr ⟨e,bB,λcv=>?_⟩) aL;have eG:=r.mono h.le h.ge (bq _);have aB:=Ra aE.1 aE.2 (aU aC) (by rw[aO];exact eG);have bD:=CZ k (T q b).aP (by omega);have nf:eH (b8 P k (T q b).aP):=by
         rw[aB];cases decide ((_:Int)<(P.aH k).d.lo);·exact .inr rfl
         ·exact .inl rfl
        rw[<-bD]at nf;exact(yx (h.au _ _)).1 nf cv
     ·rw[<-Q9 h.au λU aa=>aE ⟨U,aa⟩]at ah;obtain⟨CX,-⟩:=Ks h ae aC (ax k ae) rfl;exact(yx CX).1 ah aL
    ·have:=h.out k b λe=>ae e.1;rw[ar]at this;rw[<-this]at ah;exact(yx (h.au _ _)).1 ah ao
   ·show(T k b).ce=_;rw[<-h.snd k b ao];exact ar
  ·show(T k b).ce=_;rw[CZ k b (by omega)];exact ar
 by_cases ah:eH (b8 P k a)
 ·exact bo k a (cC _) ah
 ·by_cases ao:(T k a).au=0
  ·rw[(tq P k a).zero ah];rcases pt (h.au k a)with⟨e,bn⟩ | ⟨e,bn⟩ | ⟨e,bn⟩
   ·exact bn
   ·omega
   ·omega
  ·exact(h.snd k a ao).symm
def Z5(h:hR P N T){k a:Nat}(ae:k<N)(aC:a<=P.s.size)(ax:tt P N k)(he:(T k a).ce=b8 P k a)(ao:(T k a).au=0):(dp P T k a).au=0:=by obtain⟨CX,Rh,Ri,Rj,CY⟩:=Ks h ae aC ax rfl;refine zo λbB=>?_;have e:=(CY bB).1;rw[<-he]at e;have ah:=(yx CX).2 bB;rw[<-e]at ah;exact(yx (h.au _ _)).1 ah ao
end
def Z6(x:Nat):min (fs x 1) 65537=min (1+(min x 65537+0)) 65537:=by unfold fs;omega
def j0(c:cy):cy:=⟨min c.n 65537,c.aP,c.au⟩
def et(z:Nat)(m:Nat->Nat->cy)(k p:Nat):cy:=bif Nat.ble p z then j0 (m k p)else lR
def qa{m:Nat->Nat->cy}{k:Nat}(h:p<=z):et z m k p=j0 (m k p):=by unfold et;rw[yo h];rfl
def Gm{m:Nat->Nat->cy}{k:Nat}(h:eH (et z m k p)):p<=z/\et z m k p=j0 (m k p)/\eH (m k p):=by
 unfold et at h |-;cases ai:Nat.ble p z with
 |false=>rw[ai]at h;exact absurd h pq| true=>rw[ai]at h;exact⟨bJ ai,rfl,h⟩
def Rn{m:Nat->Nat->cy}(h:lV 0 m m'):wy (et z m) (et z m'):=λk p ah=>by obtain⟨U,aa,af⟩:=Gm ah;rw[aa,qa U,h k p (bq _) af]
def Ro{P:da}{gq:Nat->Nat->cy}(bo:wy kn gq){k pl:Nat}(af:(gq k (pl-P.a3)).au=3){parts:List (Nat×Nat)}(aG:kl P kn k pl parts){n0:Nat}{dC:List h4}(qy:h5 P kn n0 parts dC){N:Nat}(ar:km dC N)(fD:lh pl (gq k (pl-P.a3)).aP dC)
  (aL:(gq k (pl-P.a3)).n=min ((if(P.aH k).d.k=9 then 1 else 0)+N) 65537):∃ n l,h5 P gq n [(k,pl)] l/\km l (gq k (pl-P.a3)).n/\lh pl (gq k (pl-P.a3)).aP l:=by
 by_cases ao:(gq k (pl-P.a3)).n=0
 ·exact⟨1,[],.zero af ao .nil,⟨λ_=>ao.symm,λh=>by omega⟩,.nil fD.le⟩
 ·refine⟨n0+1,_,.node af ao (aG.le bo) (l:=dC) (by rw[dF];exact qy.le bo),?_,?_⟩
  case refine_2=>
   unfold th;cases decide ((P.aH k).d.k=9)with
   |true=>exact .cap fD| false=>exact fD
  rw[aL];refine km.cut ?_;unfold th;by_cases eT:(P.aH k).d.k=9;·rw[cK eT,iQ eT,bh];exact km.app (l:=[_]) (n:=1) ⟨λ_=>rfl,λh=>by omega⟩ ar
  ·rw[cA eT,ea eT,ba,dk];exact ar
section
variable{z:Nat}{m:Nat->Nat->cy}(hm:∀ q b,iz z b (m q b))
include hm
def Rp{P:da}(bg:P.s.size=z)(ai:P.a3=0)(k p:Nat):wx P (P.a3+p) (et z m k p):=by
 rw[ai,dk];by_cases aG:p<=z
 ·rw[qa aG];rcases hm k p with e | e | ⟨U,aa,af,aR⟩
  ·rw[e];exact⟨bq _,λh=>(by cases h),λ_=>⟨rfl,rfl⟩⟩
  ·rw[e];exact⟨by show 2<=3;omega,λh=>(by cases h),λ_=>⟨rfl,rfl⟩⟩
  ·refine⟨by show(m k p).au<=3;omega,λ_=>⟨aa,by rw[bg];exact af aG,F8 _ _⟩,λh=>absurd U h⟩
 ·have:et z m k p=lR:=by unfold et;rw[wb.2 λe=>aG (bJ e)];rfl
  rw[this];exact⟨bq _,λh=>(by cases h),λ_=>⟨rfl,rfl⟩⟩
def Rq:∀ (L:List Nat) (a n:Nat),(g3 m L a n).au=3->a<=z->allM (et z m) 0 L a/\(g3 m L a n).aP=n6 (et z m) 0 L a/\min (g3 m L a n).n 65537=min (n+kR (et z m) 0 L a) 65537
 |[],a,n,_,_=>⟨trivial,rfl,rfl⟩
 |q::L,a,n,h,aC=>by
  cases af:Nat.beq (m q a).au 3 with
  |false=>simp only[g3,af,ba]at h;rw[h]at af;cases af| true=>have bD:=cf af;have e:et z m q (a-0)=j0 (m q a):=qa aC;obtain⟨aT,aU,bG⟩:=(hm q a).ge bD;simp only[g3,af,bh]at h |-;obtain⟨i1,i2,i3⟩:=Rq L _ _ h (aU aC);simp only[allM,n6,kR,e];have oc:Nat.beq (j0 (m q a)).au 3=true:=af;rw[oc,bh,bh];refine⟨⟨bD,i1⟩,i2,?_⟩;rw[i3];show min (fs n (m q a).n+kR (et z m) 0 L (m q a).aP) 65537=min (n+(min (m q a).n 65537+kR (et z m) 0 L (m q a).aP)) 65537;unfold fs;omega
omit hm in
def Rr:∀ (L:List Nat) (a:Nat),(hC m L a).au=3->a<=z->uW (et z m) 0 L a/\∃ q∈L,hC m L a=m q a/\nh (et z m) 0 L a=bif Nat.beq (j0 (m q a)).n 0 then []else [(q,a)]
 |[],a,h,_=>by cases h
 |q::L,a,h,aC=>by
  have e:et z m q (a-0)=j0 (m q a):=qa aC;cases aa:Nat.beq (m q a).au 2 with
  |true=>have aB:=cf aa;simp only[hC,aa,bh]at h |-;obtain⟨i1,eR,i2,i3,i4⟩:=Rr L a h aC;have dW:(j0 (m q a)).au=2:=aB;simp only[uW,nh,e,dW,i4];exact⟨.inr ⟨trivial,i1⟩,eR,.tail _ i2,i3,rfl⟩
  |false=>simp only[hC,aa,ba]at h |-;have oc:(j0 (m q a)).au=3:=h;refine⟨.inl (by rw[e];exact oc),q,.head _,rfl,?_⟩;simp only[nh,e,oc];rfl
def Rs{q:Nat}{lo hi:Int}:∀ (j i a n:Nat),(ft m q lo hi j i a n).au=3->a<=z->i+j<=1000000->(hi=-1\/((i+j:Nat):Int)=hi)->∃ r,kS (et z m) 0 q hi i a (lg (et z m) 0 (List.replicate r q) a)/\allM (et z m) 0 (List.replicate r q) a /\ (ft m q lo hi j i a n).aP=n6 (et z m) 0 (List.replicate r q) a/\min (ft m q lo hi j i a n).n 65537=min (n+kR (et z m) 0 (List.replicate r q) a) 65537
 |0,i,a,n,h,aC,an,bA=>by
  simp only[ft]at h |-;cases hu:decide (hi=-1)with
  |true=>rw[hu]at h;cases h
  |false=>
   have bB:=dt hu;refine⟨0,.stop ?_,trivial,rfl,rfl⟩;rcases bA with bA | bA;·exact absurd bA bB
   ·rw[<-bA,qn]
 |j+1,i,a,n,h,aC,an,bA=>by
  have e:et z m q (a-0)=j0 (m q a):=qa aC;have cw:(i:Int)≠hi:=by
   rcases bA with bA | bA<;>omega
  cases aa:Nat.beq (m q a).au 2 with
  |true=>
   simp only[ft,aa,bh]at h |-;cases ar:decide ((i:Int)<lo)with
   |true=>rw[ar]at h;cases h| false=>exact⟨0,.fail cw (by rw[e];exact cf aa),trivial,rfl,rfl⟩
  |false=>
   cases af:Nat.beq (m q a).au 3 with
   |false=>simp only[ft,aa,af,ba]at h;cases h
   |true=>
    have bD:=cf af;obtain⟨aT,aU,bG⟩:=(hm q a).ge bD;simp only[ft,aa,af,ba,bh]at h |-;cases hu:decide (hi=-1)&&decide ((m q a).aP=a)with
    |true=>rw[hu]at h;cases h
    |false=>
     rw[hu,ba]at h;rw[ba];obtain⟨r,i0,i1,i2,i3⟩:=Rs j (i+1) _ _ h (aU aC) (by omega) (by rcases bA with bA | bA;exact .inl bA;exact .inr (by rw[<-bA];omega));have oc:Nat.beq (j0 (m q a)).au 3=true:=af;refine⟨r+1,?_,?_⟩
     ·have:=kS.more (kn:=et z m) (a3:=0) (k:=q) (hi:=hi) (t:=i) (a:=a) (by omega) cw (by rw[e];exact bD) (by rw[e];exact i0);rw[e]at this;simp only[q0,lg,e,oc,bh];cases C0:Nat.beq (j0 (m q a)).n 0<;>rw[C0]at this<;>exact this
     ·simp only[q0,allM,n6,kR,e,oc,bh];refine⟨⟨bD,i1⟩,i2,?_⟩;rw[i3];show min (fs n (m q a).n+kR (et z m) 0 (List.replicate r q) (m q a).aP) 65537=min (n+(min (m q a).n 65537+kR (et z m) 0 (List.replicate r q) (m q a).aP)) 65537;unfold fs;omega
end
structure tu(P:da)(k:Nat):Prop where
 p8:0<=(P.aH k).d.k
 one:(P.aH k).d.k=3\/6<=(P.aH k).d.k->∃ q,(P.aH k).bT=[q]
 lt:(P.aH k).d.k<10
 m7:(P.aH k).d.k=6->(P.aH k).d.hi=-1\/(0<=(P.aH k).d.hi/\(P.aH k).d.hi<=99)
def Z7{P:da}(ai:P.a3=0)(bg:P.s.size<=4096)(ax:∀ k,tu P k){m:Nat->Nat->cy}(hm:∀ q b,iz P.s.size b (m q b))(bo:lV 0 m λk a=>dM P m k a)(aA:wz P (et P.s.size m)):wz P (et P.s.size λk a=>dM P m k a):=by
 intro k p af;obtain⟨aG,he,ah⟩:=Gm (.inr af);rw[he]at af;have af:(dM P m k p).au=3:=af;have iP:=Ko hm rfl k p;obtain⟨aT,aU,bG⟩:=iP.ge af;have cv:p=p-P.a3:=by rw[ai];rfl
 have Rt:=Rn (z:=P.s.size) bo;have bf:=Rp hm rfl ai;have u9:=ax k;rw[ai,dk];have zero:(dM P m k p).n=0->∃ n l,h5 P (et P.s.size λk a=>dM P m k a) n [(k,p)] l/\km l (et P.s.size (λk a=>dM P m k a) k p).n/\lh p (et P.s.size (λk a=>dM P m k a) k p).aP l:=λao=>by refine⟨1,[],.zero (by rw[<-cv,he];exact af) (by rw[<-cv,he];show min (dM P m k p).n 65537=0;omega) .nil,?_,.nil (by rw[he];exact aT)⟩;rw[he];show km [] (min (dM P m k p).n 65537);rw[ao];exact⟨λ_=>rfl,λh=>by omega⟩
 have many:∀ (L:List Nat),kl P (et P.s.size m) k p (lg (et P.s.size m) 0 L p)->allM (et P.s.size m) 0 L p->(dM P m k p).aP=n6 (et P.s.size m) 0 L p->min (dM P m k p).n 65537=min ((if(P.aH k).d.k=9 then 1 else 0)+kR (et P.s.size m) 0 L p) 65537 ->
   ∃ n l,h5 P (et P.s.size λk a=>dM P m k a) n [(k,p)] l/\km l (et P.s.size (λk a=>dM P m k a) k p).n/\lh p (et P.s.size (λk a=>dM P m k a) k p).aP l:=λL tv q9 Z8 Z9=>by
  obtain⟨n0,dC,h6,hd,iS⟩:=Qm bf aA L p (by omega) (by rw[ai];exact q9);rw[ai]at h6 hd iS;have:=Ro Rt (k:=k) (pl:=p) (by rw[<-cv,he];exact af) tv h6 hd (by rw[<-cv,he];show lh p (dM P m k p).aP dC;rw[Z8];exact iS) (by rw[<-cv,he];exact Z9);rwa [<-cv]at this
 rcases An (P.aH k).d.k with e | e | e | e | e | e | e | e | e | ⟨p8,dO,bL,fB,k7,C1,Z',aaa,aab⟩
 ·refine zero ?_;rw[wF e]
 ·refine zero ?_;rw[wG e];cases P.s.data[p]? with
  |none=>rfl| some b=>cases ai:lf (P.aH k).d b.toNat<;>simp[ai,ld]
 ·refine zero ?_;rw[wH e];cases preB P.s (P.aH k).d.t p<;>rfl
 ·obtain⟨q,aO⟩:=u9.one (.inl e);have j1:dM P m k p=m q p:=by rw[wI e,aO];rfl
  have ng:et P.s.size m q (p-0)=j0 (m q p):=qa aG;rw[j1]at af;have hz:(j0 (m q p)).au=3:=af;refine many [q] ?_ ⟨by rw[ng];exact hz,trivial⟩ ?_ ?_;·unfold kl;rw[cA (by omega),cA (by omega),aO,ai];exact⟨⟨by rw[ng];exact hz,trivial⟩,rfl⟩
  ·rw[j1];simp only[n6,ng,hz];rfl
  ·rw[j1,cA (by omega)];simp only[kR,ng,hz];show min (m q p).n 65537=min (0+(min (m q p).n 65537+0)) 65537;omega
 ·have j1:dM P m k p=g3 m (P.aH k).bT p 0:=wJ e;rw[j1]at af;obtain⟨i1,i2,i3⟩:=Rq hm _ _ _ af aG;refine many (P.aH k).bT ?_ i1 (by rw[j1];exact i2) (by rw[j1,i3,cA (by omega)]);unfold kl;rw[cA (by omega),cA (by omega),ai];exact⟨i1,rfl⟩
 ·have j1:dM P m k p=hC m (P.aH k).bT p:=wK e;have aac:=af;rw[j1]at af;obtain⟨i1,q,i2,i3,i4⟩:=Rr _ _ af aG;rw[i3]at af;have ng:et P.s.size m q p=j0 (m q p):=qa aG;obtain⟨hs,pk,h6,hd,iS⟩:=aA q p (by rw[ng];exact af);rw[ai,dk]at h6 iS;have qy:∃ kO kV,h5 P (et P.s.size m) kO (nh (et P.s.size m) 0 (P.aH k).bT p) kV/\km kV (j0 (m q p)).n/\lh p (m q p).aP kV:=by
   rw[i4];rw[ng]at hd iS;cases C0:Nat.beq (j0 (m q p)).n 0 with
   |true=>rw[bh];refine⟨0,[],.nil,?_,.nil iS.le⟩;rw[cf C0];exact⟨λ_=>rfl,λh=>by omega⟩| false=>exact⟨hs,pk,h6,hd,iS⟩
  obtain⟨kO,kV,gC,eG,gT⟩:=qy;have aad:kl P (et P.s.size m) k p (nh (et P.s.size m) 0 (P.aH k).bT p):=by unfold kl;rw[cA (by omega),cK e,ai];exact⟨i1,rfl⟩
  have:=Ro Rt (k:=k) (pl:=p) (by rw[<-cv,he];exact aac) aad gC eG (by rw[<-cv,he];show lh p (dM P m k p).aP kV;rw[j1,i3];exact gT) (by rw[<-cv,he,cA (by omega)];show min (dM P m k p).n 65537=min (0+min (m q p).n 65537) 65537;rw[j1,i3];omega);rwa [<-cv]at this
 ·have j1:=tp (m:=m) (a:=p) e;rw[j1]at af;have r9:=u9.m7 e;obtain⟨r,i0,i1,i2,i3⟩:=Rs hm _ _ _ _ af aG (by
    unfold wE;cases hu:decide ((P.aH k).d.hi=-1)with
    |true=>rw[bh];omega| false=>rw[ba];have:=dt hu;omega) (by
    unfold wE;rcases r9 with U | U;·exact .inl U
    ·have:¬ (P.aH k).d.hi=-1:=by omega
     rw[ea this,ba];exact .inr (by omega))
  refine many (List.replicate r ((P.aH k).bT.getD 0 0)) ?_ i1 (by rw[j1];exact i2) (by rw[j1,i3,cA (by omega)]);unfold kl;rw[cK e,ai];exact i0
 ·refine zero ?_;rw[wL e]at af |-;cases lX:Nat.beq (m ((P.aH k).bT.getD 0 0) p).au 3 with
  |true=>rfl| false=>rw[lX,ba]at af;rw[af]at lX;cases lX
 ·refine zero ?_;rw[wM e]at af |-;cases eW:Nat.beq (m ((P.aH k).bT.getD 0 0) p).au 2 with
  |true=>rfl
  |false=>
   rw[eW,ba]at af;cases lX:Nat.beq (m ((P.aH k).bT.getD 0 0) p).au 3<;>rw[lX]at af<;>cases af
 ·have FG:6<=(P.aH k).d.k:=by have:=u9.p8;omega
  obtain⟨q,aO⟩:=u9.one (.inr FG);have j1:=wN (m:=m) (a:=p) p8 dO bL fB k7 C1 Z' aaa aab;rw[aO]at j1;have ng:et P.s.size m q (p-0)=j0 (m q p):=qa aG;have Ku:([q]:List Nat).getD 0 0=q:=rfl;rw[Ku]at j1;cases lX:Nat.beq (m q p).au 3 with
  |false=>rw[j1,lX,ba]at af;rw[af]at lX;cases lX
  |true=>
   rw[lX,bh]at j1;have hz:(j0 (m q p)).au=3:=cf lX;refine many [q] ?_ ⟨by rw[ng];exact hz,trivial⟩ ?_ ?_;·unfold kl;rw[cA (by omega),cA (by omega),aO,ai];exact⟨⟨by rw[ng];exact hz,trivial⟩,rfl⟩
   ·rw[j1];simp only[n6,ng,hz];rfl
   ·rw[j1];have eT:(P.aH k).d.k=9:=by have:=u9.lt;omega
    rw[cK eT];simp only[kR,ng,hz];exact Z6 (m q p).n
noncomputable def dU(P:da):Nat->Nat->cy:=et P.s.size (b8 P)
def Ru{P:da}(ai:P.a3=0)(bg:P.s.size<=4096)(ax:∀ k,tu P k):wz P (dU P):=by
 have step:∀ n,wz P (et P.s.size (eO P n)):=λn=>by
  induction n with
  |zero=>intro k p af;obtain⟨-,-,ah⟩:=Gm (.inr af);exact absurd ah pq
  |succ n be=>exact Z7 ai bg ax (Gk P n) (Kp P n) be
 intro k p af;obtain⟨aG,he,ah⟩:=Gm (.inr af);obtain⟨n,ax⟩:=n' ah;have e:et P.s.size (eO P n) k p=et P.s.size (b8 P) k p:=by rw[qa aG,qa aG,ax]
 obtain⟨hs,l,h6,hd,iS⟩:=step n k p (by rw[e];exact af);rw[e]at hd iS;exact⟨hs,l,h6.le (Rn (Q2 P n)),hd,iS⟩
def Rv{P:da}(ai:P.a3=0)(k p:Nat):wx P (P.a3+p) (dU P k p):=Rp (tq P) rfl ai k p
structure aae(P:da)(f g:(Nat->Nat->cy)->cy):Prop where
 l:f (b8 P)=g (b8 P)
 d:∀ n,eH (f (eO P n))->eH (g (eO P n))
def Gn(P:da)(A:Nat->Nat->Prop)(f:(Nat->Nat->cy)->cy):Prop:=∀ n,eH (f (eO P n))->∃ k a hA,hA<=n/\A k a/\eH (eO P hA k a)
def Rw(P:da)(A:Nat->Nat->Prop)(k a:Nat):Prop:=∀ n,eH (eO P n k a)->∃ dq bS hA,hA<n/\A dq bS/\eH (eO P hA dq bS)
def Gn.aP{P:da}{f g:(Nat->Nat->cy)->cy}(h:Gn P A g)(av:aae P f g):Gn P A f:=λn ah=>h n (av.d n ah)
def Rw.le{P:da}{k a:Nat}(h:Rw P A k a):Gn P A λm=>m k a:=λn ah=>by obtain⟨dq,bS,hA,U,aa,af⟩:=h n ah;exact⟨dq,bS,hA,Nat.le_of_lt U,aa,af⟩
section
end
section
variable{X:cD}{o:Oper}{F:Fr}{C:c2}{I:aS}{M:List ay}{K:fo}
def bl.aaf(aE:cE X.P X.E)(aq:o.op=.convert src dst x)(ah:∀ d,o.dst=some d->d<X.n)
 (av:X.E src=some dc) (dL:dc.bz=.slice e) (he:X.E e=some aD) (kf:aD.bz=.int .u8) (ke:X.E dst=some Gc) (jn:Gc.bz=.string)
  {ad:Addr} {n:Nat} {l:List UInt8} (ab:br F x=.val (.slice (some ad) n c)) (ax:l.length=n) (bs:ca I M ad n (l.map λb=>.int .u8 b.toNat))
  (h:K (put o.dst (.val (.string ⟨l.toArray⟩)) F) C I M):bl X o F C I M K:=by
 subst ax;refine⟨λa w Q ⟨β,a1⟩=>?_⟩;obtain⟨ap,cs,T,aj,ae,ag,ar⟩:=bs;have aA:=ae.heap a1.holds;obtain⟨d,eM,e4⟩:=(aE _ _ av).eJ;have U:d=.slice e:=by rw[dL]at e4;cases d<;>simp_all[eD]
 subst U;obtain⟨d2,Kv,nf⟩:=(aE _ _ he).eJ;have aa:d2=.int .u8:=by rw[kf]at nf;cases d2<;>simp_all[eD]
 subst aa;obtain⟨d3,Kw,FW⟩:=(aE _ _ ke).eJ;have af:d3=.string:=by rw[jn]at FW;cases d3<;>simp_all[eD]
 subst af;have aL:∀ j (an:j<l.length),w.cell? (ad.add j)=some (.int .u8 (l[j].toNat:Int)):=by
  intro j an;rw[dS ad ap,sH aA];have ij:(l.map λb=>Value.int .u8 b.toNat)[j]?=some (.int .u8 (l[j].toNat:Int)):=by simp[an]
  rw[<-ag,kx,cK an,pI]at ij;simpa using ij
 have ex:=cV a1.aj ab;refine sI a1 ah (by rw[aq];simp) ?_ h;unfold execOp;simp only[aq,bZ,cG,ex,run_convert_bytes_back w src dst e ad c l eM Kv Kw aL,bK]
end
section
variable{X:cD}{F:Fr}{C:c2}{I:aS}{M:List ay}{o:Oper}{K:fo}
def bl.aag(aE:cE X.P X.E)(aq:o.op=.convert src dst x)(ah:∀ d,o.dst=some d->d<X.n)
 (av:X.E src=some dc) (dL:dc.bz=.slice e) (he:X.E e=some aD) (kf:aD.bz=.int .u8) (ke:X.E dst=some Gc) (jn:Gc.bz=.string)
 (ab:br F x=.val (.slice none 0 c))
  (h:K (put o.dst (.val (.string ⟨#[]⟩)) F) C I M):bl X o F C I M K:=by
 refine⟨λa w Q ⟨β,a1⟩=>?_⟩;obtain⟨d,eM,e4⟩:=(aE _ _ av).eJ;have U:d=.slice e:=by rw[dL]at e4;cases d<;>simp_all[eD]
 subst U;obtain⟨d2,Kv,nf⟩:=(aE _ _ he).eJ;have aa:d2=.int .u8:=by rw[kf]at nf;cases d2<;>simp_all[eD]
 subst aa;obtain⟨d3,Kw,FW⟩:=(aE _ _ ke).eJ;have af:d3=.string:=by rw[jn]at FW;cases d3<;>simp_all[eD]
 subst af;have ex:=cV a1.aj ab;refine sI a1 ah (by rw[aq];simp) ?_ h;unfold execOp;have eK:(convert src dst (.slice none 0 c)).run X.P w=.ok (.string ⟨#[]⟩) w:=by rw[run_convert_bytes_string w src dst e none 0 c eM Kv Kw];rfl
 simp only[aq,bZ,cG,ex,eK,bK]
end
def bb.whole{P:Program}{f:Nat}(post:Value->aS->List ay->Prop)(ap:Spec P f args I M post)(k:∀ v I' M',(∀ b o,I b=some o->I' b=some o)->post v I' M'->K v I' M'):bb bW P f args I M K:=
 .mk M [] post (by simp) ap λv I' M' U aa=>by rw[dF];exact k v I' M' U aa
def fi.whole{soft:Bool}{P:Program}{f:Nat}(post:Value->aS->List ay->Prop)(ap:Spec P f args I M post)(oO:∀ v I' M',post v I' M'->∀ x∈M,x∈M')(k:∀ v I' M',(∀ b o,I b=some o->I' b=some o)->post v I' M'->K v I' M'):fi soft bW P f args I M K:=
 .lC M [] post (by simp) ap oO λv I' M' U aa=>by rw[dF];exact k v I' M' U aa
def fi.aah{P:Program}{f:Nat}(post:Value->aS->List ay->Prop)(ap:Spec P f args I M post)(k:∀ v I' M',(∀ b o,I b=some o->I' b=some o)->post v I' M'->K v I' M'):fi true bW P f args I M K:=
 .NS rfl M [] post (by simp) ap λv I' M' U aa=>by rw[dF];exact k v I' M' U aa
section
variable{X:cD}{β:Nat->Nat}{a:Act}{w:World}{F:Fr}{C:c2}{I:aS}{M:List ay}{o:Oper}{K:fo}
def i'.Gp{M':List ay}(h:M=M'):i' bW I M I M':=by subst h;exact .refl
def bl.hh(h:bl X o F C I M λF C I M=>∃ I' M',i' X.bW I M I' M'/\K F C I' M'):bl X o F C I M K:=by obtain⟨h⟩:=h;refine⟨λa w Q a1=>qm ?_ (h a w Q a1)⟩;rintro bS w'⟨dE,C',I',M',⟨β,al⟩,dP,dr,hw,ae⟩;exact⟨dE,C',dP,dr,⟨β,al.hh hw⟩,ae⟩
def bl.wP(aE:cE X.P X.E){s:Operand}{t:Nat}(aq:o.op=.call { callee:=.builtin .append,args:=#[s,x],argTypes:=#[t,t] })(ah:∀ d,o.dst=some d->d<X.n)
 (av:X.E t=some dc) (dL:dc.bz=.slice e) (he:X.E e=some aD)
  (os:bk) {xs:List Value} (bf:os.ok aD.size xs) (ap:br F s=.val os.val)
  {b9:Nat} {cs:List Value} (ab:br F x=.val (.slice (some ⟨b9,0,none⟩) 1 c')) (ar:cs.length=aD.size) (U:hH cs=true)
  (a6 post:List ay) (a4:M=⟨b9,.cells cs.toArray e (0,0)⟩::(a6++(os.aY e++post))) (bI:os.n+1<=9223372036854775807) (cx:(os.n+1)*aD.bytes<=140737488355328)
  (k:∀ cY:bk,cY.n=os.n+1->(∀ g,cY.a=some g->I g=none)->cY.ok aD.size (xs++cs)->K (put o.dst (.val cY.val) F) C I (a6++(cY.aY e++post))):bl X o F C I M K:=by
 refine .hh (.Xa aE aq ah av dL he os bf ap (m:=1) (ct:=cs) ab (by decide) ?_ U (Mr:=⟨b9,.cells cs.toArray e (0,0)⟩::(a6++post)) ?_ (by unfold maxLen;exact bI) cx ?_)
 ·rw[oX];refine⟨rfl,_,_,_,.inr ⟨⟨b9,.cells cs.toArray e (0,0)⟩,by rw[a4];exact .head _,rfl,rfl⟩,?_,ar⟩;simp only[zJ];exact hn (by omega)
 ·rw[a4];have aa:(⟨b9,.cells cs.toArray e (0,0)⟩::(a6++(os.aY e++post)):List ay).Perm (⟨b9,.cells cs.toArray e (0,0)⟩::(os.aY e++(a6++post))):=.cons _ (CK _ _ _);exact aa.trans pi.symm
 ·intro g c aJ bF eY ez ga jk;refine⟨I,a6++((⟨some g,os.n+1,c,aJ⟩:bk).aY e++post),.sub (M1:=⟨g,.cells aJ.toArray e (0,0)⟩::(a6++post)) (.cons_cons _ (.cons _ (.refl _))) (.perm ?_ .refl),k ⟨some g,os.n+1,c,aJ⟩ rfl (λdD aA=>by cases aA;exact bF) ⟨?_,(λh=>by cases h),λdD aA=>?_⟩⟩
  ·exact pi.symm
  ·rw[cU,bf.len,ar,jG,oX]
  ·cases aA;exact⟨eY,ez,ga,jk⟩
end
def aai(a6 mid post:List Value)(k:Nat)(vs:List Value)(h:k+vs.length<=mid.length):bu (a6++(mid++post)) (a6.length+k) vs=a6++(bu mid k vs++post):=by
 unfold bu;have U:(a6++(mid++post)).take (a6.length+k)=a6++mid.take k:=by rw[JY,JU,hn (by omega),E6 (by omega)]
 have aa:(a6++(mid++post)).drop (a6.length+k+vs.length)=mid.drop (k+vs.length)++post:=by rw[oA,Oh,List.drop_append_of_le_length h]
 rw[U,aa];simp
def Kx(f:α->List Value)(size:Nat)(az:∀ x,(f x).length=size)(l:List α)(i:Nat)(hi:i<l.length)(k:Nat)(vs:List Value)(ae:k+vs.length<=size)(pL:α)(ab:bu (f l[i]) k vs=f pL) :
  bu (l.flatMap f) (i*size+k) vs=(l.set i pL).flatMap f:=by
 have e:l=l.take i++l[i]::l.drop (i+1):=by rw[<-fg hi,uB]
 have aw:l.flatMap f=(l.take i).flatMap f++(f l[i]++(l.drop (i+1)).flatMap f):=by
  calc l.flatMap f=(l.take i++l[i]::l.drop (i+1)).flatMap f:=congrArg _ e
   _=_:=by rw[mm,lD]
 have aB:((l.take i).flatMap f).length=i*size:=by rw[hb f size az,List.length_take_of_le (by omega)]
 rw[aw,<-aB,aai _ _ _ _ _ (by rw[az];exact ae),xM,cK hi,mm,lD,ab]
def aaj{j m:Nat}(h:j+vs.length<=m)(hm:m<=aJ.length):(bu aJ j vs).take m=bu (aJ.take m) j vs:=by
 unfold bu;have U:(aJ.take m).take j=aJ.take j:=by rw[sZ,Bs (by omega)]
 have aa:(aJ.take m).drop (j+vs.length)=(aJ.drop (j+vs.length)).take (m-(j+vs.length)):=by rw[uE]
 have af:(aJ.take j).length=j:=by rw[ma];omega
 rw[U,aa,gl,gl,JY,af,hn (by omega),JY,hn (by omega:vs.length<=m-j)];congr 3;omega
def bk.put(f:α->List Value)(size:Nat)(az:∀ x,(f x).length=size){l:List α}(h:os.ok size (l.flatMap f)){i:Nat}(hi:i<l.length)(k:Nat)(ae:k+vs.length<=size)(U:hH vs=true)(pL:α)(ab:bu (f l[i]) k vs=f pL)(a6 post:List ay)(a4:M=a6++(os.aY e++post)){g off:Nat}(aA:os.a=some g)(aak:off=i*size+k){K:List ay->Prop}
  (fy:∀ (cY:bk),cY.val=os.val->cY.a=os.a->cY.n=os.n->cY.ok size ((l.set i pL).flatMap f)->K (a6++(cY.aY e++post))):cg M ⟨g,off,none⟩ vs K:=by
 have vB:=h.len;rw[hb f size az]at vB;obtain⟨a,n,c,aJ⟩:=os;have ar:l.length*size=n*size:=vB;simp only at aA;subst aA;obtain⟨eY,ez,ga,jk⟩:=h.cap g rfl;simp only at eY ez ga jk;have ai:n*size<=c*size:=rr _ ez;have g8:i*size+size<=l.length*size:=by have:=rr size (show i+1<=l.length from hi);rwa [jG,oX]at this
 subst a4;subst aak;refine cg.mk a6 post aJ.toArray e rfl rfl ?_ U ?_
 ·simp only[rs];omega
 ·have:=fy ⟨some g,n,c,bu aJ (i*size+k) vs⟩ rfl rfl rfl ⟨?_,(λh=>by cases h),λdD aA=>?_⟩
  ·simpa[bk.aY]using this
  ·rw[hb f size az,yp];exact ar
  ·cases aA;refine⟨?_,ez,ga,?_⟩
   ·simp only[bu,cU,ma,vR];omega
   ·simp only;rw[aaj (by omega) (by omega),jk,Kx f size az l i hi k vs ae pL ab]
def aal(l:List Value)(k:Nat)(v:Value)(h:k<l.length):bu l k [v]=l.set k v:=by rw[xM,cK h];simp[bu]
def cy.cells(c:cy):List Value:=[.int .i32 c.n,.int .i16 c.aP,.int .u8 c.au]
def cy.de(c:cy):c.cells.length=3:=rfl
def p9.cells(f:p9):List Value:=[.int .i32 f.ch,.int .i32 f.pl,.int .i32 f.fJ,.int .i32 f.aP,.int .i32 f.n]
def p9.de(f:p9):f.cells.length=5:=rfl
structure q' where
 d:a9
 a:Option Addr
 n:Nat
 c:Nat
 bT:List Nat
def q'.cells(x:q'):List Value:=x.d.cells++[.slice x.a x.n x.c]
def q'.de(x:q'):x.cells.length=10:=rfl
structure q'.ok(I:aS)(x:q'):Prop where
 d:x.d.ok I
 bd:fb I x.a x.n x.c 1 8 (x.bT.map λ(k:Nat)=>Value.int .i64 (k:Int))
def q'.pn(x:q'):n5:=⟨x.d,x.bT⟩
structure C2 where
 xs:List q'
 a:Option Addr
 n:Nat
 c:Nat
structure C2.ok(I:aS)(x:C2):Prop where
 bd:fb I x.a x.n x.c 10 0 (x.xs.flatMap q'.cells)
 xs:∀ y∈x.xs,y.ok I
def C2.ok.n{x:C2}(h:x.ok I):x.xs.length=x.n:=by have:=h.bd.len;rw[hb _ 10 q'.de]at this;omega
structure db where
 hP:Nat
 yy:Nat
 s:ByteArray
 a3:Nat
 ed:Nat
 ns:C2
def db.iA(m:db):da:=⟨m.ns.xs.map q'.pn,m.s,m.a3⟩
def wrap_i32{x:Int}(U:-2147483648<=x)(aa:x<=2147483647):IntKind.i32.wrap x=x:=by unfold IntKind.wrap;simp only[IntKind.bits,IntKind.signed];simp;omega
def bk.aH{f:α->List Value}{size:Nat}(az:∀ x,(f x).length=size)(ao:0<size){l:List α}(h:os.ok size (l.flatMap f))(a4:∀ x∈os.aY e,x∈M){g:Nat}(aA:os.a=some g){i:Nat}(hi:i<l.length):ca I M ⟨g,i*size,none⟩ size (f l[i]):=by obtain⟨ad,b7,bs⟩:=bk.ok.row (I:=I) (M:=M) (e:=e) az ao h a4 hi;rw[aA]at b7;cases b7;rwa [dS _ rfl,dk]at bs
structure Rx(os:bk)(a2:List p9)(f:p9)(g:Nat):Prop where
 a:os.a=some g
 ok:os.ok 5 ((a2++[f]).flatMap p9.cells)
section
end
def aam{w:Int}(hw:eh w)(k:Nat):decide (IntKind.u64.wrap ((BitVec.ofInt 64 (w.fdiv (2^k)) &&& BitVec.ofInt 64 1).toNat:Int)=1)=w.toNat.testBit k:=by
 obtain⟨n,rfl⟩:=oV hw.1;have ax:n<18446744073709551616:=by have:=hw.2;omega
 have aw:((n:Int)).fdiv (2^k)=((n/2^k:Nat):Int):=by rw[E7 _ (by exact Int.le_of_lt (Int.pow_pos (by decide)))];simp
 rw[aw];have aB:(BitVec.ofInt 64 ((n/2^k:Nat):Int) &&& BitVec.ofInt 64 1).toNat=n/2^k%2:=by
  have U:BitVec.ofInt 64 ((n/2^k:Nat):Int)=BitVec.ofNat 64 (n/2^k):=(show ∀ m:Nat,BitVec.ofInt 64 (m:Int)=BitVec.ofNat 64 m from λm=>by simp) _;have aa:BitVec.ofInt 64 1=BitVec.ofNat 64 1:=by decide
  rw[U,aa,E',CL,CL];have af:n/2^k%2^64=n/2^k:=Ad (Nat.lt_of_le_of_lt (Nat.div_le_self _ _) ax);rw[af,show 1%2^64=1 by decide,Nat.and_one_is_mod]
 rw[aB];have bD:IntKind.u64.wrap ((n/2^k%2:Nat):Int)=((n/2^k%2:Nat):Int):=by have:n/2^k%2<2:=Nat.mod_lt _ (by decide);unfold IntKind.wrap;simp only[IntKind.bits,IntKind.signed];simp;omega
 rw[bD,oz,Nat.testBit_eq_decide_div_mod_eq,l2];simp only[e0];omega
def Ry{a b c d:Int}(s9:∀ x∈[a,b,c,d],eh x)(x:UInt8):Spec Tryz.prog 14 [.agg #[.int .u64 a,.int .u64 b,.int .u64 c,.int .u64 d],.int .u8 x.toNat] I M
  λv I' M'=>v=.bool (([a,b,c,d].getD (x.toNat/64) 0).toNat.testBit (x.toNat%64))/\I'=I/\M'=M:=by
 refine bX [] aV Tryz.func14 rfl rfl rfl ?_;intro B ao;have ab:x.toNat<256:=x.toNat_lt;refine l4.mk (by decide) ?_;refine a5.mk ((x.toNat/64:Nat):Int) (by
  have:((x.toNat:Int)).tdiv 64=((x.toNat/64:Nat):Int):=by simp[F7]
  rw[this];unfold IntKind.wrap;simp only[IntKind.bits,IntKind.signed];simp;omega) ?_
 have an:x.toNat/64=0\/x.toNat/64=1\/x.toNat/64=2\/x.toNat/64=3:=by omega
 have uV:((x.toNat:Int)).tmod 64=((x.toNat%64:Nat):Int):=by rw[Int.tmod_eq_emod_of_nonneg (by omega)];simp
 have uG:min (x.toNat%64) 64=x.toNat%64:=by omega
 have fin:∀ w:Int,eh w->Value.bool (decide (IntKind.u64.wrap ((BitVec.ofInt 64 (w.fdiv (2^(min (x.toNat%64) 64))) &&& BitVec.ofInt 64 1).toNat:Int)=1))=.bool (w.toNat.testBit (x.toNat%64)):=λw hw=>by rw[uG,aam hw]
 rcases an with e | e | e | e<;>rw[e]
 ·refine cH.mk 0 rfl (by decide) ?_;refine l4.mk (by decide) ?_;refine qq.mk _ uV ?_;exact⟨_,_,.refl,fin a (s9 a (by simp)),rfl,rfl⟩
 ·refine cH.mk 1 rfl (by decide) ?_;refine l4.mk (by decide) ?_;refine qq.mk _ uV ?_;exact⟨_,_,.refl,fin b (s9 b (by simp)),rfl,rfl⟩
 ·refine cH.mk 2 rfl (by decide) ?_;refine l4.mk (by decide) ?_;refine qq.mk _ uV ?_;exact⟨_,_,.refl,fin c (s9 c (by simp)),rfl,rfl⟩
 ·refine cH.mk 3 rfl (by decide) ?_;refine l4.mk (by decide) ?_;refine qq.mk _ uV ?_;exact⟨_,_,.refl,fin d (s9 d (by simp)),rfl,rfl⟩
def Ar(s t:ByteArray):Bool:=decide (t.size<=s.size)&&decide (s.extract 0 t.size=t)
def aan(s t:ByteArray):Spec Tryz.prog 223 [.string s,.string t] I M λv I' M'=>v=.bool (Ar s t)/\I'=I/\M'=M:=by
 refine bX [] aV Tryz.func223 rfl rfl rfl ?_;intro B ao;have ah:decide ((t.size:Int)<=(s.size:Int))=decide (t.size<=s.size):=by rw[l2];simp only[e0];omega
 refine cB.mk (λh=>?_) (λh=>?_)
 ·have a':(t.size:Int)<=(s.size:Int):=du h;refine ie.mk 0 t.size rfl rfl (bq _) (by omega) ?_;refine⟨_,_,.refl,?_,rfl,rfl⟩;rw[Ar,<-ah,show decide ((t.size:Int)<=(s.size:Int))=true from h,s0]
 ·refine⟨_,_,.refl,?_,rfl,rfl⟩;rw[Ar,<-ah,show decide ((t.size:Int)<=(s.size:Int))=false from h,zK]
def aao(s t:ByteArray):Spec Tryz.prog 187 [.string s,.string t] I M λv I' M'=>v=.bool (Ar s t)/\I'=I/\M'=M:=by refine bX [] aV Tryz.func187 rfl rfl rfl ?_;intro B ao;refine bb.whole _ (aan s t) ?_;rintro v I' M' -⟨rfl,rfl,rfl⟩;exact⟨_,_,.refl,rfl,rfl,rfl⟩
def aap(s t:ByteArray){a:Nat}(aC:a<=s.size):Ar (s.extract a s.size) t=preB s t a:=by
 have U:(s.extract a s.size).size=s.size-a:=by simp[IH]
 unfold Ar preB;rw[U];by_cases h:t.size<=s.size-a
 ·have aB:(s.extract a s.size).extract 0 t.size=s.extract a (a+t.size):=by rw[ByteArray.extract_extract];congr 1;omega
  rw[aB,iQ h,iQ (by omega:a+t.size<=s.size)]
 ·rw[ea h,ea (by omega:¬ a+t.size<=s.size)];rfl
def a9.yz(d:a9):a9:=⟨d.k,d.dJ,d.s1,d.s2,d.dQ,d.t,d.lo,d.hi,none,0,0,[]⟩
def a9.pn(d:a9):n5:=⟨d.yz,d.aX.map Int.toNat⟩
def b2.cells(c:b2):List Value:=[.int .i64 c.n,.int .i32 c.aP,.int .u8 c.au,.int .u8 c.fJ]
def b2.val(c:b2):Value:=.agg #[.int .i64 c.n,.int .i32 c.aP,.int .u8 c.au,.int .u8 c.fJ]
def b2.de(c:b2):c.cells.length=4:=rfl
structure ef where
 bt:Nat
 s:ByteArray
 nv:Value
 rv:Value
 jo:List a9
 na:Option Addr
 nn:Nat
 nc:Nat
 Ky:Option Addr
 gm:Nat
 rows:List Addr
 n0:Nat
 eP:Nat
def ef.w(t:ef):Nat:=t.s.size+1
def ef.P(t:ef):da:=⟨t.jo.map a9.pn,t.s,0⟩
def ef.b'(t:ef):List Value:=[.string t.s,t.nv,t.rv,.slice t.na t.nn t.nc,.slice t.Ky t.nn t.gm]
def ls(T:Nat->Nat->b2)(k w:Nat):List Value:=(List.range w).flatMap λa=>(T k a).cells
def ef.cs(t:ef)(T:Nat->Nat->b2):List Value:=(List.range (t.nn-t.n0)).flatMap λj=>ls T (t.n0+j) t.w
def ef.aY(t:ef)(T:Nat->Nat->b2):ay:=⟨t.eP,.cells (t.cs T).toArray 107 (0,0)⟩
structure ef.ok(I:aS)(t:ef)(T:Nat->Nat->b2):Prop where
 au:I t.bt=some (.cells t.b'.toArray 91 (0,0))
 ns:fb I t.na t.nn t.nc 9 96 (t.jo.flatMap a9.cells)
 jo:∀ y∈t.jo,y.ok I
 Rz:∀ y∈t.jo,y.t.size<=4096
 RA:∀ y∈t.jo,∀ x∈y.aX,0<=x/\x.toNat<t.nn
 rw:fb I t.Ky t.nn t.gm 1 24 (t.rows.map λa=>Value.slice (some a) t.w t.w)
 eF:∀ a∈t.rows,a.spot=none
 c3:∀ k (h:k<t.rows.length),k<t.n0->∃ cs fK aj,I t.rows[k].block=some (.cells cs fK aj)/\(cs.toList.drop t.rows[k].off).take (t.w*4)=ls T k t.w
 new:∀ k (h:k<t.rows.length),t.n0<=k->t.rows[k]=⟨t.eP,(k-t.n0)*(t.w*4),none⟩
 sz:t.s.size<=4096
 many:t.nn<=4096
def yA(T:Nat->Nat->b2)(k w:Nat):(ls T k w).length=w*4:=by unfold ls;rw[hb _ 4 λa=>rfl,r3]
def RB(T:Nat->Nat->b2)(k w:Nat){a:Nat}(aC:a<w):((ls T k w).drop (a*4)).take 4=(T k a).cells:=by unfold ls;rw[rM _ 4 (λa=>rfl) _ a (by rw[r3];exact aC),ph]
def ef.aaq(t:ef)(T:Nat->Nat->b2):(t.cs T).length=(t.nn-t.n0)*(t.w*4):=by unfold ef.cs;rw[hb _ (t.w*4) λj=>yA T _ t.w,r3]
section
variable{I:aS}{t:ef}{T:Nat->Nat->b2}
def ef.ok.nn(h:t.ok I T):t.jo.length=t.nn:=by have:=h.ns.len;rw[hb _ 9 a9.de]at this;omega
def ef.ok.Kz(h:t.ok I T):t.rows.length=t.nn:=by have:=h.rw.len;rw[eX]at this;omega
def ef.ok.gh(h:t.ok I T){j:Nat}(an:j<5):ca I M ((⟨t.bt,0,none⟩:Addr).add j) 1 [t.b'.getD j undef]:=by
 rw[dS _ rfl];refine⟨rfl,_,_,_,.inl h.au,?_,rfl⟩
 match j,an with
 |0,_=>rfl| 1,_=>rfl| 2,_=>rfl| 3,_=>rfl| 4,_=>rfl
def ef.ok.aH(h:t.ok I T){k:Nat}(ae:k<t.nn):∃ y,y∈t.jo/\t.P.aH k=y.pn/\y.ok I/\y.t.size<=4096/\(∀ x∈y.aX,0<=x/\x.toNat<t.nn)/\∃ ad,t.na=some ad/\∀ M,ca I M (ad.add (k*9)) 9 y.cells:=by
 have jv:k<t.jo.length:=by rw[h.nn];exact ae
 obtain⟨ad,U,aa⟩:=h.ns.row a9.de ae jv;have hm:=dK jv;refine⟨t.jo[k],hm,?_,h.jo _ hm,h.Rz _ hm,h.RA _ hm,ad,U,aa⟩;simp[da.aH,ef.P,dh,jv]
def aar(h:t.ok I T){k a:Nat}(ae:k<t.nn)(ao:t.n0<=k)(aC:a<t.w):((t.cs T).drop ((k-t.n0)*(t.w*4)+a*4)).take 4=(T k a).cells:=by
 have U:((t.cs T).drop ((k-t.n0)*(t.w*4))).take (t.w*4)=ls T k t.w:=by unfold ef.cs;rw[rM _ (t.w*4) (λj=>yA T _ t.w) _ (k-t.n0) (by rw[r3];omega),ph,wa ao]
 rw[<-RB T k t.w aC,<-U,uE,xQ,sZ];congr 1;omega
def ef.ok.row(h:t.ok I T){k:Nat}(ae:k<t.nn):∃ ad,t.Ky=some ad/\∃ r:Addr,r.spot=none/\(∀ M,ca I M (ad.add (k*1)) 1 [.slice (some r) t.w t.w])/\(t.n0<=k->r=⟨t.eP,(k-t.n0)*(t.w*4),none⟩) /\
  ∀ M,(t.n0<t.nn->t.aY T∈M)->∀ a,a<=t.s.size->ca I M (r.add (a*4)) 4 (T k a).cells:=by
 have jv:k<t.rows.length:=by rw[h.Kz];exact ae
 obtain⟨ad,U,aa⟩:=h.rw.one ae jv;have b0:=h.eF _ (dK jv);refine⟨ad,U,t.rows[k],b0,aa,h.new k jv,λM a4 a aC=>?_⟩;have pu:a<t.w:=by show a<t.s.size+1;omega
 rw[dS _ b0];by_cases ao:k<t.n0
 ·obtain⟨cs,fK,aj,aw,aB⟩:=h.c3 k jv ao;refine⟨rfl,cs,fK,aj,.inl aw,?_,rfl⟩;rw[<-RB T k t.w pu,<-aB,uE,xQ,sZ];congr 1;omega
 ·rw[h.new k jv (by omega)];refine⟨rfl,(t.cs T).toArray,107,(0,0),.inr ⟨_,a4 (by omega),rfl,rfl⟩,?_,rfl⟩;exact aar h ae (by omega) pu
end
def aas{x:Int}(U:0<=x)(aa:x<=255):IntKind.u8.wrap x=x:=by unfold IntKind.wrap;simp only[IntKind.bits,IntKind.signed];simp;omega
section
variable{I:aS}{M:List ay}
def wQ(a:Nat)(aC:a<=100000):Spec Tryz.prog 208 [.int .i64 a] I M λv I' M'=>v=(mC a).val/\I'=I/\M'=M:=by refine bX [] aV Tryz.func208 rfl rfl rfl ?_;intro B ao;refine a5.mk (a:Int) (wrap_i32 (by omega) (by omega)) ?_;exact⟨_,_,.refl,rfl,rfl,rfl⟩
def Gq(a b:Nat)(aC:a<=1099511627776)(ai:b<=1099511627776):Spec Tryz.prog 210 [.int .i64 a,.int .i64 b] I M λv I' M'=>v=.int .i64 (fs a b)/\I'=I/\M'=M:=by refine bX [] aV Tryz.func210 rfl rfl rfl ?_;intro B ao;refine a5.mk ((a+b:Nat):Int) (gB (by simp) (by omega)) ?_;refine⟨_,_,.refl,?_,rfl,rfl⟩;show Value.int .i64 (min ((a+b:Nat):Int) 1099511627776)=_;rw[show min ((a+b:Nat):Int) 1099511627776=((fs a b:Nat):Int) by unfold fs;omega]
end
structure od(I:aS)(t:ef)(T:Nat->Nat->b2)(M:List ay)(k a:Nat):Prop where
 ok:t.ok I T
 inv:hR t.P t.nn T
 ch:∀ k,k<t.nn->tt t.P t.nn k
 na:∀ k,tu t.P k
 aY:t.n0<t.nn->t.aY T∈M
 k:k<t.nn
 a:a<=t.s.size
def od.rg{t:ef}{T:Nat->Nat->b2}{k a:Nat}(h:od I t T M k a){q b:Nat}(aO:q<t.nn)(ai:b<=t.s.size):(T q b).au<=2/\(T q b).n<=1099511627776/\(T q b).aP<=t.s.size/\(T q b).fJ<=99:=
 ⟨h.inv.au q b,h.inv.rg q b aO ai⟩
section
variable{I:aS}{t:ef}{T:Nat->Nat->b2}{M:List ay}{k a:Nat}
def C3(h:od I t T M k a){q:Nat}(aO:(t.P.aH k).bT=[q]):Spec Tryz.prog 209 [ptr t.bt,.int .i64 k,.int .i64 a] I M λv I' M'=>q<t.nn/\v=(T q a).val/\I'=I/\M'=M:=by
 refine bX [] aV Tryz.func209 rfl rfl rfl ?_;intro B ao;have aq:=h.ok;obtain⟨y,aN,jL,iB,pw,hM,ad,b7,bs⟩:=aq.aH h.k;have eU:y.aX.map Int.toNat=[q]:=by rw[jL]at aO;exact aO
 obtain⟨x,ab⟩:∃ x,y.aX=[x]:=by
  match ae:y.aX,eU with
  |[x],_=>exact⟨x,rfl⟩
 have e7:=hM x (by rw[ab];exact .head _);have aat:x.toNat=q:=by rw[ab]at eU;simpa using eU
 have kq:q<t.nn:=by omega
 have dR:y.kn=1:=by have:=iB.kn;rw[ab]at this;exact this.symm
 obtain⟨hq,h2,gI⟩:=iB.bd.one (f:=λ(k:Int)=>Value.int .i64 k) (j:=0) (by omega) (by rw[ab];exact Ga);have gI:∀ M,ca I M (hq.add (0*1)) 1 [.int .i64 q]:=λM=>by
  have:=gI M;have e:y.aX[0]'(by rw[ab];exact Ga)=(q:Int):=by simp only[ab];show x=_;omega
  rwa [e]at this
 obtain⟨ei,iC,r,al,g9,-,j2⟩:=aq.row kq;refine cW.draw aV rfl rfl rfl ?_;refine aF.mk _ (aq.gh (j:=4) (by decide)) ?_;refine aF.mk _ (aq.gh (j:=3) (by decide)) ?_;refine bc.mk ad k b7 rfl h.k ?_;refine aF.mk _ ((bs _).part (k:=8) (m:=1) (by decide)) ?_;refine bc.mk hq 0 h2 rfl (by omega) ?_;refine aF.mk _ (gI _) ?_;refine bc.mk ei q iC rfl kq ?_;refine aF.mk _ (g9 _) ?_;refine bc.mk r a rfl rfl (by show a<t.s.size+1;have:=h.a;omega) ?_;refine aF.mk _ (j2 _ h.aY a h.a) ?_;exact⟨_,_,.refl,kq,rfl,rfl,rfl⟩
def kr(I:aS)(M:List ay)(t:ef)(T:Nat->Nat->b2)(k a:Nat)(v:Value)(I':aS)(M':List ay):Prop:=v=(dp t.P T k a).val/\I'=I/\M'=M
def aau{P:da}(h:(P.aH k).d.k=0):dp P T k a=mC a:=by simp[dp,h]
def aav{P:da}(h:(P.aH k).d.k=1):dp P T k a=match P.s.data[a]? with
  |some b=>bif lf (P.aH k).d b.toNat then mC (a+1)else tr| none=>tr:=by simp only[dp,h];rfl
def aaw{P:da}(h:(P.aH k).d.k=2):dp P T k a=bif preB P.s (P.aH k).d.t a then mC (a+(P.aH k).d.t.size)else tr:=by simp[dp,h]
def aax{P:da}(h:(P.aH k).d.k=3){q:Nat}(aO:(P.aH k).bT=[q]):dp P T k a=T q a:=by simp[dp,h,aO]
def aay{P:da}(h:(P.aH k).d.k=7){q:Nat}(aO:(P.aH k).bT=[q]):dp P T k a=bif Nat.beq (T q a).au 2 then mC a else⟨0,0,(T q a).au,0⟩:=by simp[dp,h,aO]
def aaz{P:da}(h:(P.aH k).d.k=8){q:Nat}(aO:(P.aH k).bT=[q]):dp P T k a=bif Nat.beq (T q a).au 1 then mC a else bif Nat.beq (T q a).au 2 then tr else h7:=by simp[dp,h,aO]
def aaA{P:da}(h:(P.aH k).d.k=9){q:Nat}(aO:(P.aH k).bT=[q]):dp P T k a=bif Nat.beq (T q a).au 2 then { T q a with n:=fs (T q a).n 1 }else T q a:=by simp[dp,h,aO]
def kt{x j:Nat}{b:Bool}(h:decide ((x:Int)=(j:Int))=b):Nat.beq x j=b:=by
 cases b with
 |true=>
  have:=du h;obtain rfl:x=j:=by omega
  exact Nat.beq_refl x
 |false=>
  have:=dt h;rw[wb];exact λe=>by have:=cf e;omega
def aaB(h:od I t T M k a)(ae:(t.P.aH k).d.k=0):Spec Tryz.prog 138 [ptr t.bt,.int .i64 k,.int .i64 a] I M (kr I M t T k a):=by refine bX [] aV Tryz.func138 rfl rfl rfl ?_;intro B ao;have aC:=h.a;have ap:=h.ok.sz;refine bb.whole _ (wQ a (by omega)) ?_;rintro v I' M' -⟨rfl,rfl,rfl⟩;exact⟨_,_,.refl,by rw[aau ae];rfl,rfl,rfl⟩
def aaC(h:od I t T M k a)(ae:(t.P.aH k).d.k=3):Spec Tryz.prog 141 [ptr t.bt,.int .i64 k,.int .i64 a] I M (kr I M t T k a):=by obtain⟨q,aO⟩:=(h.na k).one (.inl ae);refine bX [] aV Tryz.func141 rfl rfl rfl ?_;intro B ao;refine bb.whole _ (C3 h aO) ?_;rintro v I' M' -⟨kq,rfl,rfl,rfl⟩;exact⟨_,_,.refl,by rw[aax ae aO];rfl,rfl,rfl⟩
def aaD(h:od I t T M k a)(ae:(t.P.aH k).d.k=7):Spec Tryz.prog 145 [ptr t.bt,.int .i64 k,.int .i64 a] I M (kr I M t T k a):=by
 obtain⟨q,aO⟩:=(h.na k).one (.inr (by omega));have aq:=aay (T:=T) (a:=a) ae aO;refine bX [] aV Tryz.func145 rfl rfl rfl ?_;intro B ao;have aC:=h.a;have ap:=h.ok.sz;refine bb.whole _ (C3 h aO) ?_;rintro v I' M' -⟨kq,rfl,rfl,rfl⟩;refine a0.mk (λe=>?_) (λe=>?_)
 ·rw[kt (j:=2) e,bh]at aq;refine bb.whole _ (wQ a (by omega)) ?_;rintro v I' M' -⟨rfl,rfl,rfl⟩;exact⟨_,_,.refl,by rw[aq];rfl,rfl,rfl⟩
 ·rw[kt (j:=2) e,ba]at aq;exact⟨_,_,.refl,by rw[aq];rfl,rfl,rfl⟩
def aaE(h:od I t T M k a)(ae:(t.P.aH k).d.k=8):Spec Tryz.prog 146 [ptr t.bt,.int .i64 k,.int .i64 a] I M (kr I M t T k a):=by
 obtain⟨q,aO⟩:=(h.na k).one (.inr (by omega));have aq:=aaz (T:=T) (a:=a) ae aO;refine bX [] aV Tryz.func146 rfl rfl rfl ?_;intro B ao;have aC:=h.a;have ap:=h.ok.sz;refine bb.whole _ (C3 h aO) ?_;rintro v I' M' -⟨kq,rfl,rfl,rfl⟩;refine a0.mk (λe=>?_) (λe=>?_)
 ·rw[kt (j:=1) e,bh]at aq;refine bb.whole _ (wQ a (by omega)) ?_;rintro v I' M' -⟨rfl,rfl,rfl⟩;exact⟨_,_,.refl,by rw[aq];rfl,rfl,rfl⟩
 ·rw[kt (j:=1) e,ba]at aq;refine a0.mk (λaB=>?_) (λaB=>?_)
  ·rw[kt (j:=2) aB,bh]at aq;exact⟨_,_,.refl,by rw[aq];rfl,rfl,rfl⟩
  ·rw[kt (j:=2) aB,ba]at aq;exact⟨_,_,.refl,by rw[aq];rfl,rfl,rfl⟩
def aaF(h:od I t T M k a)(ae:(t.P.aH k).d.k=9):Spec Tryz.prog 147 [ptr t.bt,.int .i64 k,.int .i64 a] I M (kr I M t T k a):=by
 obtain⟨q,aO⟩:=(h.na k).one (.inr (by omega));have aq:=aaA (T:=T) (a:=a) ae aO;refine bX [] aV Tryz.func147 rfl rfl rfl ?_;intro B ao;refine bb.whole _ (C3 h aO) ?_;rintro v I' M' -⟨kq,rfl,rfl,rfl⟩;have al:=h.rg kq h.a;refine a0.mk (λe=>?_) (λe=>?_)
 ·rw[kt (j:=2) e,bh]at aq;refine bb.whole _ (Gq (T q a).n 1 al.2.1 (by omega)) ?_;rintro v I' M' -⟨rfl,rfl,rfl⟩;exact⟨_,_,.refl,by rw[aq];rfl,rfl,rfl⟩
 ·rw[kt (j:=2) e,ba]at aq;exact⟨_,_,.refl,by rw[aq];rfl,rfl,rfl⟩
def aaG(h:od I t T M k a)(ae:(t.P.aH k).d.k=1):Spec Tryz.prog 139 [ptr t.bt,.int .i64 k,.int .i64 a] I M (kr I M t T k a):=by
 have aq:=aav (T:=T) (a:=a) ae;refine bX [] aV Tryz.func139 rfl rfl rfl ?_;intro B ao;have bf:=h.ok;have aC:=h.a;have ap:=bf.sz;obtain⟨y,aN,jL,iB,pw,hM,ad,b7,bs⟩:=bf.aH h.k;rw[jL]at aq;have my:t.P.s=t.s:=rfl;rw[my]at aq;have fD:∀ b,lf y.pn.d b=lf y b:=λb=>rfl;refine cW.draw aV rfl rfl rfl ?_;refine aF.mk _ (bf.gh (j:=0) (by decide)) ?_;refine cB.mk (λg=>?_) (λg=>?_)
 ·have aK:a<t.s.size:=by have:(a:Int)<(t.s.size:Int):=du g;omega
  have aw:t.s.data[a]?=some t.s[a]:=En aK;rw[aw]at aq;refine aF.mk _ (bf.gh (j:=3) (by decide)) ?_;refine bc.mk ad k b7 rfl h.k ?_;refine aF.mk _ ((bs _).part (k:=1) (m:=4) (by decide)) ?_;refine aF.mk _ (bf.gh (j:=0) (by decide)) ?_;refine oC.mk a rfl aK ?_;refine bb.whole _ (Ry (a:=y.dJ) (b:=y.s1) (c:=y.s2) (d:=y.dQ) (λz bg=>by
   simp only[eg,Jf,or_false]at bg;rcases bg with rfl | rfl | rfl | rfl;·exact iB.dJ
   ·exact iB.s1
   ·exact iB.s2
   ·exact iB.dQ) t.s[a]) ?_
  rintro v I' M' -⟨rfl,rfl,rfl⟩;refine a0.mk (λaB=>?_) (λaB=>?_);·have bA:lf y t.s[a].toNat=true:=aB;simp only[fD,bA,bh]at aq;refine a5.mk ((a+1:Nat):Int) (gB (by simp) (by omega)) ?_;refine bb.whole _ (wQ (a+1) (by omega)) ?_;rintro v I' M' -⟨rfl,rfl,rfl⟩;exact⟨_,_,.refl,by rw[aq];rfl,rfl,rfl⟩
  ·have bA:lf y t.s[a].toNat=false:=aB;simp only[fD,bA,ba]at aq;exact⟨_,_,.refl,by rw[aq];rfl,rfl,rfl⟩
 ·have c1:t.s.data.size<=a:=by have:¬ (a:Int)<(t.s.size:Int):=dt g;have aa:t.s.size=t.s.data.size:=rfl;omega
  have aw:t.s.data[a]?=none:=Array.getElem?_eq_none c1;rw[aw]at aq;exact⟨_,_,.refl,by rw[aq];rfl,rfl,rfl⟩
def aaH(h:od I t T M k a)(ae:(t.P.aH k).d.k=2):Spec Tryz.prog 140 [ptr t.bt,.int .i64 k,.int .i64 a] I M (kr I M t T k a):=by
 have aq:=aaw (T:=T) (a:=a) ae;refine bX [] aV Tryz.func140 rfl rfl rfl ?_;intro B ao;have bf:=h.ok;have aC:=h.a;have ap:=bf.sz;obtain⟨y,aN,jL,iB,pw,hM,ad,b7,bs⟩:=bf.aH h.k;rw[jL]at aq;have aq:dp t.P T k a=bif preB t.s y.t a then mC (a+y.t.size)else tr:=aq;refine aF.mk _ (bf.gh (j:=3) (by decide)) ?_;refine bc.mk ad k b7 rfl h.k ?_;refine aF.mk _ ((bs _).part (k:=5) (m:=1) (by decide)) ?_;refine aF.mk _ (bf.gh (j:=0) (by decide)) ?_;refine ie.mk a t.s.size rfl rfl aC (cC _) ?_;have b0:=aao (I:=I) (M:=M) (t.s.extract a t.s.size) y.t;rw[aap _ _ aC]at b0;refine bb.whole _ b0 ?_;rintro v I' M' -⟨rfl,rfl,rfl⟩;refine a0.mk (λaB=>?_) (λaB=>?_)
 ·have bA:preB t.s y.t a=true:=aB;rw[bA,bh]at aq;refine a5.mk ((a+y.t.size:Nat):Int) (gB (by simp) (by omega)) ?_;refine bb.whole _ (wQ (a+y.t.size) (by omega)) ?_;rintro v I' M' -⟨rfl,rfl,rfl⟩;exact⟨_,_,.refl,by rw[aq];rfl,rfl,rfl⟩
 ·have bA:preB t.s y.t a=false:=aB;rw[bA,ba]at aq;exact⟨_,_,.refl,by rw[aq];rfl,rfl,rfl⟩
end
section
variable{I:aS}{t:ef}{T:Nat->Nat->b2}{M:List ay}{k a:Nat}
def Gr{X:Prop}{b:Bool}(h:b=true)(a':b=false):X:=by rw[h]at a';cases a'
def Gs{x j:Nat}{b:Bool}(h:(!decide ((x:Int)=(j:Int)))=b):Nat.beq x j=!b:=by
 have:decide ((x:Int)=(j:Int))=!b:=by rw[<-h,Bool.not_not]
 exact kt this
def aaI(h:od I t T M k a)(ae:(t.P.aH k).d.k=4):Spec Tryz.prog 142 [ptr t.bt,.int .i64 k,.int .i64 a] I M (kr I M t T k a):=by
 have aq:dp t.P T k a=oa T (t.P.aH k).bT a 0:=by simp[dp,ae]
 refine bX [] aV Tryz.func142 rfl rfl rfl ?_;intro B ao;have bf:=h.ok;have aC:=h.a;have ap:=bf.sz;obtain⟨y,aN,jL,iB,pw,hM,ad,b7,bs⟩:=bf.aH h.k;have eU:(t.P.aH k).bT=y.aX.map Int.toNat:=by rw[jL];rfl
 rw[eU]at aq;have dR:=iB.kn;have ki:=iB.bd.cap.2;refine bb.whole _ (wQ a (by omega)) ?_;rintro v I' M' -⟨rfl,rfl,rfl⟩;refine aF.mk _ (bf.gh (j:=3) (by decide)) ?_;refine bc.mk ad k b7 rfl h.k ?_;refine aF.mk _ ((bs _).part (k:=8) (m:=1) (by decide)) ?_;refine dB.inv (ι:=Nat×Nat×Nat) (λx=>{ bj:=[(0,.val (ptr t.bt)),(6,.ref 6 0),(7,.ref 7 0),(20,.val (.slice y.kg y.kn y.jc)),(21,.val (.int .i64 y.kn)),(22,.val (.int .i64 x.1))],cl:=[(6,[.int .i64 0,.int .i32 0,.int .u8 0,.int .u8 0]),(7,[.int .i64 x.2.2,.int .i32 x.2.1,.int .u8 2,.int .u8 0])],c5:=I',dv:=M' }) (λx=>x.1<=y.kn/\x.2.1<=t.s.size/\x.2.2<=1099511627776/\dp t.P T k a=oa T ((y.aX.map Int.toNat).drop x.1) x.2.1 x.2.2) (λx=>y.kn-x.1) ?_ ?_
 ·exact⟨(0,a,0),⟨bq _,aC,bq _,aq⟩,.refl,nF,.cons rfl (.cons rfl (.nil))⟩
 rintro⟨i,aP,n⟩⟨hi,lj,ax,fV⟩;simp only at hi lj ax fV;refine a0.mk (λe=>?_) (λe=>?_)
 ·have aK:i<y.kn:=by simpa using e
  have bP:i<y.aX.length:=by omega
  obtain⟨hq,h2,gI⟩:=iB.bd.one (f:=λ(k:Int)=>Value.int .i64 k) aK bP;have e7:=hM _ (dK bP);obtain⟨q,aO⟩:∃ q:Nat,y.aX[i]=(q:Int):=⟨y.aX[i].toNat,by omega⟩;have kq:q<t.nn:=by rw[aO]at e7;omega
  have nm:(y.aX.map Int.toNat).drop i=q::(y.aX.map Int.toNat).drop (i+1):=by rw[fg (by rw[eX];exact bP),lE,aO];rfl
  rw[nm,oa]at fV;rw[aO]at gI;obtain⟨ei,iC,r,al,g9,-,j2⟩:=bf.row kq;have u':=h.rg kq lj;refine bc.mk hq i h2 rfl aK ?_;refine aF.mk _ (gI _) ?_;refine cW.draw aV rfl rfl rfl ?_;refine aF.mk _ (bf.gh (j:=4) (by decide)) ?_;refine bc.mk ei q iC rfl kq ?_;refine aF.mk _ (g9 _) ?_;refine bc.mk r aP rfl rfl (by show aP<t.s.size+1;omega) ?_;refine aF.mk _ (j2 _ h.aY aP lj) ?_;refine cz.mk λnp RC RD=>?_;refine cg.mk [] M' _ _ rfl rfl (bJ rfl) rfl ?_;have jM:∀ j,j+1<=4->ca I' (⟨np,.cells (T q aP).cells.toArray 107 (0,0)⟩::M') ((⟨np,0,none⟩:Addr).add j) 1 (((T q aP).cells.drop j).take 1):=λj an=>dn (.head _) an;refine aF.mk _ (jM 2 (by decide)) ?_;refine a0.mk (λaB=>?_) (λaB=>?_);·rw[Gs (j:=2) (b:=true) aB,oB,ba]at fV;refine aF.mk _ (jM 2 (by decide)) ?_;exact⟨_,_,.sub (.cons _ (.refl _)) .refl,by rw[fV];rfl,rfl,rfl⟩
  ·rw[Gs (j:=2) (b:=false) aB,H8,bh]at fV;refine aF.mk _ (jM 1 (by decide)) ?_;refine aF.mk _ (jM 0 (by decide)) ?_;refine bb.whole _ (Gq n (T q aP).n ax u'.2.1) ?_;rintro v dP dr -⟨rfl,rfl,rfl⟩;refine a5.mk _ (cm (i:=i) (by omega)) ?_;exact⟨(i+1,(T q aP).aP,fs n (T q aP).n),⟨⟨by simp only;omega,u'.2.2.1,r8 _ _,fV⟩,by simp only;omega⟩,.sub (.cons _ (.refl _)) .refl,nF,.cons rfl (.cons rfl (.nil))⟩
 ·have c1:y.kn<=i:=by simpa using e
  have ah:(y.aX.map Int.toNat).drop i=[]:=ir (by rw[eX];omega);rw[ah,oa]at fV;exact⟨_,_,.refl,by rw[fV];rfl,rfl,rfl⟩
def aaJ(h:od I t T M k a)(ae:(t.P.aH k).d.k=5):Spec Tryz.prog 143 [ptr t.bt,.int .i64 k,.int .i64 a] I M (kr I M t T k a):=by
 have aq:dp t.P T k a=ob T (t.P.aH k).bT a:=by simp[dp,ae]
 refine bX [] aV Tryz.func143 rfl rfl rfl ?_;intro B ao;have bf:=h.ok;have aC:=h.a;have ap:=bf.sz;obtain⟨y,aN,jL,iB,pw,hM,ad,b7,bs⟩:=bf.aH h.k;have eU:(t.P.aH k).bT=y.aX.map Int.toNat:=by rw[jL];rfl
 rw[eU]at aq;have dR:=iB.kn;have ki:=iB.bd.cap.2;refine aF.mk _ (bf.gh (j:=3) (by decide)) ?_;refine bc.mk ad k b7 rfl h.k ?_;refine aF.mk _ ((bs _).part (k:=8) (m:=1) (by decide)) ?_;refine dB.inv (ι:=Nat) (λx=>{ bj:=[(0,.val (ptr t.bt)),(2,.val (.int .i64 a)),(6,.ref 6 0),(17,.val (.slice y.kg y.kn y.jc)),(18,.val (.int .i64 y.kn)),(19,.val (.int .i64 x))],cl:=[(6,[.int .i64 0,.int .i32 0,.int .u8 0,.int .u8 0])],c5:=I,dv:=M }) (λx=>x<=y.kn/\dp t.P T k a=ob T ((y.aX.map Int.toNat).drop x) a) (λx=>y.kn-x) ?_ ?_
 ·exact⟨0,⟨bq _,aq⟩,.refl,nF,.cons rfl (.nil)⟩
 rintro i⟨hi,fV⟩;refine a0.mk (λe=>?_) (λe=>?_)
 ·have aK:i<y.kn:=by simpa using e
  have bP:i<y.aX.length:=by omega
  obtain⟨hq,h2,gI⟩:=iB.bd.one (f:=λ(k:Int)=>Value.int .i64 k) aK bP;have e7:=hM _ (dK bP);obtain⟨q,aO⟩:∃ q:Nat,y.aX[i]=(q:Int):=⟨y.aX[i].toNat,by omega⟩;have kq:q<t.nn:=by rw[aO]at e7;omega
  have nm:(y.aX.map Int.toNat).drop i=q::(y.aX.map Int.toNat).drop (i+1):=by rw[fg (by rw[eX];exact bP),lE,aO];rfl
  rw[nm,ob]at fV;rw[aO]at gI;obtain⟨ei,iC,r,al,g9,-,j2⟩:=bf.row kq;refine bc.mk hq i h2 rfl aK ?_;refine aF.mk _ (gI _) ?_;refine aF.mk _ (bf.gh (j:=4) (by decide)) ?_;refine bc.mk ei q iC rfl kq ?_;refine aF.mk _ (g9 _) ?_;refine bc.mk r a rfl rfl (by show a<t.s.size+1;omega) ?_;refine aF.mk _ (j2 _ h.aY a aC) ?_;refine a0.mk (λaB=>?_) (λaB=>?_);·rw[Gs (j:=1) aB,oB,ba]at fV;exact⟨_,_,.refl,by rw[fV];rfl,rfl,rfl⟩
  ·rw[Gs (j:=1) aB,H8,bh]at fV;refine a5.mk _ (cm (i:=i) (by omega)) ?_;exact⟨i+1,⟨⟨by omega,fV⟩,by omega⟩,.refl,nF,.cons rfl (.nil)⟩
 ·have c1:y.kn<=i:=by simpa using e
  have ah:(y.aX.map Int.toNat).drop i=[]:=ir (by rw[eX];omega);rw[ah,ob]at fV;exact⟨_,_,.refl,by rw[fV];rfl,rfl,rfl⟩
def aaK(h:od I t T M k a)(ae:(t.P.aH k).d.k=6)(bA:(t.P.aH k).d.hi=-1):Spec Tryz.prog 211 [ptr t.bt,.int .i64 k,.int .i64 a] I M (kr I M t T k a):=by
 obtain⟨q,aO⟩:=(h.na k).one (.inr (by omega));have aq:dp t.P T k a=u5 T k q (t.P.aH k).d.lo a:=by rw[Rk ae bA,aO];rfl
 have ev:=(h.ch k h.k).m7 ae;refine bX [] aV Tryz.func211 rfl rfl rfl ?_;intro B ao;have bf:=h.ok;have aC:=h.a;have ap:=bf.sz;obtain⟨y,aN,jL,iB,pw,hM,ad,b7,bs⟩:=bf.aH h.k;have ar:(t.P.aH k).d.lo=y.lo:=by rw[jL];rfl
 rw[ar]at aq ev;unfold u5 at aq;refine bb.whole _ (wQ a (by omega)) ?_;rintro v I' M' -⟨rfl,rfl,rfl⟩;refine bb.whole _ (C3 h aO) ?_;rintro v I' M' -⟨kq,rfl,rfl,rfl⟩;have u':=h.rg kq aC;have C4:∀ x:Nat,x<=99->IntKind.i64.wrap (x:Int)=(x:Int):=λx ab=>gB rfl (by omega);refine cB.mk (λg=>?_) (λg=>?_)
 rotate_left
 ·rw[kt (j:=0) (b:=true) g,FC,bh]at aq;exact⟨_,_,.refl,by rw[aq];rfl,rfl,rfl⟩
 rw[kt (j:=0) (b:=false) g,ud]at aq;refine cB.mk (λaU=>?_) (λaU=>?_)
 ·rw[kt (j:=2) (b:=true) aU,s0]at aq;refine a5.mk ((T q a).aP:Int) (gB rfl (by omega)) ?_;refine a0.mk (λbG=>?_) (λbG=>?_)
  ·have yB:Nat.beq (T q a).aP a=true:=kt bG;rw[yB,bh]at aq;exact⟨_,_,.refl,by rw[aq];rfl,rfl,rfl⟩
  have yB:Nat.beq (T q a).aP a=false:=kt bG;rw[yB,ba]at aq;refine a0.mk (λe=>?_) (λe=>?_)
  rotate_left
  ·exact Gr aU e
  obtain⟨ei,iC,r,al,g9,-,j2⟩:=bf.row h.k;have aaL:=h.rg h.k u'.2.2.1;refine cW.draw aV rfl rfl rfl ?_;refine aF.mk _ (bf.gh (j:=4) (by decide)) ?_;refine bc.mk ei k iC rfl h.k ?_;refine aF.mk _ (g9 _) ?_;refine bc.mk r (T q a).aP rfl rfl (by show _<t.s.size+1;omega) ?_;refine aF.mk _ (j2 _ h.aY (T q a).aP u'.2.2.1) ?_;refine cz.mk λb9 gz iD=>?_;refine cg.mk [] M' _ _ rfl rfl (bJ rfl) rfl ?_;have jM:∀ j,j+1<=4->ca I' (⟨b9,.cells (T k (T q a).aP).cells.toArray 107 (0,0)⟩::M') ((⟨b9,0,none⟩:Addr).add j) 1 (((T k (T q a).aP).cells.drop j).take 1):=λj an=>dn (.head _) an;refine aF.mk _ (jM 2 (by decide)) ?_;refine a0.mk (λaB=>?_) (λaB=>?_);·rw[kt (j:=0) aB,bh]at aq;exact⟨_,_,.sub (.cons _ (.refl _)) .refl,by rw[aq];rfl,rfl,rfl⟩
  rw[kt (j:=0) aB,ba]at aq;refine aF.mk _ (jM 1 (by decide)) ?_;refine aF.mk _ (jM 0 (by decide)) ?_;refine bb.whole _ (Gq (T q a).n (T k (T q a).aP).n u'.2.1 aaL.2.1) ?_;rintro v dP dr -⟨rfl,rfl,rfl⟩;refine aF.mk _ (jM 3 (by decide)) ?_;refine a5.mk (((T k (T q a).aP).fJ+1:Nat):Int) (by rw[aas (by omega) (by omega)];simp) ?_;have uG:min (((T k (T q a).aP).fJ+1:Nat):Int) 99=((min ((T k (T q a).aP).fJ+1) 99:Nat):Int):=by omega
  refine cW.draw aV rfl rfl rfl ?_;refine a5.mk ((min ((T k (T q a).aP).fJ+1) 99:Nat):Int) (by show IntKind.i64.wrap (min (((T k (T q a).aP).fJ+1:Nat):Int) 99)=_;rw[uG];exact C4 _ (F8 _ _)) ?_;refine aF.mk _ (bf.gh (j:=3) (by decide)) ?_;refine bc.mk ad k b7 rfl h.k ?_;refine aF.mk _ ((bs _).part (k:=6) (m:=1) (by decide)) ?_;refine a0.mk (λbD=>?_) (λbD=>?_);·have oc:decide (((min ((T k (T q a).aP).fJ+1) 99:Nat):Int)<y.lo)=true:=bD;rw[lW,oc,bh]at aq;refine⟨_,_,.sub (.cons _ (.refl _)) .refl,?_,rfl,rfl⟩;rw[aq];show Value.agg #[_,_,_,.int .u8 (min (((T k (T q a).aP).fJ+1:Nat):Int) 99)]=_;rw[uG];rfl
  ·have oc:decide (((min ((T k (T q a).aP).fJ+1) 99:Nat):Int)<y.lo)=false:=bD;rw[lW,oc,ba]at aq;refine⟨_,_,.sub (.cons _ (.refl _)) .refl,?_,rfl,rfl⟩;rw[aq];show Value.agg #[_,_,_,.int .u8 (min (((T k (T q a).aP).fJ+1:Nat):Int) 99)]=_;rw[uG];rfl
 ·rw[kt (j:=2) (b:=false) aU,zK,ba,ba]at aq;refine a0.mk (λe=>?_) (λe=>?_)
  ·exact Gr e aU
  refine cW.draw aV rfl rfl rfl ?_;refine a5.mk (0:Int) (show IntKind.i64.wrap 0=0 by decide) ?_;refine aF.mk _ (bf.gh (j:=3) (by decide)) ?_;refine bc.mk ad k b7 rfl h.k ?_;refine aF.mk _ ((bs _).part (k:=6) (m:=1) (by decide)) ?_;refine a0.mk (λbD=>?_) (λbD=>?_);·have oc:decide ((((mC a).fJ:Nat):Int)<y.lo)=true:=bD;rw[lW,oc,bh]at aq;exact⟨_,_,.refl,by rw[aq];rfl,rfl,rfl⟩
  ·have oc:decide ((((mC a).fJ:Nat):Int)<y.lo)=false:=bD;rw[lW,oc,ba]at aq;exact⟨_,_,.refl,by rw[aq];rfl,rfl,rfl⟩
def aaM(h:od I t T M k a)(ae:(t.P.aH k).d.k=6):Spec Tryz.prog 144 [ptr t.bt,.int .i64 k,.int .i64 a] I M (kr I M t T k a):=by
 obtain⟨q,aO⟩:=(h.na k).one (.inr (by omega));have r9:=(h.na k).m7 ae;refine bX [] aV Tryz.func144 rfl rfl rfl ?_;intro B ao;have bf:=h.ok;have aC:=h.a;have ap:=bf.sz;obtain⟨y,aN,jL,iB,pw,hM,ad,b7,bs⟩:=bf.aH h.k;have e2:(t.P.aH k).d.hi=y.hi:=by rw[jL];rfl
 have ev:(t.P.aH k).d.lo=y.lo:=by rw[jL];rfl
 rw[e2]at r9;refine aF.mk _ (bf.gh (j:=3) (by decide)) ?_;refine bc.mk ad k b7 rfl h.k ?_;refine aF.mk _ (bs _) ?_;refine a0.mk (λe=>?_) (λe=>?_)
 ·have bn:y.hi=-1:=du e;refine bb.whole _ (aaK h ae (e2.trans bn)) ?_;rintro v I' M' -⟨rfl,rfl,rfl⟩;exact⟨_,_,.refl,rfl,rfl,rfl⟩
 have bn:¬ y.hi=-1:=dt e;have aq:dp t.P T k a=nl T q y.lo y.hi.toNat 0 a 0:=by simp[dp,ae,e2,bn,aO,ev]
 have eU:y.aX.map Int.toNat=[q]:=by rw[jL]at aO;exact aO
 obtain⟨x,ab⟩:∃ x,y.aX=[x]:=by
  match ae:y.aX,eU with
  |[x],_=>exact⟨x,rfl⟩
 have e7:=hM x (by rw[ab];exact .head _);have aat:x.toNat=q:=by rw[ab]at eU;simpa using eU
 have kq:q<t.nn:=by omega
 have dR:y.kn=1:=by have:=iB.kn;rw[ab]at this;exact this.symm
 obtain⟨hq,h2,gI⟩:=iB.bd.one (f:=λ(k:Int)=>Value.int .i64 k) (j:=0) (by omega) (by rw[ab];exact Ga);have gI:∀ M,ca I M (hq.add (0*1)) 1 [.int .i64 q]:=λM=>by
  have:=gI M;have e:y.aX[0]'(by rw[ab];exact Ga)=(q:Int):=by simp only[ab];show x=_;omega
  rwa [e]at this
 obtain⟨ei,iC,r,al,g9,-,j2⟩:=bf.row kq;refine bb.whole _ (wQ a (by omega)) ?_;rintro v I' M' -⟨rfl,rfl,rfl⟩;refine dB.inv (ι:=Nat×Nat×Nat) (λx=>{ bj:=[(0,.val (ptr t.bt)),(6,.ref 6 0),(7,.ref 7 0),(8,.ref 8 0),(9,.val (.int .i64 x.1))],cl:=[(6,[.int .i64 0,.int .i32 0,.int .u8 0,.int .u8 0]),(7,y.cells),(8,[.int .i64 x.2.2,.int .i32 x.2.1,.int .u8 2,.int .u8 0])],c5:=I',dv:=M' }) (λx=>x.1<=y.hi.toNat/\x.2.1<=t.s.size/\x.2.2<=1099511627776/\dp t.P T k a=nl T q y.lo (y.hi.toNat-x.1) x.1 x.2.1 x.2.2) (λx=>y.hi.toNat-x.1) ?_ ?_
 ·exact⟨(0,a,0),⟨bq _,aC,bq _,aq⟩,.refl,g',.cons rfl (.cons rfl (.cons rfl (.nil)))⟩
 rintro⟨i,aP,n⟩⟨hi,lj,ax,fV⟩;simp only at hi lj ax fV;have u':=h.rg kq lj;refine a0.mk (λaB=>?_) (λaB=>?_)
 ·have aK:(i:Int)<y.hi:=du aB;obtain⟨j,an⟩:∃ j,y.hi.toNat-i=j+1:=⟨y.hi.toNat-i-1,by omega⟩;have ij:y.hi.toNat-(i+1)=j:=by omega
  rw[an,nl]at fV;refine cW.draw aV rfl rfl rfl ?_;refine aF.mk _ (bf.gh (j:=4) (by decide)) ?_;refine bc.mk hq 0 h2 rfl (by omega) ?_;refine aF.mk _ (gI _) ?_;refine bc.mk ei q iC rfl kq ?_;refine aF.mk _ (g9 _) ?_;refine bc.mk r aP rfl rfl (by show aP<t.s.size+1;omega) ?_;refine aF.mk _ (j2 _ h.aY aP lj) ?_;refine cz.mk λnp RC RD=>?_;refine cg.mk [] M' _ _ rfl rfl (bJ rfl) rfl ?_;have jM:∀ j,j+1<=4->ca I' (⟨np,.cells (T q aP).cells.toArray 107 (0,0)⟩::M') ((⟨np,0,none⟩:Addr).add j) 1 (((T q aP).cells.drop j).take 1):=λj an=>dn (.head _) an;refine aF.mk _ (jM 2 (by decide)) ?_;refine cB.mk (λg=>?_) (λg=>?_)
  rotate_left
  ·rw[kt (j:=0) (b:=true) g,FC,bh]at fV;refine aF.mk _ (jM 2 (by decide)) ?_;exact⟨_,_,.sub (.cons _ (.refl _)) .refl,by rw[fV];rfl,rfl,rfl⟩
  rw[kt (j:=0) (b:=false) g,ud]at fV;refine aF.mk _ (jM 2 (by decide)) ?_;refine cB.mk (λaU=>?_) (λaU=>?_)
  ·rw[kt (j:=1) (b:=true) aU,s0]at fV;refine a0.mk (λbG=>?_) (λbG=>?_)
   ·have yB:decide ((i:Int)<y.lo)=true:=bG;rw[yB,bh]at fV;refine aF.mk _ (jM 2 (by decide)) ?_;exact⟨_,_,.sub (.cons _ (.refl _)) .refl,by rw[fV];rfl,rfl,rfl⟩
   have yB:decide ((i:Int)<y.lo)=false:=bG;rw[yB,ba,bh]at fV;refine aF.mk _ (jM 2 (by decide)) ?_;refine a0.mk (λfk=>?_) (λfk=>Gr aU fk);exact⟨_,_,.sub (.cons _ (.refl _)) .refl,by rw[fV];rfl,rfl,rfl⟩
  ·rw[kt (j:=1) (b:=false) aU,zK,ba,ba]at fV;refine aF.mk _ (jM 2 (by decide)) ?_;refine a0.mk (λfk=>Gr fk aU) (λfk=>?_);refine aF.mk _ (jM 1 (by decide)) ?_;refine aF.mk _ (jM 0 (by decide)) ?_;refine bb.whole _ (Gq n (T q aP).n ax u'.2.1) ?_;rintro v dP dr -⟨rfl,rfl,rfl⟩;refine a5.mk _ (cm (i:=i) (by omega)) ?_;exact⟨(i+1,(T q aP).aP,fs n (T q aP).n),⟨⟨by simp only;omega,u'.2.2.1,r8 _ _,by simp only;rw[ij];exact fV⟩,by simp only;omega⟩,.sub (.cons _ (.refl _)) .refl,g',.cons rfl (.cons rfl (.cons rfl (.nil)))⟩
 ·have c1:¬ (i:Int)<y.hi:=dt aB;have an:y.hi.toNat-i=0:=by omega
  rw[an,nl]at fV;exact⟨_,_,.refl,by rw[fV];rfl,rfl,rfl⟩
end
section
variable{X:cD}{β:Nat->Nat}{F:Fr}{C:c2}{I:aS}{M:List ay}{o:Oper}{K:fo}
def KA{P:Program}{E:Env}(aE:cE P E){t:Nat}(av:E t=some dc)(dL:dc.bz=.slice e):P.underlying t=some (.slice e):=by
 obtain⟨fl,pS,ke⟩:=(aE _ _ av).eJ;have rL:fl=.slice e:=by rw[dL]at ke;cases fl<;>simp_all[eD]
 rw[pS,rL]
def bl.slice3(aE:cE X.P X.E){t:Nat}{lo:Operand}(aq:o.op=.slice t x (some lo) (some hi) (some mx))(ah:∀ d,o.dst=some d->d<X.n)
 (av:X.E t=some dc) (dL:dc.bz=.slice e) (he:X.E e=some aD) {n:Nat} (l h m:Nat) {dO:IntKind}
  (ab:br F x=.val (.slice ad n c)) (ev:br F lo=.val (.int dO (l:Nat))) (e2:br F hi=.val (.int bL (h:Nat))) (iE:br F mx=.val (.int fB (m:Nat)))
  (U:l<=h) (aa:h<=m) (af:m<=c) (k:K (put o.dst (.val (.slice (if m=l then ad else ad.map (·.add (l*aD.size))) (h-l) (m-l))) F) C I M):bl X o F C I M K:=by
 refine⟨λa w Q ⟨β,a1⟩=>?_⟩;have hu:=KA aE av dL;refine hV (by rw[aq];simp) (v:=.slice (if m=l then ad else ad.map (·.add (l*aD.size))) (h-l) (m-l)) (w':=w) ?_ ⟨_,_,_,_,⟨β,cp.put (x:=.val (.slice (if m=l then ad else ad.map (·.add (l*aD.size))) (h-l) (m-l))) a1 ah rfl⟩,k⟩;have ex:=cV a1.aj ab;have aw:=cV a1.aj ev;have aB:=cV a1.aj e2;have bD:=cV a1.aj iE;simp only[execOp,aq,Instr.sliceAt,Instr.slice,Instr.sliceBounds,Instr.sliceBound,ex,bZ,run_underlying hu,bK,(aE _ _ he).run_sizeOf,cG,jT,vw,aw,aB,bD,l7];rw[cK ⟨by omega,by omega⟩];simp only[cG,bK,oz];rw[cK ⟨by omega,by omega⟩];simp only[cG,bK,oz];rw[cK ⟨by omega,by omega⟩];simp
def bl.RE(aE:cE X.P X.E){t:Nat}(aq:o.op=.slice t x none (some hi) (some mx))(ah:∀ d,o.dst=some d->d<X.n)
 (av:X.E t=some dc) (dL:dc.bz=.slice e) (he:X.E e=some aD) {n:Nat} (h m:Nat)
  (ab:br F x=.val (.slice ad n c)) (e2:br F hi=.val (.int bL (h:Nat))) (iE:br F mx=.val (.int fB (m:Nat)))
  (aa:h<=m) (af:m<=c) (k:K (put o.dst (.val (.slice (if m=0 then ad else ad.map (·.add (0*aD.size))) (h-0) (m-0))) F) C I M):bl X o F C I M K:=by
 refine⟨λa w Q ⟨β,a1⟩=>?_⟩;have hu:=KA aE av dL;refine hV (by rw[aq];simp) (v:=.slice (if m=0 then ad else ad.map (·.add (0*aD.size))) (h-0) (m-0)) (w':=w) ?_ ⟨_,_,_,_,⟨β,cp.put (x:=.val (.slice (if m=0 then ad else ad.map (·.add (0*aD.size))) (h-0) (m-0))) a1 ah rfl⟩,k⟩;have ex:=cV a1.aj ab;have aB:=cV a1.aj e2;have bD:=cV a1.aj iE;simp only[execOp,aq,Instr.sliceAt,Instr.slice,Instr.sliceBounds,Instr.sliceBound,ex,bZ,run_underlying hu,bK,(aE _ _ he).run_sizeOf,cG,jT,vw,aB,bD,l7];rw[cK ⟨by omega,by omega⟩];simp only[cG,bK,oz];rw[cK ⟨by omega,by omega⟩];simp only[cG,bK,oz]
def bl.jN(aE:cE X.P X.E){s:Operand}{t:Nat}(aq:o.op=.call { callee:=.builtin .append,args:=#[s,x],argTypes:=#[t,t] })(ah:∀ d,o.dst=some d->d<X.n)
 (av:X.E t=some dc) (dL:dc.bz=.slice e) (he:X.E e=some aD)
 {g n:Nat} (ap:br F s=.val (.slice (some ⟨g,0,none⟩) n c)) (aL:aJ.length=c*aD.size)
  {ad:Addr} {m:Nat} (ab:br F x=.val (.slice (some ad) m c')) {ct:List Value} (ax:ca I M ad (m*aD.size) ct) (U:hH ct=true) (qL:n+m<=c)
  (a6 post:List ay) (a4:M=a6++⟨g,.cells aJ.toArray e (0,0)⟩::post)
  (k:K (put o.dst (.val (.slice (some ⟨g,0,none⟩) (n+m) c)) F) C I (a6++⟨g,.cells (bu aJ (n*aD.size) ct).toArray e (0,0)⟩::post)):bl X o F C I M K:=by
 refine⟨λa w Q ⟨β,a1⟩=>?_⟩;have hu:=KA aE av dL;obtain⟨inf,z,hi,fa,g8,hY,ka⟩:=(aE _ _ he).inf;have aA:w.heap[g]?=some (.cells aJ.toArray e (0,0)):=a1.holds.m ⟨g,.cells aJ.toArray e (0,0)⟩ (by rw[a4];simp);have ar:ct.length=m*aD.size:=by obtain⟨_,_,_,_,_,_,h⟩:=ax;exact h
 have fS:n*aD.size+ct.length<=aJ.length:=by rw[ar,aL,<-jG];exact rr _ qL
 have dw:=run_storeCells_at X.P g (n*aD.size) e ct 0 aJ.toArray w aA (by simpa using fS) (xx U);simp only[qn]at dw;have az:(Builtin.firstCells aD.size m (.slice (some ad) m c')).run X.P w=.ok ct.toArray w:=by
  obtain⟨b0,cs,T,aj,dR,ag,ar⟩:=ax;refine run_firstCells_some (P:=X.P) w aD.size m ad m c' ct ar λj v an=>?_;rw[dS _ b0,sH (dR.heap a1.holds)];rw[<-ag,kx]at an;split at an;·rw[pI]at an;simpa using an
  ·cases an
 have es:=cV a1.aj ap;have ex:=cV a1.aj ab;refine hV (by rw[aq];simp) (v:=.slice (some ⟨g,0,none⟩) (n+m) c) (w':=w.setRow g (bu aJ (n*aD.size) ct).toArray) ?_ ⟨_,_,_,_,⟨β,cp.put (x:=.val (.slice (some ⟨g,0,none⟩) (n+m) c)) ?_ ah rfl⟩,k⟩
 ·have eK:(Builtin.append_ #[t,t] o.type #[.slice (some ⟨g,0,none⟩) n c,.slice (some ad) m c']).run X.P w=.ok (.slice (some ⟨g,0,none⟩) (n+m) c) (w.setRow g (bu aJ (n*aD.size) ct).toArray):=by rw[<-fa]at az dw |-;simp[Builtin.append_,Builtin.lenOf,run_underlying hu,sizeOf,typeInfo,hi,qL,az,Addr.add_lit,dw,bu]
  unfold execOp;simp only[aq,resolve,invoke,builtin,bZ,cG,bK,sX,dV,mU,es,ex,eK]
 ·exact a1.vy a4
end
end Go.V
