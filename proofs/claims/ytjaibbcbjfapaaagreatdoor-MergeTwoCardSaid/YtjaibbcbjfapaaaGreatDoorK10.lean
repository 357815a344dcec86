/- Part 10 of what the proofs of this seat share: the executor, data in memory, walks.
-/
import Derived.Test.YtjaibbcbjfapaaaGreatDoorK9
import Derived.Test.YtjaibbcbjfapaaaGreatDoorK7
import Derived.Test.YtjaibbcbjfapaaaGreatDoorK3
import Derived.Test.YtjaibbcbjfapaaaGreatDoorK8
import Derived.Test.YtjaibbcbjfapaaaGreatDoorK6
import Derived.Test.YtjaibbcbjfapaaaGreatDoorK4
set_option linter.all false
set_option maxHeartbeats 16000000
set_option maxRecDepth 100000
namespace Go.V
open Go Go.Proofs
def NU:=@BitVec.and_comm
def afB:=@Int.tdiv_eq_ediv_of_nonneg
def UP:=@Nat.zero_lt_one
variable{I I':aI}{M0:List aD}{x:Nat×List Int}{aB p:List Int}{g:cR}{u pc n c NV f W:Nat}{w bF cO e:Int}{S:aU}{F:List a0}{pa a:Option Addr}{L:List bf}{t b:bf}{cs:List kt}{s want:List UInt8}{k:IntKind}{fg e1:nw}{is:Bool}{v:Value}
def NW:∀ {l:List Nat} {x:Nat},x∈l->x<=l.sum
 |y::l,x,h=>by
  rw[hx];rcases ez.1 h with rfl | h;·omega
  ·have:=NW h;omega
def aum{x:bf}(ae:x.ok I)(ag:right x=true)(w:Int):Spec Tryz.prog 98 [x.val,.int .u8 w] I M0 λv I' M'=>I'=I/\M'=M0/\∃ b,v=.bool b/\b=decide ((b4 x).d.k=j6 w):=by
 refine bR [] aT Tryz.func98 rfl rfl rfl ?_;intro B ax;have rX:=ae.n;obtain⟨gH,fT⟩:=kh ag;obtain⟨r,dD⟩:=dZ gH;have dw:r<x.ns.length:=by omega
 obtain⟨ad,bt,bj⟩:=ae.a'.row ak.cq (show r<x.n by omega) dw;have hX:=Du ag dD dw;have e:(b4 x).d.k=x.ns[r].k:=by rw[hX];rfl
 rw[e];generalize x.ns[r]=d at bj;refine bi.mk ad r bt dD Z ?_;refine aJ.mk _ ((bj _).part (k:=0) (m:=1) bv) ?_;refine aS.mk (λh=>?_) (λh=>?_)
 ·have aa:w=1:=cv h;exact⟨_,_,.refl,rfl,rfl,_,rfl,by rw[j6,bY aa]⟩
 ·have aa:¬ w=1:=db h;exact⟨_,_,.refl,rfl,rfl,_,rfl,by rw[j6,bK aa]⟩
structure UQ(aB:List Int)(g:cR)(u:Nat)(p:List Int)(w bF:Int)(I':aI)(h:cR)(b:Bool):Prop where
 is:b=sb aB g u p w bF
 ok:b=true->h.ok I'/\h.n=g.n/\∃ X be,vS g u p w bF=some X/\mq be X/\be.ns.length=be.n/\h.ds.map a4.aW=(eQ g.ds u be).map a4.aW/\ea aB h=0/\∃ r,py aB h r/\r.2=0
def UQ.no(h:vS g u p w bF=none):UQ aB g u p w bF I' ⟨[],none,0,0⟩ false:=⟨by unfold sb;rw[h],λh=>ci⟩
def afC(hu:u<g.ds.length)(cQ:(b4 g.ds[u].t).go p=some S):vS g u p w bF=(s8 w bF S).map λx=>mU g u p x:=by
 have qi:g.ds.getD u lq=g.ds[u]:=by simp[bP,hu]
 unfold vS;rw[qi,cQ];rfl
def h5.all{foot:List Nat}:∀ {M:List aD},(∀ x∈M,x.num ∉ foot)->h5 foot I M (Dt I M) []:=by intro M h;have:=ae6 (foot:=foot) (M:=[]) (I:=I) M h;rwa [dE]at this
def Gc(eb b6 dx b9 fc:Nat)(g:cR)(u:Nat)(pa:Option Addr)(pn pc:Nat)(bX:Option Addr)(n b5:Nat)(bF:Int)(fn:Nat):List aD:=[⟨fc,.cells #[.func (.func fn) #[] #[]] 62 (0,0)⟩,⟨b9,.cells #[.int .i64 bF] 3 (0,0)⟩,⟨dx,.cells #[.slice bX n b5] 55 (0,0)⟩,⟨b6,.cells #[.int .i64 u,.slice pa pn pc] 84 (0,0)⟩,⟨eb,.cells #[.slice g.a g.n g.c] 28 (0,0)⟩]
def aun(bm:fr I aB)(hw:JG aB g F)(az:g.ok I)(aE:∀ d∈g.ds,d.t.n<=274877906944)(yb:g.n<=1000000)(hu:u<g.ds.length){pn:Nat}{path:List Int}(aK:cZ I pa pn pc 1 8 (ls path))(cQ:(b4 g.ds[u].t).go path=some S)
  {bX:Option Addr} {b5:Nat} (ca:vT I bX b5 L) (JN:(L.map (·.n)).sum<=274877906944/\L.length<=274877906944) (JO:L.map b4=S.sub) (zR:1<=w/\w<=3) (af:S.d.k=j6 w) (fa:hy bF) :
  Spec Tryz.prog 99 [g.val,NE (u:Int) pa pn pc,.int .u8 w,.slice bX L.length b5,.int .i64 bF] I [] λv I' M'=>(∀ b o,I b=some o->I' b=some o)/\M'=[]/\∃ (h:cR) (b:Bool),v=.tuple #[h.val,.bool b]/\UQ aB g u path w bF I' h b:=by
 have sc:=afC (w:=w) (bF:=bF) hu cQ;have afD:=aeT path (Up (r9 hw.m (bD hu))) cQ;have auo:dT S<=549755813888:=by have aa:=JJ (X:=kv a5.zero) path _ cQ;have ab:=F9 (r9 hw.m (bD hu));have al:=(az.ds _ (bD hu)).t.n;have aL:=aE _ (bD hu);have bB:dT (kv a5.zero)=1:=lV _ _;have cA:=Ba ((b4 g.ds[u].t).put path (kv a5.zero));omega
 have gJ:S.sub.length=L.length:=by rw[<-JO,bA]
 refine bR [5,6,8,9,12] aT Tryz.func99 rfl rfl rfl ?_;intro B ax;refine bN.mk λeb Cb Nb=>?_;refine bN.mk λb6 Em TY=>?_;refine bN.mk λdx qK s7=>?_;refine bN.mk λb9 kI r3=>?_;refine aJ.mk [.int .i64 bF] ⟨rfl,_,_,_,.inr ⟨_,.head _,rfl,rfl⟩,rfl,rfl⟩ ?_;by_cases MT:bF<0
 ·refine bZ.mk (λh=>absurd h (by simp[MT])) (λ_=>?_);exact⟨_,_,.sub (eY _) .refl,λ_ _ h=>h,rfl,⟨[],none,0,0⟩,false,rfl,.no (by rw[sc,s8,bK λh=>absurd h.2.1 Z];rfl)⟩
 refine bZ.mk (λ_=>?_) (λh=>absurd h (by simp[MT]));refine aJ.mk [.int .i64 bF] ⟨rfl,_,_,_,.inr ⟨_,.head _,rfl,rfl⟩,rfl,rfl⟩ ?_;refine aJ.mk [.slice bX L.length b5] ⟨rfl,_,_,_,.inr ⟨_,.tail _ (.head _),rfl,rfl⟩,rfl,rfl⟩ ?_;refine a3.mk ((L.length:Int)-1) (iY rfl Z) ?_;refine aS.mk (λh=>?_) (λh=>?_)
 ·have aa:(L.length:Int)-1<=bF:=cv h
  exact⟨_,_,.sub (eY _) .refl,λ_ _ h=>h,rfl,⟨[],none,0,0⟩,false,rfl,.no (by rw[sc,s8,bK λh=>absurd h.2.2 Z];rfl)⟩
 have aa:¬ (L.length:Int)-1<=bF:=db h
 obtain⟨i,rfl⟩:=dZ (show 0<=bF by omega);have hi:i+1<L.length:=by omega
 have gj:=(ca.ok _ (bD (show i<L.length by omega)));have afE:=(ca.ok _ (bD hi));have rX:L[i].n<=1099511627776:=by have aa:=NW (AW (f:=λt:bf=>t.n) (bD (show i<L.length by omega)));have ab:=JN.1;exact iO aa (iO ab bv)
 have Gd:=UD (M0:=[]) bm (w:=w) Z gj.1 afE.1 rX;have aup:S.sub[i]' Z=b4 L[i]:=by
  have:S.sub[i]?=(L.map b4)[i]?:=by rw[JO]
  rw[du Z,jJ,du Z]at this;exact eX this
 have auq:S.sub[i+1]' Z=b4 L[i+1]:=by
  have:S.sub[i+1]?=(L.map b4)[i+1]?:=by rw[JO]
  rw[du Z,jJ,du hi]at this;exact eX this
 have aur:mu w L[i] L[i+1]=xy w (S.sub[i]' Z) (S.sub[i+1]' Z):=by unfold mu;rw[gj.2,afE.2,aup,auq];rfl
 rw[aur]at Gd;have q5:s8 w (i:Int) S=(xy w (S.sub[i]' Z) (S.sub[i+1]' Z)).map λs=>q4 (j6 w) ((L.take i).map b4++kv s::(L.drop (i+2)).map b4):=by
  unfold s8;rw[bY ⟨af,Z,Z⟩];have aN:S.sub.getD ((i:Nat):Int).toNat S=S.sub[i]' Z:=by
   show S.sub.getD i S=_;have:i<S.sub.length:=by omega
   simp[bP,this]
  have bc:S.sub.getD (((i:Nat):Int).toNat+1) S=S.sub[i+1]' Z:=by
   show S.sub.getD (i+1) S=_;have:i+1<S.sub.length:=by omega
   simp[bP,this]
  rw[aN,bc];have cy:S.sub.take ((i:Nat):Int).toNat=(L.take i).map b4:=by rw[<-JO,KA];rfl
  have dX:S.sub.drop (((i:Nat):Int).toNat+2)=(L.drop (i+2)).map b4:=by rw[<-JO,Kz];rfl
  rw[cy,dX]
 generalize xy w (S.sub[i]' Z) (S.sub[i+1]' Z)=o at Gd q5;obtain⟨ad,bt,afF⟩:=ca.a'.row (f:=bf.cells) (λ_=>rfl) (show i<L.length by omega) (show i<L.length by omega);obtain⟨xp,vF,Dw⟩:=ca.a'.row (f:=bf.cells) (λ_=>rfl) hi hi;have R5:xp=ad:=by rw[bt]at vF;exact(eX vF).symm
 subst R5;generalize L[i]=x at *;generalize L[i+1]=y at *;have cO:IntKind.i64.wrap ((i:Int)+1)=((i+1:Nat):Int):=iY am Z;refine bN.mk λfc Qi aeA=>?_;refine b'.mk [] _ _ _ rfl rfl (bJ rfl) rfl ?_;refine aS.mk (λzc=>?_) (λzc=>?_)
 ·have zc:w=1:=cv zc;have wY:Dz w=34:=bY zc;refine b'.mk [] _ _ _ rfl rfl (bJ rfl) rfl ?_;refine cN.BH aT rfl rfl rfl (ι:=Nat×a5×Bool×aI) (λz=>{ bn:=[(10,.ref 10 0),(13,.val (.func (.func 182) #[] #[ptr dx,ptr b9,ptr fc,ptr eb,ptr b6])),(14,.val (ptr z.1)),(15,.val (.bool z.2.2.1))],cl:=[(10,[.slice none 0 0])],cm:=z.2.2.2,cK:=⟨z.1,.cells z.2.1.cells.toArray 36 (0,0)⟩::Gc eb b6 dx b9 fc g u pa pn pc bX L.length b5 (i:Int) 34 }) (λz=>(∀ b o,I b=some o->z.2.2.2 b=some o)/\o=bif z.2.2.1 then some z.2.1 else none) ?_ ?_
  ·refine aJ.mk [.slice bX L.length b5] ⟨rfl,_,_,_,.inr ⟨_,.tail _ (.tail _ (.head _)),rfl,rfl⟩,rfl,rfl⟩ ?_;refine aJ.mk [.int .i64 (i:Int)] ⟨rfl,_,_,_,.inr ⟨_,.tail _ (.head _),rfl,rfl⟩,rfl,rfl⟩ ?_;refine bi.mk xp i bt rfl Z ?_;refine aJ.mk _ (afF _) ?_;refine aJ.mk [.slice bX L.length b5] ⟨rfl,_,_,_,.inr ⟨_,.tail _ (.tail _ (.head _)),rfl,rfl⟩,rfl,rfl⟩ ?_;refine aJ.mk [.int .i64 (i:Int)] ⟨rfl,_,_,_,.inr ⟨_,.tail _ (.head _),rfl,rfl⟩,rfl,rfl⟩ ?_;refine a3.mk _ cO ?_;refine bi.mk xp (i+1) bt rfl hi ?_;refine aJ.mk _ (Dw _) ?_;refine⟨?_,?_⟩
   ·refine a9.mk [] _ _ (.refl _) Gd ?_;rintro v J N a6⟨-,rfl,s,b,rfl,aG,-⟩;refine bN.mk λs5 Dk JC=>?_;refine b'.mk [] (Gc eb b6 dx b9 fc g u pa pn pc bX L.length b5 (i:Int) 34) _ _ rfl rfl (bJ rfl) rfl ?_;exact⟨(s5,s,b,J),⟨a6,aG⟩,.refl,dS,.cons rfl (.nil)⟩
   ·refine bN.mk λs5 Dk JC=>?_;refine er.mk _ Gd ?_;rintro v J N a6⟨-,rfl,s,b,rfl,aG,-⟩;refine b'.mk [] (Gc eb b6 dx b9 fc g u pa pn pc bX L.length b5 (i:Int) 34) _ _ rfl rfl (bJ rfl) rfl ?_;exact⟨(s5,s,b,J),⟨a6,aG⟩,.refl,dS,.cons rfl (.nil)⟩
  rintro⟨s5,s,b,J⟩⟨a6,aG⟩;simp only at a6 aG;refine aS.mk (λah=>?_) (λah=>?_)
  ·have ah:b=false:=by simpa using ah
   exact⟨_,_,.sub (eY _) .refl,a6,rfl,⟨[],none,0,0⟩,false,rfl,.no (by rw[sc,q5,aG,ah];rfl)⟩
  have ah:b=true:=by simpa using ah
  subst ah;have aG:o=some s:=aG;rw[aG]at q5;have q5:s8 w (i:Int) S=some (q4 (j6 w) ((L.take i).map b4++kv s::(L.drop (i+2)).map b4)):=q5;rw[q5]at sc;have sc:vS g u path w (i:Int)=some (mU g u path (q4 (j6 w) ((L.take i).map b4++kv s::(L.drop (i+2)).map b4))):=sc;have Ds:=ae3 (g:=g) afD q5;have rT:=ae4 q5;refine aJ.mk s.cells ⟨rfl,_,_,_,.inr ⟨_,.head _,rfl,rfl⟩,rfl,rfl⟩ ?_;refine a9.v0 λew=>?_;obtain⟨bo,vV⟩:=Uw _ ew.d ew.bO;have g3:∀ b o,I b=some o->Dt J _ b=some o:=λb o h=>bo _ _ (a6 _ _ h);refine a9.xF _ [] [] _ (h5.all λ_ _=>am) (afu (w:=w) (s:=s) (bm.mono g3) hw (az.mono g3) (λd aj=>by have:=aE d aj;omega) yb hu (aK.mono g3) cQ (ca.mono g3) JN hi rfl Ds Z (vV _ (.tail _ (.tail _ (.tail _ (.head _))))) (vV _ (.tail _ (.tail _ (.head _)))) (by rw[wY];exact vV _ (.tail _ (.head _))) (vV _ (.tail _ (.tail _ (.tail _ (.tail _ (.tail _ (.head _))))))) (vV _ (.tail _ (.tail _ (.tail _ (.tail _ (.head _))))))) ?_;rintro v cS N c1 -⟨-,rfl,h,b,rfl,aZ⟩;exact⟨_,_,.refl,λb o h=>c1 _ _ (g3 _ _ h),rfl,h,b,rfl,⟨by rw[aZ.is];unfold sb;rw[sc],λah=>by
   obtain⟨ee,eO,be,eS⟩:=aZ.ok ah;exact⟨ee,eO,_,be,sc,eS⟩⟩⟩
 ·have zc:¬ w=1:=db zc;have wY:Dz w=33:=bK zc;refine cN.BH aT rfl rfl rfl (ι:=Nat×a5×Bool×aI) (λz=>{ bn:=[(10,.ref 10 0),(13,.val (.func (.func 182) #[] #[ptr dx,ptr b9,ptr fc,ptr eb,ptr b6])),(14,.val (ptr z.1)),(15,.val (.bool z.2.2.1))],cl:=[(10,[.slice none 0 0])],cm:=z.2.2.2,cK:=⟨z.1,.cells z.2.1.cells.toArray 36 (0,0)⟩::Gc eb b6 dx b9 fc g u pa pn pc bX L.length b5 (i:Int) 33 }) (λz=>(∀ b o,I b=some o->z.2.2.2 b=some o)/\o=bif z.2.2.1 then some z.2.1 else none) ?_ ?_
  ·refine aJ.mk [.slice bX L.length b5] ⟨rfl,_,_,_,.inr ⟨_,.tail _ (.tail _ (.head _)),rfl,rfl⟩,rfl,rfl⟩ ?_;refine aJ.mk [.int .i64 (i:Int)] ⟨rfl,_,_,_,.inr ⟨_,.tail _ (.head _),rfl,rfl⟩,rfl,rfl⟩ ?_;refine bi.mk xp i bt rfl Z ?_;refine aJ.mk _ (afF _) ?_;refine aJ.mk [.slice bX L.length b5] ⟨rfl,_,_,_,.inr ⟨_,.tail _ (.tail _ (.head _)),rfl,rfl⟩,rfl,rfl⟩ ?_;refine aJ.mk [.int .i64 (i:Int)] ⟨rfl,_,_,_,.inr ⟨_,.tail _ (.head _),rfl,rfl⟩,rfl,rfl⟩ ?_;refine a3.mk _ cO ?_;refine bi.mk xp (i+1) bt rfl hi ?_;refine aJ.mk _ (Dw _) ?_;refine⟨?_,?_⟩
   ·refine a9.mk [] _ _ (.refl _) Gd ?_;rintro v J N a6⟨-,rfl,s,b,rfl,aG,-⟩;refine bN.mk λs5 Dk JC=>?_;refine b'.mk [] (Gc eb b6 dx b9 fc g u pa pn pc bX L.length b5 (i:Int) 33) _ _ rfl rfl (bJ rfl) rfl ?_;exact⟨(s5,s,b,J),⟨a6,aG⟩,.refl,dS,.cons rfl (.nil)⟩
   ·refine bN.mk λs5 Dk JC=>?_;refine er.mk _ Gd ?_;rintro v J N a6⟨-,rfl,s,b,rfl,aG,-⟩;refine b'.mk [] (Gc eb b6 dx b9 fc g u pa pn pc bX L.length b5 (i:Int) 33) _ _ rfl rfl (bJ rfl) rfl ?_;exact⟨(s5,s,b,J),⟨a6,aG⟩,.refl,dS,.cons rfl (.nil)⟩
  rintro⟨s5,s,b,J⟩⟨a6,aG⟩;simp only at a6 aG;refine aS.mk (λah=>?_) (λah=>?_)
  ·have ah:b=false:=by simpa using ah
   exact⟨_,_,.sub (eY _) .refl,a6,rfl,⟨[],none,0,0⟩,false,rfl,.no (by rw[sc,q5,aG,ah];rfl)⟩
  have ah:b=true:=by simpa using ah
  subst ah;have aG:o=some s:=aG;rw[aG]at q5;have q5:s8 w (i:Int) S=some (q4 (j6 w) ((L.take i).map b4++kv s::(L.drop (i+2)).map b4)):=q5;rw[q5]at sc;have sc:vS g u path w (i:Int)=some (mU g u path (q4 (j6 w) ((L.take i).map b4++kv s::(L.drop (i+2)).map b4))):=sc;have Ds:=ae3 (g:=g) afD q5;have rT:=ae4 q5;refine aJ.mk s.cells ⟨rfl,_,_,_,.inr ⟨_,.head _,rfl,rfl⟩,rfl,rfl⟩ ?_;refine a9.v0 λew=>?_;obtain⟨bo,vV⟩:=Uw _ ew.d ew.bO;have g3:∀ b o,I b=some o->Dt J _ b=some o:=λb o h=>bo _ _ (a6 _ _ h);refine a9.xF _ [] [] _ (h5.all λ_ _=>am) (afu (w:=w) (s:=s) (bm.mono g3) hw (az.mono g3) (λd aj=>by have:=aE d aj;omega) yb hu (aK.mono g3) cQ (ca.mono g3) JN hi rfl Ds Z (vV _ (.tail _ (.tail _ (.tail _ (.head _))))) (vV _ (.tail _ (.tail _ (.head _)))) (by rw[wY];exact vV _ (.tail _ (.head _))) (vV _ (.tail _ (.tail _ (.tail _ (.tail _ (.tail _ (.head _))))))) (vV _ (.tail _ (.tail _ (.tail _ (.tail _ (.head _))))))) ?_;rintro v cS N c1 -⟨-,rfl,h,b,rfl,aZ⟩;exact⟨_,_,.refl,λb o h=>c1 _ _ (g3 _ _ h),rfl,h,b,rfl,⟨by rw[aZ.is];unfold sb;rw[sc],λah=>by
   obtain⟨ee,eO,be,eS⟩:=aZ.ok ah;exact⟨ee,eO,_,be,sc,eS⟩⟩⟩
def UR(x:Nat×List Int)(w:Int)(bF:Int)(a:Option Addr)(c:Nat):Value:=.agg #[.int .u8 5,.int .u8 w,.int .i64 x.1,.slice a x.2.length c,.int .i64 bF]
def aus(p:List Int):(ls p).length=p.length:=by simp[ls]
def aut(p:List Int):fG (ls p)=true:=by
 unfold ls
 induction p with
 |nil=>rfl| cons x p aX=>simpa[fG,Value.oneCell']using aX
def auu(aK:cZ I pa x.2.length pc 1 8 (ls x.2))(w bF:Int) :
  Spec Tryz.prog 181 [NE (x.1:Int) pa x.2.length pc,.int .u8 w,.int .i64 bF] I [] λv I' M'=>(∀ b o,I b=some o->I' b=some o)/\M'=[]/\∃ a c,v=UR x w bF a c/\cZ I' a x.2.length c 1 8 (ls x.2):=by
 refine wg [] aT Tryz.func181 rfl rfl rfl ?_;intro B ax;have g8:=aK.cap;obtain⟨u,path⟩:=x;refine cN.OT (λi=>Nat.blt i 5) aT rfl rfl rfl ?_;intro G hc;refine kZ.UL aT rfl (e:=3) rfl rfl rfl gV (xs:=[]) (jt 1) (F4 (hc _ d9) rfl) (sa:=pa) (m:=path.length) (c':=pc) (F4 (hc _ d9) rfl) (cb:=ls path) (by rw[aus];exact(gm _).symm) (λh=>?_) (aut _) [] [] rfl (by unfold maxLen;show 0+_<=_;simp only at g8;omega) (by show(0+path.length)*8<=_;simp only at g8;omega) ?_
 ·obtain⟨ad,bt,de,cs,T,ap,bG,ar⟩:=aK.rd.resolve_left ce;exact⟨ad,bt,de,cs,T,ap,.inl bG,ar,aK.len⟩
 intro ui nV UN;intro ew;have nV:ui.n=path.length:=by rw[nV];exact dg _
 have dM:=F6 (J:=I) (e:=3) (b:=8) UN (by rw[nV];simp only at g8;omega);rw[nV]at dM;refine⟨lr I ui 3,[],F5 (λg _=>am),A' (M:=[]) ew.d,rfl,ui.a.map λg=>⟨g,0,none⟩,ui.c,?_,dM⟩;show Value.agg #[_,_,_,.slice _ ui.n _,_]=_;rw[nV];rfl
abbrev uu:=(Nat×List Int)×Int×Int
def xA(g:cR)(x:Nat×List Int):Nat:=match(b4 (g.ds.getD x.1 lq).t).go x.2 with
 |some S=>S.sub.length| none=>0
def sd(aB:List Int)(g:cR)(x:Nat×List Int)(w:Int):Nat->Nat->List uu
 |0,_=>[]| n+1,j=>(bif sb aB g x.1 x.2 w (j:Int)then [(x,w,(j:Int))]else [])++sd aB g x w n (j+1)
def qk(aB:List Int)(g:cR)(x:Nat×List Int)(k:Nat):Nat->Nat->List uu
 |0,_=>[]| n+1,w=>sd aB g x (w:Int) k 0++qk aB g x k n (w+1)
def zd(aB:List Int)(g:cR)(x:Nat×List Int):List uu:=qk aB g x (xA g x) 3 1
def Bd(aB:List Int)(g:cR):List uu:=(lu 0 g.ds).flatMap (zd aB g)
open Classical in
noncomputable def xB(aB:List Int)(g:cR):List uu:=if ∃ r,py aB g r/\r.2=0 then Bd aB g else []
def afG{r:Int×Int}(ag:py aB g r):xB aB g=if r.2=0 then Bd aB g else []:=by
 unfold xB;by_cases h:r.2=0
 ·rw[bY h,bY ⟨r,ag,h⟩]
 ·rw[bK h,bK];rintro⟨GG,g4,bu⟩;rw[g4.eq ag]at bu;exact h bu
def auv(hu:u<g.ds.length)(cQ:(b4 g.ds[u].t).go p=some S)(h:S.d.k≠j6 w)(bF:Int):sb aB g u p w bF=false:=by unfold sb;rw[afC hu cQ,s8,bK λe=>h e.1];rfl
def afH{aB:List Int}{g:cR}{x:Nat×List Int}{w:Int}(h:∀ j:Nat,sb aB g x.1 x.2 w (j:Int)=false):∀ n j,sd aB g x w n j=[]
 |0,_=>rfl| n+1,j=>by rw[sd,h,afH h n (j+1)];rfl
def afI(aB:List Int)(g:cR)(x:Nat×List Int)(w:Int):∀ n j,(sd aB g x w n j).length<=n
 |0,_=>cf _
 |n+1,j=>by
  have:=afI aB g x w n (j+1);rw[sd,ct];cases sb aB g x.1 x.2 w (j:Int)<;>simp<;>omega
def auw(l:List uu)(k:Nat)(vs:List Value)(I:aI):Prop:=∃ x w bF a c,l[k]?=some (x,w,bF)/\vs=[UR x w bF a c]/\cZ I a x.2.length c 1 8 (ls x.2)
def auy(g:cR):Spec Tryz.prog 97 [g.val] I [] λr I' M'=>∃ b1,r=.func (.func 180) #[] #[ptr b1]/\I' b1=some (.cells #[.slice g.a g.n g.c] 28 (0,0))/\(∀ b o,I b=some o->I' b=some o)/\M'=[]:=by refine bR [1] aT Tryz.func97 rfl rfl rfl ?_;intro B ax;refine bN.mk λb1 iU TO=>?_;exact⟨_,_,.nG rfl am .refl,b1,rfl,o3 ..,l9 iU,rfl⟩
def auz(au:t.ok I)(ag:right t=true)(aE:t.n<=1048576){X:aU}(oD:b4 t=X){r:Nat}(dD:t.bp=(r:Int))(dw:r<t.ns.length){J:aI}(dM:cZ J a n c 2 0 (L.flatMap bf.cells))(ca:L.length=(nodeAt t.ns r).ao.length)(eG:∀ q (h:q<L.length),(L[q]).ok J/\lg t ((nodeAt t.ns r).ao.getD q 0) L[q]) :
  n=L.length/\vT J a c L/\L.map b4=X.sub/\(L.map (·.n)).sum<=274877906944/\L.length<=274877906944:=by
 rw[fw dw]at ca eG;have pM:n=L.length:=by have:=dM.len;rw[UM]at this;omega
 have aZ:=ix.1 ag;have fa:∀ q (h:q<L.length),mq L[q] (fs t.ns (t.ns[r].ao[q]' Z))/\e0 (fs t.ns (t.ns[r].ao[q]' Z))/\jA (fs t.ns (t.ns[r].ao[q]' Z)):=λq h=>by
  have aa:=(eG q h).2;have aM:q<t.ns[r].ao.length:=by omega
  have e:t.ns[r].ao.getD q 0=t.ns[r].ao[q]:=by simp[bP,aM]
  rw[e]at aa;exact UA ag dw (bD aM) aa
 have hm:L.map b4=X.sub:=by rw[<-oD,Du ag dD dw];show _=t.ns[r].ao.map (fs t.ns);refine oV (by simpa using ca) λq aa ab=>?_;rw[gl,gl];obtain⟨fg,e1,js⟩:=fa q ol;exact fg.b4 e1 js
 have gu:=au.n;have dy:=F9 ag;have as5:dT X=(X.sub.map dT).sum+1:=by
  conv=>lhs;rw[X.eta]
  exact lV _ _
 have vf:(L.map (·.n)).sum=(X.sub.map dT).sum:=by rw[<-hm,gE];congr 1;refine fX λy aF=>?_;obtain⟨q,aM,rfl⟩:=hL aF;obtain⟨fg,e1,js⟩:=fa q aM;have aa:=congrArg List.length fg.aW;rw[bA,JI]at aa;have ab:=(eG q aM).1.n;show L[q].n=dT (b4 L[q]);rw[fg.b4 e1 js];omega
 have c0:L.length<=(X.sub.map dT).sum:=by
  have:∀ l:List aU,l.length<=(l.map dT).sum:=λl=>by
   induction l with
   |nil=>exact cf _| cons x l aX=>have:=Ba x;simp only[ey,ch,hx];omega
  have aa:=this X.sub;rw[<-hm,bA]at aa;rw[<-hm];exact aa
 rw[oD]at dy;have g8:=dM.cap;refine⟨pM,⟨?_,λy aF=>?_,Z,Z⟩,hm,Z,Z⟩
 ·rw[<-pM];exact⟨dM.len,⟨g8.1,Z⟩,dM.rd⟩
 ·obtain⟨q,aM,rfl⟩:=hL aF;obtain⟨fg,e1,js⟩:=fa q aM;exact⟨(eG q aM).1,fg.right e1⟩
def afJ(auA:aU):∀ (i:Nat) (l:List aU),(∀ c∈l,∀ p∈c.paths,∃ S,c.go p=some S)->∀ q∈aU.vU i l,∃ j p S,∃ h:j<l.length,q=((i+j:Nat):Int)::p/\l[j].go p=some S
 |_,[],_,q,h=>by rw[aU.UH]at h;cases h
 |i,c::l,aX,q,h=>by
  rw[aU.UG]at h;rcases cW.1 h with h | h;·obtain⟨p,aK,rfl⟩:=c6.1 h;obtain⟨S,cQ⟩:=aX c (.head _) p aK;exact⟨0,p,S,am,rfl,cQ⟩
  ·obtain⟨j,p,S,ai,rfl,cQ⟩:=afJ auA (i+1) l (λc ar=>aX c (.tail _ ar)) q h;exact⟨j+1,p,S,d7,by rw[show i+1+j=i+(j+1) by omega],by simpa using cQ⟩
def auB:∀ (T:aU),∀ p∈T.paths,∃ S,T.go p=some S:=by
 intro T
 induction T using aU.ind with
 |h d ks aX=>
  intro p aK;rw[aU.JM]at aK;rcases ez.1 aK with rfl | aK;·exact⟨_,rfl⟩
  ·obtain⟨j,q,S,ai,rfl,cQ⟩:=afJ (.mk d ks) 0 ks aX p aK;refine⟨S,?_⟩;rw[aU.go];have jT:j<(aU.mk d ks).sub.length:=ai;rw[bY Z];have e:(aU.mk d ks).sub.getD (((0+j:Nat):Int)).toNat (.mk d ks)=ks[j]:=by rw[dg];show ks.getD j _=_;rw[bP,du ai];rfl
   rw[e];exact cQ
def afK:∀ (ds:List a4) (i:Nat),∀ x∈lu i ds,∃ j,∃ h:j<ds.length,x.1=i+j/\x.2∈(b4 ds[j].t).paths
 |[],i,x,h=>by cases h
 |d::ds,i,x,h=>by
  rw[lu]at h;rcases cW.1 h with h | h;·obtain⟨p,aK,rfl⟩:=c6.1 h;exact⟨0,am,rfl,aK⟩
  ·obtain⟨j,ai,e,aK⟩:=afK ds (i+1) x h;exact⟨j+1,d7,Z,by simpa using aK⟩
def afL(h:x∈lu 0 g.ds):∃ hu:x.1<g.ds.length,∃ S,(b4 g.ds[x.1].t).go x.2=some S:=by
 obtain⟨j,ai,e,aK⟩:=afK g.ds 0 x h;obtain⟨u,p⟩:=x;simp only at e aK;obtain rfl:u=j:=by omega
 exact⟨ai,auB _ _ aK⟩
structure Ge(aB:List Int)(I:aI)(g:cR):Prop where
 au:fr I aB
 az:g.ok I
 aE:∀ d∈g.ds,d.t.n<=549755813888
 ah:g.n<=1000000
 wS:(g.ds.map λd=>d.t.ns.length).sum<=1048576
 af:∀ d∈g.ds,vp d.t
def Ge.mono(h:Ge aB I g)(bG:∀ b o,I b=some o->I' b=some o):Ge aB I' g:=⟨h.au.mono bG,h.az.mono bG,h.aE,h.ah,h.wS,h.af⟩
def auC(aK:Ge aB I g){b1:Nat}(iU:I b1=some (.cells #[.slice g.a g.n g.c] 28 (0,0))) :
  V5 Tryz.prog 180 [ptr b1] I (xB aB g).length (auw (xB aB g)):=by
 intro y R lE uK rA dU M0 oh iT;refine BA [] aT Tryz.func180 rfl rfl rfl ?_;intro B ax;have bj:∀ (I1:aI) (M:List aD),(∀ b o,I b=some o->I1 b=some o)->cG I1 M ⟨b1,0,none⟩ 1 [.slice g.a g.n g.c]:=λI1 M di=>⟨rfl,_,_,_,.inl (di _ _ iU),rfl,rfl⟩;have gD:=aK.mono oh;have ib:=aK.az.n;refine aJ.mk _ (bj _ _ oh) ?_;refine a9.mk [] M0 _ (.refl _) (acA gD.au gD.az gD.af) ?_;rintro v I1 N di⟨-,rfl,r,rfl,ag⟩;have c0:=afG ag;have US:∀ b o,I b=some o->I1 b=some o:=λb o h=>di _ _ (oh _ _ h);refine aS.mk (λh=>?_) (λh=>?_)
 ·have hm:r.2≠0:=by have:(!decide (r.2=0))=true:=h;simpa using this
  rw[bK hm]at c0;have dC:0=(xB aB g).length:=by rw[c0];rfl
  exact⟨_,_,.refl,.inl (dC ▸ uK _ _ _ _ di iT)⟩
 have hm:r.2=0:=by have:(!decide (r.2=0))=false:=h;simpa using this
 rw[bY hm]at c0;obtain⟨F,hw⟩:=ag.NG ib hm;rw[c0]at rA |-;have CQ:=aK.mono US;refine aJ.mk _ (bj _ _ US) ?_;refine a9.mk [] M0 _ (.refl _) (aud CQ.au CQ.az aK.wS) ?_;rintro v ed N gq⟨-,os,L,rfl,bV,ca,rfl,qh⟩;rw[bY hw.m]at qh;have Ga:∀ b o,I b=some o->ed b=some o:=λb o h=>gq _ _ (US _ _ h);have AM:os.n=L.length:=by have:=bV.len;rw[gz _ 2 jB.cq]at this;omega
 have JN:L.length<=1048576:=by have aa:=NP g.ds 0 λd aj=>r9 hw.m aj;have ab:=congrArg List.length qh;rw[bA]at ab;have:=aK.wS;omega
 have nb:=uK _ _ _ _ (λb o h=>gq _ _ (di _ _ h)) iT;have auD:(Bd aB g).drop 0=((L.map jB.oI).drop 0).flatMap (zd aB g):=by rw[tq,tq,qh];rfl
 have PW:∀ d∈g.ds,d.t.n<=274877906944:=λd aj=>by have al:=NW (AW (f:=λd:a4=>d.t.ns.length) aj);have aL:=aK.wS;have bB:=(aK.az.ds d aj).t.n;omega
 generalize Bd aB g=sl at *;refine c2.inv (ι:=Nat×Nat×aI×List aD) (λx=>{ bn:=[(0,.val (.func (.yield y) #[] #[])),(1,.val (ptr b1)),(16,.val os.val),(17,.val (.int .i64 os.n)),(18,.val (.int .i64 (x.1:Int)))],cl:=[],cm:=x.2.2.1,cK:=os.aq 84++x.2.2.2 }) (λx=>x.1<=os.n/\(∀ b o,ed b=some o->x.2.2.1 b=some o)/\R x.2.1 x.2.2.1 x.2.2.2/\x.2.1<=sl.length/\sl.drop x.2.1=((L.map jB.oI).drop x.1).flatMap (zd aB g)) (λx=>os.n-x.1) ?_ ?_
 ·exact⟨(0,0,ed,M0),⟨dh _,λ_ _ h=>h,nb,dh _,auD⟩,.refl,fh,.nil⟩
 rintro⟨i,vC,J,M1⟩⟨hi,a6,h',Fu,lp⟩;simp only at hi a6 h' Fu lp;refine aS.mk (λh=>?_) (λh=>?_)
 rotate_left
 ·have cM:¬ (i:Int)<(os.n:Int):=db h;have aN:(L.map jB.oI).drop i=[]:=l5 au';rw[aN,KT,GV]at lp;have:vC=sl.length:=by omega
  subst this;exact⟨_,_,.sub (m4 _ _) .refl,.inl h'⟩
 have aV:i<os.n:=by have:(i:Int)<(os.n:Int):=cv h;omega
 have cF:i<L.length:=by omega
 have DA:∀ b o,I b=some o->J b=some o:=λb o h=>a6 _ _ (Ga _ _ h);have UT:=aK.mono DA;obtain⟨ad,bt,JP⟩:=aO.ok.row (I:=J) (M:=os.aq 84++M1) jB.cq bv bV (e:=84) (λx ae=>iy _ ae) cF;have qS:=(ca _ (bD cF)).mono a6;have FV:(L.map jB.oI).drop i=L[i].oI::(L.map jB.oI).drop (i+1):=by rw[e9 (by rw[bA];exact cF),gl]
 have jD:L[i].oI∈lu 0 g.ds:=by rw[<-qh];exact AW (bD cF)
 rw[FV]at lp;generalize L[i]=x at *;obtain⟨u,path,xa,xc⟩:=x;obtain⟨hu,S,cQ⟩:=afL jD;simp only[jB.oI]at hu cQ lp jD;rw[iS]at lp;have DB:cZ J xa path.length xc 1 8 (ls path):=qS.a';have qi:g.ds.getD u lq=g.ds[u]:=by simp[bP,hu]
 have NX:xA g (u,path)=S.sub.length:=by unfold xA;simp only[qi,cQ]
 have fy:uo g (u:Int) path=some S:=by unfold uo;rw[bY Z,h2,qi,cQ]
 have auE:=cC (i:=i) Z;refine bi.mk ad i bt rfl aV ?_;refine aJ.mk [.int .i64 (u:Int),.slice xa path.length xc] JP ?_;have F2:=atb (M0:=[]) UT.au.c UT.az (aft hw.m aK.aE) (rule:=(u:Int)) DB;rw[fy]at F2;refine aJ.mk _ (bj _ _ DA) ?_;refine a9.mk [] _ _ (.refl _) F2 ?_;rintro v cS N c1⟨-,rfl,t,rfl,au,dN,bl,vR⟩;have afo:∀ b o,ed b=some o->cS b=some o:=λb o h=>c1 _ _ (a6 _ _ h);have pz:=dN.right bl;have hX:=dN.b4 bl vR;obtain⟨gH,fT⟩:=kh pz;obtain⟨k,af⟩:=dZ gH;have cL:k<t.ns.length:=by omega
 have auo:dT S<=1048576:=by have aa:=JJ (X:=kv a5.zero) path _ cQ;have ab:=F9 (r9 hw.m (bD hu));have al:=NW (AW (f:=λd:a4=>d.t.ns.length) (bD hu));have aL:=aK.wS;have bB:dT (kv a5.zero)=1:=lV _ _;have cA:=Ba ((b4 g.ds[u].t).put path (kv a5.zero));omega
 have gu:t.n<=1048576:=by have aa:=congrArg List.length dN.aW;rw[bA,JI]at aa;have:=au.n;omega
 refine aS.mk (λh=>ci) (λ_=>?_);refine a9.mk [] _ _ (.refl _) (ae7 (M0:=[]) (UT.au.mono c1) au pz Z af) ?_;rintro v mj N oz⟨-,rfl,bX,aA,b5,n7,rfl,dM,afM,eG⟩;obtain⟨rfl,auF,afN,auG,auH⟩:=auz au pz gu hX af cL dM afM eG;have eH:S.sub.length=n7.length:=by rw[<-afN,bA]
 have JQ:∀ b o,J b=some o->mj b=some o:=λb o h=>oz _ _ (c1 _ _ h);have ayh:n7.length<=1048576:=by
  have aa:S.sub.length<=(S.sub.map dT).sum:=by
   have:∀ l:List aU,l.length<=(l.map dT).sum:=λl=>by
    induction l with
    |nil=>exact cf _| cons x l aX=>have:=Ba x;simp only[ey,ch,hx];omega
   exact this _
  have ab:dT S=(S.sub.map dT).sum+1:=by
   conv=>lhs;rw[S.eta]
   exact lV _ _
  omega
 have afO:∀ b o,I b=some o->mj b=some o:=λb o h=>JQ _ _ (DA _ _ h);have Jg:=au.mono oz;have yN:=uK _ _ _ _ JQ h';rw[show zd aB g (u,path)=qk aB g (u,path) n7.length 3 1 by unfold zd;rw[NX,eH]]at lp;clear F2 eG afM dM qS dN JP bt;generalize rn:((L.map jB.oI).drop (i+1)).flatMap (zd aB g)=bq at lp;refine c2.inv (ι:=Nat×Nat×aI×List aD) (λz=>{ bn:=[(0,.val (.func (.yield y) #[] #[])),(1,.val (ptr b1)),(4,.ref 4 0),(5,.ref 5 0),(7,.val (.slice bX n7.length b5)),(8,.val (.int .u8 (z.1:Int))),(16,.val os.val),(17,.val (.int .i64 os.n)),(18,.val (.int .i64 (i:Int)))],cl:=[(4,[.int .i64 (u:Int),.slice xa path.length xc]),(5,t.cells)],cm:=z.2.2.1,cK:=os.aq 84++z.2.2.2 }) (λz=>(1<=z.1/\z.1<=4)/\(∀ b o,mj b=some o->z.2.2.1 b=some o)/\R z.2.1 z.2.2.1 z.2.2.2/\z.2.1<=sl.length/\sl.drop z.2.1=qk aB g (u,path) n7.length (4-z.1) z.1++bq) (λz=>4-z.1) ?_ ?_
 ·exact⟨(1,vC,mj,M1),⟨⟨cf _,show 1<=4 by decide⟩,λ_ _ h=>h,yN,Fu,lp⟩,.refl,l3,.cons rfl (.cons rfl (.nil))⟩
 rintro⟨w,UU,K,dp⟩⟨⟨zc,UE⟩,c7,NY,NZ,DC⟩;simp only at zc UE c7 NY NZ DC;have ayi:∀ b o,I b=some o->K b=some o:=λb o h=>c7 _ _ (afO _ _ h);refine aS.mk (λh=>?_) (λh=>?_)
 rotate_left
 ·have cM:¬ (w:Int)<4:=db h;obtain rfl:w=4:=by omega
  rw[show 4-4=0 from rfl,qk,hW,<-rn]at DC;refine a3.mk _ auE ?_;exact⟨(i+1,UU,K,dp),⟨⟨aV,λb o h=>c7 _ _ (JQ _ _ (a6 _ _ h)),NY,NZ,DC⟩,ce⟩,.refl,fh,.nil⟩
 have afP:w<4:=by have:(w:Int)<4:=cv h;omega
 have JR:IntKind.u8.wrap ((w:Int)+1)=((w+1:Nat):Int):=by rw[show((w:Int)+1)=((w+1:Nat):Int) by omega];exact al2 _ Z
 rw[show 4-w=(4-(w+1))+1 by omega,qk,ej]at DC;refine a9.mk [] _ _ (.refl _) (aum (M0:=[]) (Jg.mono c7) pz (w:Int)) ?_;rintro v kr N -⟨qU,rfl,b,rfl,ah⟩;subst kr;rw[hX]at ah;refine aS.mk (λh=>?_) (λh=>?_)
 ·have UW:b=false:=by have:(!b)=true:=h;simpa using this
  have bH:S.d.k≠j6 (w:Int):=db (by rw[<-ah,UW]);rw[afH (λj=>auv hu cQ bH _),hW]at DC;refine a3.mk _ JR ?_;exact⟨(w+1,UU,K,dp),⟨⟨⟨Z,afP⟩,c7,NY,NZ,DC⟩,ce⟩,.refl,l3,.cons rfl (.cons rfl (.nil))⟩
 have UX:b=true:=by have:(!b)=false:=h;simpa using this
 have x3:S.d.k=j6 (w:Int):=cv (by rw[<-ah,UX]);have yR:=aK.az;refine c2.inv (ι:=Nat×Nat×aI×List aD) (λz=>{ bn:=[(0,.val (.func (.yield y) #[] #[])),(1,.val (ptr b1)),(4,.ref 4 0),(5,.ref 5 0),(7,.val (.slice bX n7.length b5)),(8,.val (.int .u8 (w:Int))),(16,.val os.val),(17,.val (.int .i64 os.n)),(18,.val (.int .i64 (i:Int))),(41,.val (.int .i64 (n7.length:Int))),(42,.val (.int .i64 (z.1:Int)))],cl:=[(4,[.int .i64 (u:Int),.slice xa path.length xc]),(5,t.cells)],cm:=z.2.2.1,cK:=os.aq 84++z.2.2.2 }) (λz=>z.1<=n7.length/\(∀ b o,K b=some o->z.2.2.1 b=some o)/\R z.2.1 z.2.2.1 z.2.2.2/\z.2.1<=sl.length/\sl.drop z.2.1=sd aB g (u,path) (w:Int) (n7.length-z.1) z.1++(qk aB g (u,path) n7.length (4-(w+1)) (w+1)++bq)) (λz=>n7.length-z.1) ?_ ?_
 ·exact⟨(0,UU,K,dp),⟨dh _,λ_ _ h=>h,NY,NZ,DC⟩,.refl,GI,.cons rfl (.cons rfl (.nil))⟩
 rintro⟨j,Be,Q,oW⟩⟨ai,kC,N0,UY,uv⟩;simp only at ai kC N0 UY uv;have JS:∀ b o,mj b=some o->Q b=some o:=λb o h=>kC _ _ (c7 _ _ h);have UZ:∀ b o,I b=some o->Q b=some o:=λb o h=>JS _ _ (afO _ _ h);refine aS.mk (λh=>?_) (λh=>?_)
 rotate_left
 ·have cM:¬ (j:Int)<(n7.length:Int):=db h;have dC:n7.length-j=0:=by omega
  rw[dC,sd,hW]at uv;refine a3.mk _ JR ?_;exact⟨(w+1,Be,Q,oW),⟨⟨⟨Z,afP⟩,JS,N0,UY,uv⟩,ce⟩,.refl,l3,.cons rfl (.cons rfl (.nil))⟩
 have afQ:j<n7.length:=by have:(j:Int)<(n7.length:Int):=cv h;omega
 rw[show n7.length-j=(n7.length-(j+1))+1 by omega,sd,ej]at uv;have afR:=aK.mono UZ;have PQ:=aun afR.au hw afR.az (λd aj=>PW d aj) aK.ah hu (pa:=xa) (pn:=path.length) (pc:=xc) (DB.mono (λb o h=>JS _ _ (JQ _ _ h))) cQ (auF.mono JS) ⟨auG,auH⟩ afN (w:=(w:Int)) Z x3 (bF:=(j:Int)) ⟨Z,Z⟩;have afS:=cC (i:=j) Z;refine aJ.mk _ (bj _ _ UZ) ?_;refine a9.mk [] _ _ (.refl _) PQ ?_;rintro v U0 N N1⟨-,rfl,h,b,rfl,auI⟩;have afT:=auI.is;have auJ:∀ b o,K b=some o->U0 b=some o:=λb o h=>N1 _ _ (kC _ _ h);refine aS.mk (λah=>?_) (λah=>?_)
 ·have UW:b=false:=by have:(!b)=true:=ah;simpa using this
  have bc:sb aB g (u,path).1 (u,path).2 (w:Int) (j:Int)=false:=by rw[<-UW];exact afT.symm
  rw[bc]at uv;refine a3.mk _ afS ?_;exact⟨(j+1,Be,U0,oW),⟨⟨afQ,auJ,uK _ _ _ _ N1 N0,UY,uv⟩,ce⟩,.refl,GI,.cons rfl (.cons rfl (.nil))⟩
 have UX:b=true:=by have:(!b)=false:=ah;simpa using this
 have bc:sb aB g (u,path).1 (u,path).2 (w:Int) (j:Int)=true:=by rw[<-UX];exact afT.symm
 rw[bc]at uv;have uv:sl.drop Be=((u,path),(w:Int),(j:Int))::(sd aB g (u,path) (w:Int) (n7.length-(j+1)) (j+1)++(qk aB g (u,path) n7.length (4-(w+1)) (w+1)++bq)):=uv;have IQ:Be<sl.length:=by have:=congrArg List.length uv;rw[oU,ey]at this;omega
 have fa:sl[Be]?=some ((u,path),(w:Int),(j:Int)):=by
  have aa:(sl.drop Be)[0]?=some ((u,path),(w:Int),(j:Int)):=by rw[uv];rfl
  rwa [nC,pF]at aa
 have auK:cZ U0 xa path.length xc 1 8 (ls path):=DB.mono (λb o h=>N1 _ _ (JS _ _ (JQ _ _ h)));refine a9.mk [] _ _ (.refl _) (auu (x:=(u,path)) auK (w:Int) (j:Int)) ?_;rintro v afU N auL⟨-,rfl,sa,HO,rfl,Jh⟩;have U1:∀ b o,Q b=some o->afU b=some o:=λb o h=>auL _ _ (N1 _ _ h);refine bz.yield rfl am rfl rfl ?_;have aF:=rA Be IQ [UR (u,path) (w:Int) (j:Int) sa HO] afU oW (λb o h=>U1 _ _ (UZ _ _ h)) ⟨(u,path),(w:Int),(j:Int),sa,HO,fa,rfl,Jh⟩ (uK _ _ _ _ U1 N0);refine BK.mk oW (os.aq 84) _ (eM (l₁:=os.aq 84) (l₂:=oW)) aF ?_;rintro aa6 auM qA auN (⟨rfl,Mt⟩ | ⟨rfl,ae⟩)
 ·refine aS.mk (λh=>d5) (λ_=>?_);refine a3.mk _ afS ?_;refine⟨(j+1,Be+1,auM,qA),⟨⟨afQ,λb o h=>auN _ _ (U1 _ _ (kC _ _ h)),Mt,IQ,?_⟩,ce⟩,.perm eM .refl,GI,.cons rfl (.cons rfl (.nil))⟩;simp only;rw[<-D2,uv];rfl
 ·refine aS.mk (λ_=>?_) (λh=>d5);exact⟨_,_,.sub (tK _ _) .refl,.inr ae⟩
section
end
section
end
section
end
def afV(hm:ea aB g=0):(∀ d∈g.ds,d.t.n<=1024)/\(g.ds.map λd=>d.t.n).sum<=1024:=by
 obtain⟨aa,ab,al,aL,bB⟩:=Ji.1 hm;unfold pZ at al;simp only[rq,pN]at al;have cA:u5 g<=1024:=by omega
 have e:u5 g=(g.ds.map λd=>d.t.n).sum:=by unfold u5;congr 1;refine fX λd aj=>?_;unfold sH;rw[r9 hm aj];rfl
 rw[e]at cA;refine⟨λd aj=>?_,cA⟩;have:=adh (l:=g.ds.map λd=>d.t.n) (x:=d.t.n) (c6.2 ⟨d,aj,rfl⟩);omega
def auO(bm:fr I aB)(az:g.ok I)(hm:ea aB g=0):Ge aB I g:=by obtain⟨aa,ab⟩:=afV hm;have lT:=Ta hm;have e:(g.ds.map λd=>d.t.ns.length)=g.ds.map λd=>d.t.n:=fX λd aj=>(az.ds d aj).t.n;refine⟨bm,az,λd aj=>by have:=aa d aj;omega,Z,by rw[e];omega,λd aj=>afs (az.ds d aj).t (r9 hm aj) (by have:=aa d aj;omega)⟩
def Gf(t:bf):b4 t.aW=b4 t:=adS t.ns t.bp
def afW:∀ (ds:List a4) (i:Nat),lu i (ds.map a4.aW)=lu i ds
 |[],_=>rfl| d::ds,i=>by rw[ch,lu,lu,afW ds (i+1)];show(b4 d.t.aW).paths.map _++_=_;rw[Gf]
def U2(ds:List a4)(u:Nat):b4 ((ds.map a4.aW).getD u lq).t=b4 (ds.getD u lq).t:=by
 rw[bP,bP,jJ];cases ds[u]? with
 |none=>rfl| some d=>exact Gf d.t
def auP:(a4.aW ∘ a4.aW)=a4.aW:=by funext d;show a4.mk d.name (d.t.aW.aW)=⟨d.name,d.t.aW⟩;congr 1;show bf.mk ((d.t.ns.map ak.aW).map ak.aW) _ _ _ _=⟨d.t.ns.map ak.aW,_,_,_,_⟩;rw[gE];rfl
def auQ(ds:List a4)(u:Nat)(y:bf):(eQ (ds.map a4.aW) u y).map a4.aW=(eQ ds u y).map a4.aW:=by
 unfold eQ;rw[qx,qx,gE];have e:=auP;rw[e];by_cases h:u<ds.length
 ·have:((ds.map a4.aW).getD u lq).name=(ds.getD u lq).name:=by simp[bP,h,a4.aW]
  rw[this]
 ·rw[List.set_eq_of_length_le au',List.set_eq_of_length_le au']
def auR(aB:List Int)(g:cR)(u:Nat)(X:aU):y9 aB g.aW u X=y9 aB g u X:=by unfold y9;congr 2;rw[<-CA,<-CA aB (r1 (eQ g.ds u (jM X.post)))];congr 1;unfold cR.aW r1;simp only[auQ,r8,bA]
structure mv where
 ps:Int
 w:Int
 rule:Nat
 path:List Int
 bF:Int
 a:Option Addr
 c:Nat
def mv.cells(x:mv):List Value:=[.int .u8 x.ps,.int .u8 x.w,.int .i64 x.rule,.slice x.a x.path.length x.c,.int .i64 x.bF]
def mv.cq(x:mv):x.cells.length=5:=rfl
structure mv.ok(I:aI)(x:mv):Prop where
 a':cZ I x.a x.path.length x.c 1 8 (ls x.path)
def mv.ok.mono{x:mv}(h:x.ok I)(bG:∀ b o,I b=some o->I' b=some o):x.ok I':=⟨h.a'.mono bG⟩
def mv.oI(x:mv):uu:=((x.rule,x.path),x.w,x.bF)
def afX{α β:Type}(f:α->List β)(m:Nat):∀ l:List α,(∀ x∈l,(f x).length<=m)->(l.flatMap f).length<=l.length*m
 |[],_=>by simp
 |a::l,h=>by have aa:=afX f m l λx ae=>h x (.tail _ ae);have ab:=h a (.head _);rw[iS,ct,ey,J3];omega
def afY(aB:List Int)(g:cR)(x:Nat×List Int)(k:Nat):∀ n w,(qk aB g x k n w).length<=n*k
 |0,_=>by simp[qk]
 |n+1,w=>by have aa:=afY aB g x k n (w+1);have ab:=afI aB g x (w:Int) k 0;rw[qk,ct,J3];omega
def auS(S:aU):S.sub.length<=dT S:=by
 have:∀ l:List aU,l.length<=(l.map dT).sum:=λl=>by
  induction l with
  |nil=>exact cf _| cons x l aX=>have:=Ba x;simp only[ey,ch,hx];omega
 have aa:=this S.sub;have ab:dT S=(S.sub.map dT).sum+1:=by
  conv=>lhs;rw[S.eta]
  exact lV _ _
 omega
def auT{T:aU}(h:T.go p=some S):dT S<=dT T:=by have aa:=JJ (X:=kv a5.zero) p _ h;have bB:dT (kv a5.zero)=1:=lV _ _;have cA:=Ba (T.put p (kv a5.zero));omega
def auU(aE:g.ds.length=g.n)(bl:∀ d∈g.ds,d.t.ns.length=d.t.n):(xB aB g).length<=4194304:=by
 unfold xB;split
 ·rename_i h;obtain⟨r,ag,ax⟩:=h;obtain⟨F,hw⟩:=ag.NG aE ax;obtain⟨c4,m2⟩:=afV hw.m;have vf:(g.ds.map λd=>d.t.ns.length).sum<=1024:=by rw[show(g.ds.map λd=>d.t.ns.length)=g.ds.map λd=>d.t.n from fX λd aj=>bl d aj];exact m2
  have aa:=NP g.ds 0 λd aj=>r9 hw.m aj;have ab:=afX (zd aB g) 3072 (lu 0 g.ds) λx ae=>by
   have al:=afY aB g x (xA g x) 3 1;obtain⟨hu,S,cQ⟩:=afL ae;have qi:g.ds.getD x.1 lq=g.ds[x.1]:=by simp[bP,hu]
   have aL:xA g x=S.sub.length:=by unfold xA;rw[qi,cQ]
   have bB:=auS S;have cA:=auT cQ;have eB:=F9 (r9 hw.m (bD hu));have e6:=c4 _ (bD hu);have dW:=bl _ (bD hu);show(qk aB g x (xA g x) 3 1).length<=_;omega
  show((lu 0 g.ds).flatMap (zd aB g)).length<=_;have:(lu 0 g.ds).length*3072<=1024*3072:=oJ _ Z;omega
 ·exact dh _
def auV(aK:Ge aB I g):Spec Tryz.prog 25 [g.val] I [] λv I' M'=>(∀ b o,I b=some o->I' b=some o) /\
  ∃ (os:aO) (L:List mv),v=os.val/\os.ok 5 (L.flatMap mv.cells)/\(∀ x∈L,x.ok I'/\x.ps=5)/\M'=os.aq 44/\L.map mv.oI=xB aB g:=by
 refine bR [3] aT Tryz.func25 rfl rfl rfl ?_;intro B ax;have gJ:=auU (aB:=aB) aK.az.n λd aj=>(aK.az.ds d aj).t.n;refine bN.mk λeo CS afk=>?_;refine a9.mk [] [_] _ (.refl _) (auy g) ?_;rintro v cS N c1⟨b1,rfl,iU,-,rfl⟩;have iH:=aK.mono c1;have xU:=auC iH iU;generalize xB aB g=sl at *;refine cN.KB (A:=wz) wz.cons aT rfl rfl rfl (I1:=cS) (M1:=[⟨eo,.cells #[gV.val] 45 (0,0)⟩]) .refl xU (λk vs I h aM=>by
   obtain⟨x,w,bF,a,c,-,rfl,-⟩:=aM;rfl) (λj I' M'=>∃ (e8:aO) (jN:List mv),M'=⟨eo,.cells #[e8.val] 45 (0,0)⟩::e8.aq 44/\e8.ok 5 (jN.flatMap mv.cells)/\(∀ y∈jN,y.ok I'/\y.ps=5)/\jN.map mv.oI=sl.take j) (λex I M=>False)
  (λk I I' M h ⟨e8,jN,aa,ab,al,aL⟩=>⟨e8,jN,aa,ab,λy aF=>⟨(al y aF).1.mono h,(al y aF).2⟩,aL⟩) ⟨gV,[],rfl,jt 5,(λy aF=>by cases aF),rfl⟩ ?_ ?_ (λex I' M' _ h=>h.elim)
 ·rintro j ai vs I' M' g3⟨⟨afZ,af0⟩,w,bF,a,c,ae,rfl,dM⟩⟨e8,jN,rfl,kV,ox,y'⟩l B ax jk;have bB:=congrArg List.length y';rw[bA,fF]at bB;have cA:=kV.len;rw[gz _ 5 mv.cq]at cA;refine aJ.mk [e8.val] (dj (cs:=[e8.val]) (k:=0) (n:=1) (T:=45) (.head _) am) ?_;refine bN.mk λb9 kI r3=>?_;refine bz.lh aT rfl am (e:=44) rfl rfl rfl e8 kV rfl (cs:=(⟨5,w,afZ,af0,bF,a,c⟩:mv).cells) rfl rfl rfl [_] [] ar' Z (by show(e8.n+1)*48<=_;omega) ?_;intro fS aa ab al;refine b'.mk [] (fS.aq 44++[]) #[e8.val] 45 rfl rfl (bJ rfl) rfl ?_;refine⟨_,_,.mc ar',fS,jN++[⟨5,w,afZ,af0,bF,a,c⟩],rfl,?_,?_,?_⟩
  ·rw[fL,o9];exact al
  ·intro y aF;rcases cW.1 aF with aF | aF
   ·exact ox y aF
   ·rw[ep.1 aF];exact⟨⟨dM⟩,rfl⟩
  ·obtain⟨tu,AJ⟩:=jd.1 ae;rw[cJ,y',gi tu,AJ];rfl
 ·rintro I' M' g3⟨e8,jN,rfl,kV,ox,y'⟩;refine aJ.mk [e8.val] (dj (cs:=[e8.val]) (k:=0) (n:=1) (T:=45) (.head _) am) ?_;refine⟨_,_,.sub (wv _ _) .refl,λb o h=>g3 _ _ (c1 _ _ h),e8,jN,rfl,kV,ox,rfl,?_⟩;rw[y',fE (cf _)]
def auW(g:cR)(u:Nat)(p:List Int)(x:aU):mU g.aW u p x=mU g u p x:=by unfold mU;show((b4 ((g.ds.map a4.aW).getD u lq).t).put p x).lU=_;rw[U2]
def auX(g:cR)(u:Nat)(p:List Int)(w a:Int):vS g.aW u p w a=vS g u p w a:=by unfold vS;show((b4 ((g.ds.map a4.aW).getD u lq).t).go p).bind _=_;rw[U2];congr 1;funext S;congr 1;funext x;exact auW g u p x
def auY(aB:List Int)(g:cR)(u:Nat)(p:List Int)(w a:Int):sb aB g.aW u p w a=sb aB g u p w a:=by
 unfold sb;rw[auX];cases vS g u p w a with
 |none=>rfl| some X=>exact auR aB g u X
def auZ(g:cR)(x:Nat×List Int):xA g.aW x=xA g x:=by
 unfold xA;show(match(b4 ((g.ds.map a4.aW).getD x.1 lq).t).go x.2 with
  |some S=>S.sub.length| none=>0)=_
 rw[U2]
 first | done | rfl
def af1(aB:List Int)(g:cR)(x:Nat×List Int)(w:Int):∀ n j,sd aB g.aW x w n j=sd aB g x w n j
 |0,_=>rfl| n+1,j=>by rw[sd,sd,auY,af1 aB g x w n]
def af2(aB:List Int)(g:cR)(x:Nat×List Int)(k:Nat):∀ n w,qk aB g.aW x k n w=qk aB g x k n w
 |0,_=>rfl| n+1,w=>by rw[qk,qk,af1,af2 aB g x k n]
def au0(aB:List Int)(g:cR):Bd aB g.aW=Bd aB g:=by unfold Bd;show(lu 0 (g.ds.map a4.aW)).flatMap _=_;rw[afW];congr 1;funext x;unfold zd;rw[auZ,af2]
def U3(w:Int)(x y:bf):mu w x.aW y.aW=mu w x y:=by unfold mu;rw[tV,tV,Gf,Gf]
def JT(cs:List kt)(F:List a0):List uu:=if(Tj (qY cs).ds F).2=0 then Bd kK (qY cs)else []
def au1(c7:I7 cs F)(az:g.ok I)(aZ:qc cs g.ds)(hm:ea kK g=0):xB kK g=JT cs F:=by have ag:py kK g _:=.inr ⟨hm,F,(c7.of az aZ).2.1,rfl⟩;rw[afG ag,apy c7 az aZ ag];unfold JT;rw[<-Tg aZ az,au0]
def au2(bm:fr I kK)(vN:FI NV 160 s=some (cs,cO,k,e)):Spec Tryz.prog 80 [.string ⟨s.toArray⟩] I M0 λv I' M'=>(∀ b o,I b=some o->I' b=some o)/\M'=M0/\∃ g:cR,v=g.val/\g.ok I'/\qc cs g.ds:=by refine bR [] aT Tryz.func80 rfl rfl rfl ?_;intro B ax;refine a9.mk [] M0 _ (.refl _) (apr bm vN) ?_;rintro v iL N -⟨rfl,h1,g,rfl,az,aZ⟩;exact⟨_,_,.refl,h1,rfl,g,rfl,az,aZ⟩
def DD(fg e1:nw)(w:Int)(is:Bool)(want:List UInt8):Bool:=match mu w fg.jO e1.jO with
 |some x=>is&&decide (x=nn want)| none=>!is&&decide (a5.zero=nn want)
def au3(h:DD fg e1 w is want=true)(an:ur (mu w fg.jO e1.jO) v):v=.tuple #[(nn want).val,.bool is]:=by
 obtain⟨x,b,rfl,aG,ah⟩:=an;unfold DD at h;rw[aG]at h;cases b with
 |true=>have h:(is&&decide (x=nn want))=true:=h;rw[cH]at h;rw[h.1,cv h.2]
 |false=>
  have h:(!is&&decide (a5.zero=nn want))=true:=h;rw[cH]at h;rw[ah rfl,cv h.2];cases is with
  |false=>rfl| true=>cases h.1
def N2(bm:fr I kK){au4:Nat}{s1 s2:List UInt8}{en:Int}(aa:xn NV 157 s1=some (fg,cO,.i64,0))(ab:xn au4 157 s2=some (e1,en,.i64,0))(hw:0<=w)(Nn:want.length<=1000)(aE:fg.ns.length<=1000)(ae:DD fg e1 w is want=true) :
  Spec Tryz.prog 77 [.string ⟨s1.toArray⟩,.string ⟨s2.toArray⟩,.int .u8 w,.bool is,.string ⟨want.toArray⟩] I [] λv I' M'=>v=.bool true/\(∀ b o,I b=some o->I' b=some o)/\M'=[]:=by
 refine bR [] aT Tryz.func77 rfl rfl rfl ?_;intro B ax;refine a9.mk [] [] _ (.refl _) (acI bm aa) ?_;rintro v iL N -⟨rfl,h1,x,rfl,qS,af3⟩;refine a9.mk [] [] _ (.refl _) (acI (bm.mono h1) ab) ?_;rintro v cS N -⟨rfl,c1,y,rfl,af4,au5⟩;have hY:=(bm.mono h1).mono c1;have aM:mu w x y=mu w fg.jO e1.jO:=by rw[<-U3,af3.aW qS,au5.aW af4]
 have rX:x.n<=1000:=by have:=qS.n;rw[af3.ns.len]at this;omega
 have af5:=UD (M0:=[]) hY (w:=w) hw (qS.mono c1) af4 Z;rw[aM]at af5;refine a9.mk [] [] _ (.refl _) af5 ?_;rintro v mj N oz⟨-,rfl,an⟩;have an:=au3 ae an;subst an;have Bc:=aao (I:=mj) (M:=[]) ⟨want.toArray⟩ (by show want.toArray.size<=_;rw[q6];omega);have e:(ByteArray.mk want.toArray).data.toList=want:=by simp
 rw[e]at Bc;generalize nn want=z at Bc;have bo:∀ b o,I b=some o->mj b=some o:=λb o h=>oz _ _ (c1 _ _ (h1 _ _ h));cases is with
 |true=>refine cN.draw aT rfl rfl rfl ?_;refine bZ.mk (λ_=>?_) (λh=>ci);refine bZ.mk (λ_=>?_) (λh=>ci);refine bZ.mk (λ_=>?_) (λh=>ci);refine er.mk _ Bc ?_;rintro v F8 N -⟨rfl,um,rfl⟩;subst F8;refine fm.RO ?_;exact⟨_,_,.refl,am,bo,rfl⟩
 |false=>refine cN.draw aT rfl rfl rfl ?_;refine bZ.mk (λ_=>?_) (λh=>ci);refine bZ.mk (λ_=>?_) (λh=>ci);refine bZ.mk (λ_=>?_) (λh=>ci);refine er.mk _ Bc ?_;rintro v F8 N -⟨rfl,um,rfl⟩;subst F8;refine fm.RO ?_;exact⟨_,_,.refl,am,bo,rfl⟩
def DE(x:uu):Int:=x.2.1*1000+(x.1.1:Int)*100+(x.1.2.length:Int)*10+x.2.2
def U4(x:uu):Bool:=decide (0<=x.2.1)&&(decide (x.2.1<=3)&&(decide (x.1.1<=1000)&&(decide (x.1.2.length<=1000)&&(decide (0<=x.2.2)&&decide (x.2.2<=1000)))))
def au6(bm:fr I kK)(vN:FI NV 160 s=some (cs,cO,k,e))(ar:Ja cs F f=true){sl:List uu}(gJ:JT cs F=sl)(bl:sl.all U4=true)(ay:sl.length<=1000) :
  Spec Tryz.prog 158 [.string ⟨s.toArray⟩] I [] λv I' M'=>(∀ b o,I b=some o->I' b=some o)/\∃ os:aO,v=os.val/\os.ok 1 (sl.map λx=>.int .i64 (DE x))/\M'=os.aq 3:=by
 refine bR [] aT Tryz.func158 rfl rfl rfl ?_;intro B ax;have c7:=apz ar;refine a9.mk [] [] _ (.refl _) (au2 bm vN) ?_;rintro v I1 N -⟨di,rfl,g,rfl,az,aZ⟩;have lI:=bm.mono di;have hm:=(c7.of az aZ).1;have fB:=auV (auO lI az hm);rw[au1 c7 az aZ hm,gJ]at fB;refine a9.DK [] [] _ (.refl _) fB ?_;rintro v ed N gq dH⟨-,os,L,rfl,bV,ca,rfl,qh⟩;have yL:L.length=sl.length:=by rw[<-qh,bA]
 have AM:os.n=L.length:=by have:=bV.len;rw[gz _ 5 mv.cq]at this;omega
 have Mu:∀ b o,ed b=some o->lr ed os 44 b=some o:=A' dH;have dM:=F6 (J:=ed) (e:=44) (b:=48) bV Z;have bo:∀ b o,I b=some o->lr ed os 44 b=some o:=λb o h=>Mu _ _ (gq _ _ (di _ _ h));generalize oz:lr ed os 44=mj at dM bo Mu;have G0:h5 [] ed (os.aq 44++[]) mj []:=by rw[<-oz];exact F5 (λg _=>am)
 refine c2.inv (ι:=Nat×aO) (λx=>{ bn:=[(3,.val x.2.val),(4,.val os.val),(5,.val (.int .i64 (x.1:Int)))],cl:=[],cm:=mj,cK:=x.2.aq 3 }) (λx=>x.1<=os.n/\x.2.n=x.1/\x.2.ok 1 ((sl.take x.1).map λx=>.int .i64 (DE x))) (λx=>os.n-x.1) ?_ ?_
 ·exact⟨(0,gV),⟨dh _,rfl,jt 1⟩,G0,e2,.nil⟩
 rintro⟨i,e8⟩⟨hi,kQ,kV⟩;simp only at hi kQ kV;refine aS.mk (λh=>?_) (λh=>?_)
 rotate_left
 ·have cM:¬ (i:Int)<(os.n:Int):=db h;rw[fE Z]at kV;exact⟨_,_,.refl,bo,e8,rfl,kV,rfl⟩
 have aV:i<os.n:=by have:(i:Int)<(os.n:Int):=cv h;omega
 have dP:i<L.length:=by omega
 obtain⟨ad,bt,bj⟩:=dM.row mv.cq aV dP;have ae:sl[i]' Z=L[i].oI:=by
  have:(L.map mv.oI)[i]?=sl[i]?:=by rw[qh]
  rw[jJ,du dP,du Z]at this;exact(eX this).symm
 have qS:=fV.1 bl _ (bD (show i<sl.length by omega));have lG:sl.take (i+1)=sl.take i++[sl[i]' Z]:=gi Z;rw[ae]at qS lG;generalize L[i]=x at bj qS lG;obtain⟨ps,w,rule,path,bF,xa,xc⟩:=x;simp only[U4,mv.oI,cH,gN]at qS;obtain⟨ee,eO,eS,jq,Er,PX⟩:=qS;have ee:0<=w:=cv ee;have eO:w<=3:=cv eO;have eS:rule<=1000:=cv eS;have jq:path.length<=1000:=cv jq;have Er:0<=bF:=cv Er
 have PX:bF<=1000:=cv PX
 refine cN.OT (λi=>Nat.blt i 29) aT rfl rfl rfl ?_;refine bi.mk ad i bt rfl aV ?_;refine aJ.mk _ ((bj _).part (k:=1) (m:=1) bv) ?_;refine a3.mk w (iY rfl Z) ?_;refine a3.mk (w*1000) (iY rfl Z) ?_;refine bi.mk ad i bt rfl aV ?_;refine aJ.mk _ ((bj _).part (k:=2) (m:=1) bv) ?_;refine a3.mk ((rule:Int)*100) (iY rfl Z) ?_;refine a3.mk (w*1000+(rule:Int)*100) (iY rfl Z) ?_;refine bi.mk ad i bt rfl aV ?_;refine aJ.mk _ ((bj _).part (k:=3) (m:=1) bv) ?_;refine a3.mk ((path.length:Int)*10) (iY rfl Z) ?_;refine a3.mk (w*1000+(rule:Int)*100+(path.length:Int)*10) (iY rfl Z) ?_;refine bi.mk ad i bt rfl aV ?_;refine aJ.mk _ ((bj _).part (k:=4) (m:=1) bv) ?_;refine a3.mk (DE ((rule,path),w,bF)) (iY rfl (by unfold DE;simp only;omega)) ?_;refine bN.mk λb9 kI r3=>?_;refine bz.lh aT rfl am (e:=3) rfl rfl rfl e8 kV rfl (cs:=[.int .i64 (DE ((rule,path),w,bF))]) rfl rfl rfl [] [] ar' Z (by show(e8.n+1)*8<=_;omega) ?_;intro fS De _ xz;refine a3.mk _ (cC (i:=i) Z) ?_;refine⟨(i+1,fS),⟨⟨aV,ce,?_⟩,ce⟩,.mc ar',e2,.nil⟩;simp only;rw[lG,cJ];exact xz
def au7(bm:fr I kK)(vN:FI NV 160 s=some (cs,cO,k,e))(ar:Ja cs F f=true){sl:List uu}(gJ:JT cs F=sl)(bl:sl.all U4=true)(ay:sl.length<=1000)
 {want:List Int} (hw:cZ I a n c 1 8 (want.map (.int .i64 ·))) (JR:want=sl.map DE) :
  Spec Tryz.prog 78 [.string ⟨s.toArray⟩,.slice a n c] I [] λv I' M'=>v=.bool true/\(∀ b o,I b=some o->I' b=some o)/\M'=[]:=by
 refine bR [] aT Tryz.func78 rfl rfl rfl ?_;intro B ax;refine a9.mk [] [] _ (.refl _) (au6 bm vN ar gJ bl ay) ?_;rintro v J N a6⟨-,os,rfl,bV,rfl⟩;have Nn:want.length=n:=by have:=hw.len;rw[bA]at this;omega
 have AM:os.n=n:=by have:=bV.len;rw[bA]at this;rw[JR,bA]at Nn;omega
 rw[show(sl.map λx=>Value.int .i64 (DE x))=want.map (.int .i64 ·) by rw[JR,gE];rfl]at bV;refine aS.mk (λh=>absurd h (by simp[AM])) (λ_=>?_);refine c2.inv (ι:=Nat) (λx=>{ bn:=[(1,.val (.slice a n c)),(5,.val os.val),(6,.val (.int .i64 (x:Int)))],cl:=[],cm:=J,cK:=os.aq 3 }) (λx=>x<=n) (λx=>n-x) ?_ ?_
 ·exact⟨0,dh _,.mc Do,e2,.nil⟩
 intro i hi;refine aS.mk (λh=>?_) (λh=>?_)
 rotate_left
 ·exact⟨_,_,.sub (eY _) .refl,rfl,a6,rfl⟩
 have aV:i<n:=by have:(i:Int)<(os.n:Int):=cv h;omega
 have dP:i<want.length:=by omega
 obtain⟨ad,bt,bj⟩:=(hw.mono a6).one aV dP;rw[<-oA]at bV;obtain⟨Ad,ym,y3⟩:=aO.ok.row (I:=J) (M:=os.aq 3) (f:=iK) (λ_=>rfl) bv bV (e:=3) (λx ae=>ae) dP;generalize want[i]=z at bj y3;refine cN.draw aT rfl rfl rfl ?_;refine bi.mk Ad i ym rfl Z ?_;refine aJ.mk _ y3 ?_;refine bi.mk ad i bt rfl aV ?_;refine aJ.mk _ (bj _) ?_;refine aS.mk (λh=>absurd h am) (λ_=>?_);refine a3.mk _ (cC (i:=i) (by have:=hw.cap;omega)) ?_;exact⟨i+1,⟨aV,Z⟩,.refl,e2,.nil⟩
def N3:nw:=⟨[⟨1,0,60129542144,0,0,[],0,0,[]⟩],0⟩
def U5:xn 100000 157 [91,97,45,99,93]=some (N3,0,.i64,0):=by kernel_rfl
def af6:nw:=⟨[⟨2,0,0,0,0,[100],0,0,[]⟩],0⟩
def au8:xn 100000 157 [34,100,34]=some (af6,0,.i64,0):=by kernel_rfl
def af7:nw:=⟨[⟨2,0,0,0,0,[97,98],0,0,[]⟩],0⟩
def au9:xn 100000 157 [34,97,98,34]=some (af7,0,.i64,0):=by kernel_rfl
def af8:nw:=⟨[⟨1,0,34359738368,0,0,[],0,0,[]⟩],0⟩
def ava:xn 100000 157 [91,99,93]=some (af8,0,.i64,0):=by kernel_rfl
def af9:nw:=⟨[⟨1,0,17179869184,0,0,[],0,0,[]⟩,⟨8,0,0,0,0,[],0,0,[0]⟩],1⟩
def avb:xn 100000 157 [33,91,98,93]=some (af9,0,.i64,0):=by kernel_rfl
def aga:nw:=⟨[⟨1,0,144115170895986688,0,0,[],0,0,[]⟩,⟨7,0,0,0,0,[],0,0,[0]⟩],1⟩
def avc:xn 100000 157 [38,91,98,45,120,93]=some (aga,0,.i64,0):=by kernel_rfl
def avd:DD N3 af6 1 true [97,98,99,100]=true:=by kernel_rfl
def ave:DD af7 af8 1 false []=true:=by kernel_rfl
def avf:DD af9 N3 2 true [97,99]=true:=by kernel_rfl
def avg:DD aga N3 3 true [98,99]=true:=by kernel_rfl
def JU:List kt:=[⟨[97],⟨[⟨1,0,8589934592,0,0,[],0,0,[]⟩,⟨2,0,0,0,0,[98],0,0,[]⟩,⟨2,0,0,0,0,[99],0,0,[]⟩,⟨3,0,0,0,0,[120],0,0,[]⟩,⟨4,0,0,0,0,[],0,0,[2,3]⟩,⟨5,0,0,0,0,[],0,0,[0,1,4]⟩],5⟩⟩,⟨[120],⟨[⟨2,0,0,0,0,[121],0,0,[]⟩],0⟩⟩]
def avh:FI 100000 160 [97,32,60,45,32,91,97,93,32,47,32,34,98,34,32,47,32,34,99,34,32,120,32,120,32,60,45,32,34,121,34]=some (JU,0,.i64,0):=by kernel_rfl
def avi:Ja JU (MQ JU 5) 5=true:=by kernel_rfl
def avj:JT JU (MQ JU 5)=[((0,[]),1,0)]:=by kernel_rfl
def avk{b:Nat}(k:Int):cZ (ins I b (.cells #[.int .i64 k] 3 (0,0))) (some ⟨b,0,none⟩) 1 1 1 8 (ls [k]):=
 ⟨rfl,⟨cf _,bv⟩,.inr ⟨⟨b,0,none⟩,rfl,rfl,_,_,_,o3 ..,rfl⟩⟩
def agb(bm:fr I kK):Spec Tryz.prog 16 [] I [] λv J k1=>v=.bool true/\(∀ b o,I b=some o->J b=some o)/\k1=[]:=by refine bR [] aT Tryz.func16 rfl rfl rfl ?_;intro B ax;refine a9.mk [] [] _ (.refl _) (N2 bm U5 au8 (w:=1) bv (is:=true) (want:=[97,98,99,100]) bv bv avd) ?_;rintro v I1 N -⟨rfl,di,rfl⟩;have lI:=bm.mono di;refine bZ.mk (λ_=>?_) (λh=>ci);refine a9.mk [] [] _ (.refl _) (N2 lI au9 ava (w:=1) bv (is:=false) (want:=[]) bv bv ave) ?_;rintro v ed N -⟨rfl,gq,rfl⟩;have hY:=lI.mono gq;refine bZ.mk (λ_=>?_) (λh=>ci);refine a9.mk [] [] _ (.refl _) (N2 hY avb U5 (w:=2) bv (is:=true) (want:=[97,99]) bv bv avf) ?_;rintro v lF N -⟨rfl,mI,rfl⟩;have qg:=hY.mono mI;refine bZ.mk (λ_=>?_) (λh=>ci);refine a9.mk [] [] _ (.refl _) (N2 qg avc U5 (w:=3) bv (is:=true) (want:=[98,99]) bv bv avg) ?_;rintro v qz N -⟨rfl,y0,rfl⟩;have Uk:=qg.mono y0;refine bZ.mk (λ_=>?_) (λh=>ci);refine bN.mk λb9 kI r3=>?_;have bo:∀ b o,qz b=some o->ins qz b9 (.cells #[.int .i64 1000] 3 (0,0)) b=some o:=l9 kI;refine a9.xF (ins qz b9 (.cells #[.int .i64 1000] 3 (0,0))) [] [] _ (.nG rfl am .refl) (au7 (Uk.mono bo) avh avi avj bv bv (avk 1000) rfl) ?_;rintro v J N a6 -⟨rfl,-,rfl⟩;exact⟨_,_,.refl,rfl,λb o h=>a6 _ _ (bo _ _ (y0 _ _ (mI _ _ (gq _ _ (di _ _ h))))),rfl⟩
structure avl(u:bf)(x:Nat×Nat):Prop where
 q:x.2<=u.n
 p:x.1<=600
 small:x.1<200->u.n<200/\x.2<=u.n/\u.n<=x.1/\∀ i (h:i<u.ns.length),i<x.2->S' u.ns[i]
def agc{u:bf}(hG:vb I u) :
  Spec Tryz.prog 82 [u.val] I M0 λv I' M'=>(∃ w:Nat,v=.int .i64 w/\w<=600/\(w<200->sZ u))/\I'=I/\M'=M0:=by
 refine bR [] aT Tryz.func82 rfl rfl rfl ?_;intro B ax;have ayj:=hG.n;have g8:=hG.a'.cap;refine c2.inv (ι:=Nat×Nat) (λx=>{ bn:=[(1,.ref 1 0),(3,.val (.int .i64 x.1)),(4,.val (.int .i64 x.2))],cl:=[(1,u.cells)],cm:=I,cK:=M0 }) (λx=>avl u x) (λx=>u.n-x.2) ?_ ?_
 ·refine⟨(min 200 u.n,0),⟨dh _,ce,λh=>⟨by simp only at h;omega,dh _,by simp only at h |-;omega,λi _ h=>d5⟩⟩,.refl,.cons .refl (.cons ?_ (.cons .refl .nil)),.cons rfl (.nil)⟩;simp only;rw[show((min 200 u.n:Nat):Int)=min 200 (u.n:Int) by omega];exact .refl
 rintro⟨p,q⟩⟨aM,aK,za⟩;simp only at aM aK za;have fin:(p<200->u.n<=q)->∃ w:Nat,Value.int .i64 (p:Int)=.int .i64 w/\w<=600/\(w<200->sZ u):=λh=>by
  refine⟨p,rfl,aK,λab=>?_⟩;obtain⟨ko,iG,tO,HN⟩:=za ab;have:=h ab;exact⟨Z,λbO bW=>by
   obtain⟨y,aF,rfl⟩:=hL bW;exact HN y aF Z⟩
 refine bZ.mk (λbB=>aS.mk (λcA=>?_) (λcA=>?_)) (λbB=>?_)
 ·have hA:q<u.n:=by simpa using bB
  have iH:p<200:=by have:=cv cA;omega
  obtain⟨ko,iG,tO,HN⟩:=za iH;have o6:q<u.ns.length:=by omega
  obtain⟨tH,N4,mS⟩:=hG.a'.row ak.cq hA o6;have bW:=hG.ns _ (bD o6);have dA:=bW.ts;have nZ:∀ M,cG I M ((tH.add (q*9)).add 8) 1 [.slice u.ns[q].bX u.ns[q].aA u.ns[q].b5]:=λM=>(mS M).part (k:=8) (m:=1) bv;have tG:∀ M,cG I M ((tH.add (q*9)).add 5) 1 [.string u.ns[q].t]:=λM=>(mS M).part (k:=5) (m:=1) bv;generalize avm:u.ns[q]=bO at bW dA nZ tG;refine cN.draw aT rfl rfl rfl ?_;refine bi.mk tH q N4 rfl hA ?_;refine aJ.mk _ (nZ _) ?_;refine a3.mk ((p+min 200 bO.aA:Nat):Int) (iY Z Z) ?_;refine bi.mk tH q N4 rfl hA ?_;refine aJ.mk _ (tG _) ?_;refine h4.mk bv ?_;refine a3.mk ((bO.t.size/20:Nat):Int) (iY (by rw[afB Z];omega) Z) ?_;refine a3.mk ((p+min 200 bO.aA+min 200 (bO.t.size/20):Nat):Int) (iY Z Z) ?_;refine a3.mk _ (cC (i:=q) Z) ?_;refine⟨(_,q+1),⟨⟨ce,ce,λeB=>?_⟩,ce⟩,.refl,e2,.cons rfl (.nil)⟩;simp only at eB |-;refine⟨ko,Z,Z,λi hi hs=>?_⟩;by_cases e:i=q;·subst e;rw[avm];exact⟨Z,Z⟩
  ·exact HN i hi Z
 ·have iH:200<=p:=by have:=db cA;omega
  exact⟨_,_,.refl,fin (λh=>Z),rfl,rfl⟩
 ·have hA:u.n<=q:=by simpa using bB
  exact⟨_,_,.refl,fin (λh=>hA),rfl,rfl⟩
structure avn(g:cR)(x:Nat×Nat):Prop where
 k:x.2<=g.n
 p:x.1<=1200
 small:x.1<200->x.2<=x.1/\∀ i (h:i<g.ds.length),i<x.2->acw g.ds[i]
structure agd(g:cR)(L:List bf)(x:Nat×Nat):Prop where
 k:x.2<=L.length
 p:x.1<=1200
 small:x.1<200->AR g/\∀ i (h:i<L.length),i<x.2->sZ L[i]
def avo(az:Et I g)(ca:∀ t∈L,vb I t){la:Option Addr}{lc:Nat}(JP:∀ j (h:j<L.length),∃ ad,la=some ad/\cG I M0 (ad.add (j*2)) 2 L[j].cells)(FJ:L.length<=1000) :
  Spec Tryz.prog 15 [g.val,.slice la L.length lc] I M0 λv I' M'=>(∃ r,v=.bool r/\(r=false->AR g/\∀ t∈L,sZ t))/\I'=I/\M'=M0:=by
 refine bR [] aT Tryz.func15 rfl rfl rfl ?_;intro B ax;have ib:=az.n;have g8:=az.a'.cap;refine c2.inv (ι:=Nat×Nat) (λx=>{ bn:=[(1,.val (.slice la L.length lc)),(2,.ref 2 0),(5,.val (.int .i64 x.1)),(6,.val (.int .i64 x.2))],cl:=[(2,[.slice g.a g.n g.c])],cm:=I,cK:=M0 }) (λx=>avn g x) (λx=>g.n-x.2) ?_ ?_
 ·exact⟨(0,0),⟨dh _,dh _,λh=>⟨cf _,λi _ h=>d5⟩⟩,.refl,dS,.cons rfl (.nil)⟩
 rintro⟨p,k⟩⟨af,aK,za⟩;simp only at af aK za;have fin:(p<200->g.n<=k)->p<200->AR g:=λh iH=>by
  obtain⟨ko,iG⟩:=za iH;have:=h iH;exact⟨Z,λd aj=>by
   obtain⟨y,aF,rfl⟩:=hL aj;exact iG y aF Z⟩
 have age:∀ j (h:j<L.length),Spec Tryz.prog 82 [L[j].val] I M0 λv I' M'=>(∃ w:Nat,v=.int .i64 w/\w<=600/\(w<200->sZ L[j]))/\I'=I/\M'=M0:=λj h=>agc (ca _ (bD h));refine bZ.mk (λbB=>aS.mk (λcA=>?_) (λcA=>?_)) (λbB=>?_)
 ·have cL:k<g.n:=by simpa using bB
  have iH:p<200:=by have:=cv cA;omega
  obtain⟨ko,iG⟩:=za iH;have ry:k<g.ds.length:=by omega
  obtain⟨ad,bt,bj⟩:=az.a'.row a4.cq cL ry;have aj:=az.ds _ (bD ry);have kY:=aj.name;have hG:=aj.t;have fT:∀ M,cG I M ((ad.add (k*3)).add 0) 1 [.string g.ds[k].name]:=λM=>(bj M).part (k:=0) (m:=1) bv;have kL:∀ M,cG I M ((ad.add (k*3)).add 1) 2 g.ds[k].t.cells:=λM=>(bj M).part (k:=1) (m:=2) bv;have e5:g.ds[k]=⟨g.ds[k].name,g.ds[k].t⟩:=rfl;generalize g.ds[k].name=nm at kY fT e5;generalize g.ds[k].t=u at hG kL e5;refine cN.draw aT rfl rfl rfl ?_;refine a3.mk ((p+1:Nat):Int) (iY Z Z) ?_;refine bi.mk ad k bt rfl cL ?_;refine aJ.mk _ (fT _) ?_;refine h4.mk bv ?_;refine a3.mk ((nm.size/20:Nat):Int) (iY (by rw[afB Z];omega) Z) ?_;refine a3.mk ((p+1+min 200 (nm.size/20):Nat):Int) (iY Z Z) ?_;refine bi.mk ad k bt rfl cL ?_;refine aJ.mk _ (kL _) ?_;refine er.whole _ (agc (M0:=M0) hG) (λv I' M' h x ae=>i3) ?_;rintro v hE N -⟨⟨w,rfl,hw,jo⟩,uf,hp⟩;subst hE;subst N;refine a3.mk ((p+1+min 200 (nm.size/20)+w:Nat):Int) (iY Z Z) ?_;refine a3.mk _ (cC (i:=k) Z) ?_;refine⟨(_,k+1),⟨⟨ce,ce,λeB=>?_⟩,ce⟩,.refl,dS,.cons rfl (.nil)⟩;simp only at eB |-;refine⟨Z,λi hi hs=>?_⟩;by_cases e:i=k;·subst e;rw[e5];exact⟨ce,jo Z⟩
  ·exact iG i hi Z
 ·have iH:200<=p:=by have:=db cA;omega
  refine c2.inv (ι:=Nat×Nat) (λx=>{ bn:=[(1,.val (.slice la L.length lc)),(5,.val (.int .i64 x.1)),(7,.val (.int .i64 x.2))],cl:=[],cm:=I,cK:=M0 }) (λx=>agd g L x) (λx=>L.length-x.2) ?_ ?_;·exact⟨(p,0),⟨dh _,aK,λh=>⟨fin (λh=>Z) h,λi _ h=>d5⟩⟩,.refl,e2,.nil⟩
  rintro⟨q,m⟩⟨hm,aM,DF⟩;simp only at hm aM DF;have Gg:(q<200->L.length<=m)->∀ c:Bool,c=decide ((200:Int)<=(q:Int))->(c=false->AR g/\∀ t∈L,sZ t):=λh c ar aC=>by
   rw[aC]at ar;have iH:q<200:=by have:=db ar.symm;omega
   obtain⟨ko,iG⟩:=DF iH;have:=h iH;exact⟨ko,λd aj=>by
    obtain⟨y,aF,rfl⟩:=hL aj;exact iG y aF Z⟩
  refine bZ.mk (λeB=>aS.mk (λe6=>?_) (λe6=>?_)) (λeB=>?_)
  ·have gn:m<L.length:=by simpa using eB
   have tQ:q<200:=by have:=cv e6;omega
   obtain⟨ko,iG⟩:=DF tQ;obtain⟨ad,bt,bj⟩:=JP m gn;have hw:=age m gn;have avp:L[m]=L[m]:=rfl;generalize vx:L[m]=u at bj hw;refine a3.mk ((q+1:Nat):Int) (iY Z Z) ?_;refine bi.mk ad m bt rfl gn ?_;refine aJ.mk _ bj ?_;refine a9.mk M0 [] _ Do hw ?_;rintro v hE N -⟨⟨w,rfl,hw,jo⟩,uf,hp⟩;subst hE;subst N;refine a3.mk ((q+1+w:Nat):Int) (iY Z Z) ?_;refine a3.mk _ (cC (i:=m) Z) ?_;refine⟨(_,m+1),⟨⟨gn,ce,λdW=>?_⟩,ce⟩,.mc Do,e2,.nil⟩;simp only at dW |-;refine⟨ko,λi hi hs=>?_⟩;by_cases e:i=m;·subst e;rw[vx];exact jo Z
   ·exact iG i hi Z
  ·have iH:200<=q:=by have:=db e6;omega
   exact⟨_,_,.refl,⟨_,rfl,Gg (λh=>Z) _ rfl⟩,rfl,rfl⟩
  ·have cL:L.length<=m:=by simpa using eB
   exact⟨_,_,.refl,⟨_,rfl,Gg (λh=>cL) _ rfl⟩,rfl,rfl⟩
 ·have cL:g.n<=k:=by simpa using bB
  refine c2.inv (ι:=Nat×Nat) (λx=>{ bn:=[(1,.val (.slice la L.length lc)),(5,.val (.int .i64 x.1)),(7,.val (.int .i64 x.2))],cl:=[],cm:=I,cK:=M0 }) (λx=>agd g L x) (λx=>L.length-x.2) ?_ ?_;·exact⟨(p,0),⟨dh _,aK,λh=>⟨fin (λ_=>cL) h,λi _ h=>d5⟩⟩,.refl,e2,.nil⟩
  rintro⟨q,m⟩⟨hm,aM,DF⟩;simp only at hm aM DF;have Gg:(q<200->L.length<=m)->∀ c:Bool,c=decide ((200:Int)<=(q:Int))->(c=false->AR g/\∀ t∈L,sZ t):=λh c ar aC=>by
   rw[aC]at ar;have iH:q<200:=by have:=db ar.symm;omega
   obtain⟨ko,iG⟩:=DF iH;have:=h iH;exact⟨ko,λd aj=>by
    obtain⟨y,aF,rfl⟩:=hL aj;exact iG y aF Z⟩
  refine bZ.mk (λeB=>aS.mk (λe6=>?_) (λe6=>?_)) (λeB=>?_)
  ·have gn:m<L.length:=by simpa using eB
   have tQ:q<200:=by have:=cv e6;omega
   obtain⟨ko,iG⟩:=DF tQ;obtain⟨ad,bt,bj⟩:=JP m gn;have hw:=age m gn;have avp:L[m]=L[m]:=rfl;generalize vx:L[m]=u at bj hw;refine a3.mk ((q+1:Nat):Int) (iY Z Z) ?_;refine bi.mk ad m bt rfl gn ?_;refine aJ.mk _ bj ?_;refine a9.mk M0 [] _ Do hw ?_;rintro v hE N -⟨⟨w,rfl,hw,jo⟩,uf,hp⟩;subst hE;subst N;refine a3.mk ((q+1+w:Nat):Int) (iY Z Z) ?_;refine a3.mk _ (cC (i:=m) Z) ?_;refine⟨(_,m+1),⟨⟨gn,ce,λdW=>?_⟩,ce⟩,.mc Do,e2,.nil⟩;simp only at dW |-;refine⟨ko,λi hi hs=>?_⟩;by_cases e:i=m;·subst e;rw[vx];exact jo Z
   ·exact iG i hi Z
  ·have iH:200<=q:=by have:=db e6;omega
   exact⟨_,_,.refl,⟨_,rfl,Gg (λh=>Z) _ rfl⟩,rfl,rfl⟩
  ·have cL:L.length<=m:=by simpa using eB
   exact⟨_,_,.refl,⟨_,rfl,Gg (λh=>cL) _ rfl⟩,rfl,rfl⟩
def avq(x y:a5):Spec Tryz.prog 88 [x.val,y.val] I [] λv I' M'=>v=(iJ (λn=>x.has n&&y.has n) 256).val/\I'=I/\M'=[]:=by
 refine bR [] aT Tryz.func88 rfl rfl rfl ?_;intro B ax;refine c2.inv (ι:=Nat) (λi=>{ bn:=[(2,.ref 2 0),(3,.ref 3 0),(4,.ref 4 0),(5,.ref 5 0),(6,.val (.int .i64 i))],cl:=[(2,x.cells),(3,y.cells),(4,a5.zero.cells),(5,(iJ (λn=>x.has n&&y.has n) i).cells)],cm:=I }) (λi=>i<=256) (λi=>256-i) ?_ ?_
 ·exact⟨0,am,.refl,fh,.cons rfl (.cons rfl (.cons rfl (.cons rfl (.nil))))⟩
 intro i hi;refine aS.mk (λh=>?_) (λh=>?_)
 rotate_left
 ·have:i=256:=by have:¬ (i:Int)<256:=db h;omega
  subst this;exact⟨_,_,.refl,rfl,rfl,rfl⟩
 have aV:i<256:=by have:(i:Int)<256:=cv h;omega
 have mh:=L4 aV;have ah:(UInt8.ofNat i).toNat=i:=Fc aV;have ae:=Da (I:=I) x (UInt8.ofNat i);have aF:=Da (I:=I) y (UInt8.ofNat i);rw[ah]at ae aF;refine a3.mk (i:Int) Fd ?_;refine a9.mk [] [] _ (.refl _) ae ?_;rintro v I1 M1 -⟨rfl,rfl,rfl⟩;refine bZ.mk (λaa=>?_) (λaa=>?_)
 ·have hz:x.has i=true:=aa;refine a3.mk (i:Int) Fd ?_;refine a9.mk [] [] _ (.refl _) aF ?_;rintro v I1 M1 -⟨rfl,rfl,rfl⟩;refine aS.mk (λab=>?_) (λab=>?_)
  ·have hn:y.has i=true:=by simpa using ab
   exact(by
   refine a3.mk (i:Int) Fd ?_;have hw:=IW (I:=I1) (iJ (λn=>x.has n&&y.has n) i) (UInt8.ofNat i);rw[ah]at hw;refine a9.mk [] [] _ (.refl _) hw ?_;rintro v ed dp -⟨rfl,rfl,rfl⟩;refine a3.mk _ (cC (i:=i) Z) ?_;refine⟨i+1,⟨Z,Z⟩,.refl,fh,.cons rfl (.cons rfl (.cons rfl (.cons ?_ .nil)))⟩;have e:(x.has i&&y.has i)=true:=by rw[hz,hn];rfl
   simp only[iJ,e,cD];rfl)
  ·have hn:y.has i=false:=by simpa using ab
   exact(by
   refine a3.mk _ (cC (i:=i) Z) ?_;refine⟨i+1,⟨Z,Z⟩,.refl,fh,.cons rfl (.cons rfl (.cons rfl (.cons ?_ .nil)))⟩;have e:(x.has i&&y.has i)=false:=by rw[hz,hn];rfl
   simp only[iJ,e,cw];rfl)
 ·have hz:x.has i=false:=aa;exact(by
   refine a3.mk _ (cC (i:=i) Z) ?_;refine⟨i+1,⟨Z,Z⟩,.refl,fh,.cons rfl (.cons rfl (.cons rfl (.cons ?_ .nil)))⟩;have e:(x.has i&&y.has i)=false:=by rw[hz];rfl
   simp only[iJ,e,cw];rfl)
def avr(x y:a5):Spec Tryz.prog 88 [x.val,y.val] I [] λv I' M'=>v=(x.and y).val/\I'=I/\M'=[]:=by have h:=avq (I:=I) x y;rwa [Mz (w:=x.and y) (λn _=>(a5.aoG x y n).symm)]at h
def a5.avs(x y:a5)(n:Nat):(x.minus y).has n=(x.has n && !y.has n):=by
 unfold a5.has;have:∀ j,(x.minus y).at j=x.at j &&& ~~~(y.at j):=λj=>by
  unfold a5.at
  cases decide (j=0)<;>cases decide (j=1)<;>cases decide (j=2)<;>rfl
 rw[this,Ew,BitVec.getLsbD_not,hM (Hf n bv),m5]
def avt(x y:a5):Spec Tryz.prog 87 [x.val,y.val] I [] λv I' M'=>v=(x.minus y).val/\I'=I/\M'=[]:=by have h:=aou (I:=I) x y;rwa [Mz (w:=x.minus y) (λn _=>(a5.avs x y n).symm)]at h
def iN(t:bf):ak:=bif right t then(nodeAt t.ns t.bp.toNat).dJ []else oB
def N5(au:t.ok I)(aC:Fit t W):Spec Tryz.prog 85 [t.val] I M0 λv I' M'=>v=(iN t).val/\I'=I/\M'=M0:=by
 cases ag:right t with
 |true=>unfold iN;rw[ag];exact aoz au ag aC| false=>refine bR [] aT Tryz.func85 rfl rfl rfl ?_;intro B ax;refine a9.whole _ (SV au aC ag) ?_;rintro v J N -⟨rfl,a6,hp⟩;subst J;subst N;refine aS.mk (λ_=>?_) (λh=>absurd h am);refine⟨_,_,.refl,?_,rfl,rfl⟩;unfold iN;rw[ag];rfl
def N6(ag:right t=true):(iN t).k=(b4 t).d.k/\(iN t).ws=(b4 t).d.ws/\(iN t).t=(b4 t).d.t:=by
 obtain⟨gH,fT⟩:=kh ag;obtain⟨r,dD⟩:=dZ gH;have dw:r<t.ns.length:=by omega
 have hX:=Du ag dD dw;unfold iN;rw[ag,hX,dD];have e:(bif true then(nodeAt t.ns ((r:Nat):Int).toNat).dJ []else oB)=t.ns[r].dJ []:=by show(nodeAt t.ns r).dJ []=_;rw[fw dw]
 rw[e];exact⟨rfl,rfl,rfl⟩
def agf(au:t.ok I):eC (iN t).b0/\eC (iN t).s1/\eC (iN t).s2/\eC (iN t).cg:=by
 unfold iN;cases ag:right t with
 |false=>exact⟨ayK,ayK,ayK,ayK⟩
 |true=>
  obtain⟨gH,fT⟩:=kh ag;obtain⟨r,dD⟩:=dZ gH;have dw:r<t.ns.length:=by omega
  have h:=au.ns _ (bD dw);rw[dD];have e:(bif true then(nodeAt t.ns ((r:Nat):Int).toNat).dJ []else oB)=t.ns[r].dJ []:=by show(nodeAt t.ns r).dJ []=_;rw[fw dw]
  rw[e];exact⟨h.b0,h.s1,h.s2,h.cg⟩
def agh(t:bf):fN t q3=if(iN t).k=1 then some (iN t).ws else if(iN t).k=2/\(iN t).t.size=1 then some (nn (iN t).t.data.toList)else none:=by
 cases ag:right t with
 |true=>obtain⟨aa,ab,al⟩:=N6 ag;unfold fN;rw[ag,aa,ab,al];rfl
 |false=>unfold fN iN;rw[ag];rfl
def agi(t:bf):fN t oG=if(iN t).k=1 then some (iN t).ws else none:=by
 cases ag:right t with
 |true=>obtain⟨aa,ab,-⟩:=N6 ag;unfold fN;rw[ag,aa,ab];rfl
 |false=>unfold fN iN;rw[ag];rfl
def U6(au:t.ok I)(aC:Fit t W):Spec Tryz.prog 21 [t.val] I M0 λv I' M'=>I'=I/\M'=M0/\ur (fN t q3) v:=by
 refine bR [] aT Tryz.func21 rfl rfl rfl ?_;intro B ax;have iA:=N5 (M0:=[]) au aC;obtain⟨vc,ko,iG,tO⟩:=agf au;rw[agh];generalize iN t=d at *;refine a9.mk [] M0 _ (.refl _) iA ?_;rintro v J N -⟨rfl,rfl,rfl⟩;have Gg:∀ {J},¬ (d.k=2/\d.t.size=1)->d.k≠1->ur (if d.k=1 then some d.ws else if d.k=2/\d.t.size=1 then some (nn d.t.data.toList)else none) (.tuple #[a5.zero.val,.bool false])/\J=J:=fun {J:Nat} aa ab=>⟨⟨.zero,false,rfl,by rw[bK ab,bK aa];rfl,λ_=>rfl⟩,rfl⟩;by_cases ab:d.k=2
 ·refine bZ.mk (λ_=>?_) (λh=>absurd h ah');refine aS.mk (λh=>?_) (λh=>?_)
  ·have al:(d.t.size:Int)=1:=cv h;have tF:d.t.size=1:=by omega
   obtain⟨b,ah⟩:∃ b:UInt8,d.t.data.toList=[b]:=by
    have:d.t.data.toList.length=1:=by rw[wx];exact tF
    obtain⟨b,ah⟩:=FP.1 this;exact⟨b,ah⟩
   have Bz:d.t[0]' Z=b:=by
    show d.t.data[0]'(by show 0<d.t.size;omega)=b;have:d.t.data.toList[0]'(by rw[ah];exact UP)=b:=by simp[ah]
    rw[<-this,Array.getElem_toList]
   have dD:=aow (I:=J) b;refine cN.draw aT rfl rfl rfl ?_;refine oL.mk 0 rfl Z ?_;refine oL.mk 0 rfl Z ?_;rw[Bz];refine a9.mk [] M0 _ (.refl _) dD ?_;rintro v cS N -⟨rfl,rfl,rfl⟩;exact⟨_,_,.refl,rfl,rfl,j0 b,true,rfl,by rw[bK Z,bY ⟨ab,tF⟩,ah];simp[nn,a5.zero_or],λh=>ci⟩
  ·have al:¬ (d.t.size:Int)=1:=db h;refine aS.mk (λh=>absurd (cv h) Z) (λ_=>?_);exact⟨_,_,.refl,rfl,rfl,.zero,false,rfl,by rw[bK Z,bK λh=>al Z];rfl,λ_=>rfl⟩
 ·refine bZ.mk (λh=>absurd h ah') (λ_=>?_);refine aS.mk (λh=>?_) (λh=>?_)
  ·have aa:d.k=1:=cv h;refine⟨_,_,.refl,rfl,rfl,d.ws,true,?_,by rw[bY aa];rfl,λh=>ci⟩;rw[NL vc ko iG tO];rfl
  ·have aa:¬ d.k=1:=db h;exact⟨_,_,.refl,rfl,rfl,.zero,false,rfl,by rw[bK aa,bK λh=>ab h.1];rfl,λ_=>rfl⟩
def avu{k:Int}(ax:k≠0)(h:(iN t).k≠k):fN t (oH k)=none:=by
 cases ag:right t with
 |false=>unfold fN;rw[ag];rfl| true=>obtain⟨aa,-,-⟩:=N6 ag;unfold fN;rw[ag];show oH k (b4 t)=none;unfold oH;rw[bK (by rw[<-aa];exact h)]
def agj(h:(iN t).k≠0):right t=true:=by
 cases ag:right t with
 |true=>rfl| false=>unfold iN at h;rw[ag]at h;exact absurd rfl h
def avv{k:Int}(af:k=7\/k=8)(h:(iN t).k=k):∃ r:Nat,t.bp=(r:Int)/\r<t.ns.length/\∃ q,(nodeAt t.ns r).ao=[q]/\∀ {be:bf},lg t q be->fN t (oH k)=fN be oG:=by
 have ag:=agj (t:=t) Z;obtain⟨gH,fT⟩:=kh ag;obtain⟨r,dD⟩:=dZ gH;have dw:r<t.ns.length:=by omega
 have hX:=Du ag dD dw;obtain⟨aa,-,-⟩:=N6 ag;have eR:t.ns[r].k=k:=by rw[hX]at aa;rw[<-h,aa];rfl
 have oQ:=afa Z ((ix.1 ag).fit _ (bD dw));obtain⟨q,aM⟩:=FP.1 oQ;refine⟨r,dD,dw,q,by rw[fw dw];exact aM,fun {be} aw=>?_⟩;obtain⟨fg,e1,js⟩:=UA ag dw (by rw[aM];exact .head _) aw;rw[ae8 fg e1 js];unfold fN;rw[ag,hX];show oH k _=_;unfold oH;have e:(aU.mk t.ns[r].bare (t.ns[r].ao.map (fs t.ns))).d.k=k:=eR;rw[bY e,aM];rfl
def a5.and_comm(x y:a5):x.and y=y.and x:=a5.ext' (NU ..) (NU ..) (NU ..) (NU ..)
def agk{x:bf}(ae:x.ok I)(y5:Fit x W){k:Int}(af:k=7\/k=8)(h:(iN x).k=k):Spec Tryz.prog 86 [x.val] I [] λv I' M'=>(∀ b o,I b=some o->I' b=some o)/\∃ (os:aO) (ad:Addr) (be:bf) (b3:ak),v=os.val/\M'=os.aq 24++[]/\os.a.map (λg=>(⟨g,0,none⟩:Addr))=some ad/\0<os.n/\(∀ M,(∀ x∈os.aq 24,x∈M)->cG I' M (ad.add (0*2)) 2 be.cells) /\
  Spec Tryz.prog 85 [be.val] I' [] (λv J N=>v=b3.val/\J=I'/\N=[])/\fN x (oH k)=(if b3.k=1 then some b3.ws else none)/\b3.ws.val=.agg #[.int .u64 b3.b0,.int .u64 b3.s1,.int .u64 b3.s2,.int .u64 b3.cg]:=by
 obtain⟨r,dD,dw,q,aM,iD⟩:=avv af h;have ag:=agj (t:=x) Z;have iV:=aoB (M0:=[]) ae ag y5;rw[dD,h2,aM]at iV;refine Spec.jy iV ?_;rintro v K N⟨c7,os,L,bV,rfl,rfl,ca,eG⟩;obtain⟨be,rfl⟩:=FP.1 ca;obtain⟨hR,aw⟩:=eG 0 UP;have aw:lg x q be:=aw;have AM:os.n=1:=by have:=bV.len;rw[gz _ 2 (λ_=>rfl)]at this;simp at this;omega
 obtain⟨ayk,rfl,avw⟩:=ae9 ag dw (k:=q) (by rw[<-fw dw,aM];exact .head _);have rN:=aoy ag y5 ae avw aw hR;have sQ:=λM (bd:∀ x∈os.aq 24,x∈M)=>aO.ok.row (I:=K) (M:=M) (f:=bf.cells) (λ_=>rfl) bv bV (e:=24) bd (j:=0) UP;obtain⟨ad,bt,-⟩:=sQ (os.aq 24) λx ae=>ae;have a8:=iD aw;rw[agi be]at a8;obtain⟨vc,ko,iG,tO⟩:=agf hR;exact⟨c7,os,ad,be,iN be,rfl,rfl,bt,Z,λM bd=>by
  obtain⟨xp,vF,h⟩:=sQ M bd;rw[bt]at vF;cases vF;exact h,N5 (M0:=[]) hR rN,a8,NL vc ko iG tO⟩
def avx{x y:bf}(ae:x.ok I)(aF:y.ok I){km:Nat}(y5:Fit x W)(agl:Fit y km)(w:Int):Spec Tryz.prog 19 [.int .u8 w,x.val,y.val] I [] λv I' M'=>(∀ b o,I b=some o->I' b=some o)/\M'=[]/\ur (mu w x y) v:=by
 refine bR [] aT Tryz.func19 rfl rfl rfl ?_;intro B ax;refine a9.mk [] [] _ (.refl _) (U6 (M0:=[]) ae y5) ?_;rintro v J N -⟨a6,rfl,u,b,rfl,hu,-⟩;subst J;refine a9.mk [] [] _ (.refl _) (U6 (M0:=[]) aF agl) ?_;rintro v J N -⟨a6,rfl,z,c,rfl,bg,-⟩;subst J;by_cases aa:w=1
 ·subst aa;refine aS.mk (λ_=>?_) (λh=>absurd h am);have e:mu 1 x y=bif b&&c then some (u.or z)else none:=by rw[afc,hu,bg,Dv]
  rw[e];cases b with
  |false=>refine bZ.mk (λh=>ci) (λ_=>?_);exact⟨_,_,.refl,λ_ _ h=>h,rfl,.zero,false,rfl,rfl,λ_=>rfl⟩
  |true=>
   refine bZ.mk (λ_=>?_) (λh=>ci);cases c with
   |false=>refine aS.mk (λ_=>?_) (λh=>ci);exact⟨_,_,.refl,λ_ _ h=>h,rfl,.zero,false,rfl,rfl,λ_=>rfl⟩| true=>refine aS.mk (λh=>ci) (λ_=>?_);refine a9.mk [] [] _ (.refl _) (aov u z) ?_;rintro v J N -⟨rfl,a6,rfl⟩;subst J;exact⟨_,_,.refl,λ_ _ h=>h,rfl,u.or z,true,rfl,rfl,λh=>ci⟩
 refine aS.mk (λh=>absurd (cv h) aa) (λ_=>?_);have nv:=N5 (M0:=[]) ae y5;have Bf:=fun {K:aI} (h:∀ b o,I b=some o->K b=some o)=>N5 (M0:=[]) (aF.mono h) agl;have U7:=agi y;have r0:=bg;rw[agh]at r0;have eV:∀ k,k≠0->(iN x).k≠k->fN x (oH k)=none:=λk=>avu;have agm:=agk ae y5 (k:=7) (.inl rfl);have agn:=agk ae y5 (k:=8) (.inr rfl);generalize iN x=d at nv eV agm agn;generalize iN y=e at Bf U7 r0;refine a9.mk [] [] _ (.refl _) nv ?_;rintro v J N -⟨rfl,a6,rfl⟩;subst J;by_cases hw:w=2
 ·subst hw;rw[afd];have Bg:fN y oG=if e.k=1 then some e.ws else none:=U7
  refine bZ.mk (λh=>ci) (λ_=>?_);refine bZ.mk (λ_=>?_) (λh=>ci);by_cases af:d.k=8
  rotate_left
  ·refine bZ.mk (λh=>absurd h ai') (λ_=>?_);exact⟨_,_,.refl,λ_ _ h=>h,rfl,.zero,false,rfl,by rw[eV 8 bv af];rfl,λ_=>rfl⟩
  refine bZ.mk (λ_=>?_) (λh=>absurd h ai');refine bZ.mk (λh=>ci) (λ_=>?_);refine a9.mk [] [] _ (.refl _) (agn af) ?_;rintro v K N c7⟨-,os,ad,be,b3,rfl,rfl,bt,bV,bj,U8,a8,jo⟩;refine bi.mk ad 0 bt rfl Z ?_;refine aJ.mk _ (bj _ λx ae=>f0) ?_;refine a9.mk [] _ _ (.refl _) U8 ?_;rintro v J N -⟨rfl,a6,rfl⟩;subst J;by_cases ki:b3.k=1
  rotate_left
  ·refine bZ.mk (λh=>absurd h ayQ) (λ_=>?_);exact⟨_,_,.sub (eY _) .refl,c7,rfl,.zero,false,rfl,by rw[a8,bK ki];rfl,λ_=>rfl⟩
  refine bZ.mk (λ_=>?_) (λh=>absurd h ayQ);refine a9.mk [] _ _ (.refl _) (Bf c7) ?_;rintro v J N -⟨rfl,a6,rfl⟩;subst J;by_cases vW:e.k=1
  rotate_left
  ·refine aS.mk (λ_=>?_) (λh=>absurd h (by simp[vW]));exact⟨_,_,.sub (eY _) .refl,c7,rfl,.zero,false,rfl,by rw[Bg,a8,bY ki,bK vW];rfl,λ_=>rfl⟩
  refine aS.mk (λh=>absurd h (by simp[vW])) (λ_=>?_);have U9:z=e.ws:=by
   rw[bY vW]at r0;cases c with
   |false=>cases r0| true=>exact(eX r0).symm
  have v8:=avt (I:=K) z b3.ws;rw[jo]at v8;refine aS.mk (λ_=>?_) (λh=>absurd h am);refine a9.mk [] _ _ (.refl _) v8 ?_;rintro v J N -⟨rfl,a6,rfl⟩;subst J;exact⟨_,_,.sub (eY _) .refl,c7,rfl,_,true,rfl,by rw[Bg,a8,bY ki,bY vW,U9];exact congrArg some (rfl),λh=>ci⟩
 have Nv:¬ w=2:=hw;clear hw;by_cases hw:w=3
 ·subst hw;rw[afe];have Bg:fN y oG=if e.k=1 then some e.ws else none:=U7
  refine bZ.mk (λ_=>?_) (λh=>ci);refine bZ.mk (λ_=>?_) (λh=>ci);refine bZ.mk (λh=>ci) (λ_=>?_);refine bZ.mk (λ_=>?_) (λh=>ci);by_cases af:d.k=7
  rotate_left
  ·refine aS.mk (λ_=>?_) (λh=>absurd h ai');exact⟨_,_,.refl,λ_ _ h=>h,rfl,.zero,false,rfl,by rw[eV 7 bv af];rfl,λ_=>rfl⟩
  refine aS.mk (λh=>absurd h ai') (λ_=>?_);refine a9.mk [] [] _ (.refl _) (agm af) ?_;rintro v K N c7⟨-,os,ad,be,b3,rfl,rfl,bt,bV,bj,U8,a8,jo⟩;refine bi.mk ad 0 bt rfl Z ?_;refine aJ.mk _ (bj _ λx ae=>f0) ?_;refine a9.mk [] _ _ (.refl _) U8 ?_;rintro v J N -⟨rfl,a6,rfl⟩;subst J;by_cases ki:b3.k=1
  rotate_left
  ·refine bZ.mk (λh=>absurd h ayQ) (λ_=>?_);exact⟨_,_,.sub (eY _) .refl,c7,rfl,.zero,false,rfl,by rw[a8,bK ki];rfl,λ_=>rfl⟩
  refine bZ.mk (λ_=>?_) (λh=>absurd h ayQ);refine a9.mk [] _ _ (.refl _) (Bf c7) ?_;rintro v J N -⟨rfl,a6,rfl⟩;subst J;by_cases vW:e.k=1
  rotate_left
  ·refine aS.mk (λ_=>?_) (λh=>absurd h (by simp[vW]));exact⟨_,_,.sub (eY _) .refl,c7,rfl,.zero,false,rfl,by rw[Bg,a8,bY ki,bK vW];rfl,λ_=>rfl⟩
  refine aS.mk (λh=>absurd h (by simp[vW])) (λ_=>?_);have U9:z=e.ws:=by
   rw[bY vW]at r0;cases c with
   |false=>cases r0| true=>exact(eX r0).symm
  have v8:=avr (I:=K) z b3.ws;rw[jo]at v8;refine aS.mk (λh=>absurd h am) (λ_=>?_);refine a9.mk [] _ _ (.refl _) v8 ?_;rintro v J N -⟨rfl,a6,rfl⟩;subst J;exact⟨_,_,.sub (eY _) .refl,c7,rfl,_,true,rfl,by rw[Bg,a8,bY ki,bY vW,U9];exact congrArg some (a5.and_comm _ _),λh=>ci⟩
 ·have dC:=UC aa Nv hw x y;refine bZ.mk (λ_=>?_) (λh=>absurd h (by simp[Nv]));refine bZ.mk (λh=>absurd h (by simp[hw])) (λ_=>?_);exact⟨_,_,.refl,λ_ _ h=>h,rfl,.zero,false,rfl,dC,λ_=>rfl⟩
structure avy(Df:aI)(t:bf)(os0:aO)(x:Nat×aO×List ak×aI):Prop where
 i:x.1<=t.n
 ok:x.2.1.ok 9 (x.2.2.1.flatMap ak.cells)
 aW:x.2.2.1.map ak.aW=t.ns.map ak.aW
 ns:∀ d∈x.2.2.1,d.ok x.2.2.2
 le:∀ b o,Df b=some o->x.2.2.2 b=some o
 a:x.2.1.a=os0.a
 v:x.2.1.val=os0.val
structure avz(I:aI)(g:cR)(x:Nat×aO×List a4×aI):Prop where
 i:x.1<=g.n
 ok:x.2.1.ok 3 (x.2.2.1.flatMap a4.cells)
 aW:x.2.2.1.map a4.aW=(g.ds.take x.1).map a4.aW
 ds:∀ d∈x.2.2.1,d.ok x.2.2.2
 le:∀ b o,I b=some o->x.2.2.2 b=some o
def avA(az:g.ok I)(sp:AR g):Spec Tryz.prog 17 [g.val] I [] λv I' M'=>(∀ b o,I b=some o->I' b=some o)/\∃ (os:aO) (L:List a4),v=.agg #[os.val]/\os.n=g.n/\os.ok 3 (L.flatMap a4.cells)/\M'=os.aq 32/\L.map a4.aW=g.ds.map a4.aW/\∀ d∈L,d.ok I':=by
 refine bR [] aT Tryz.func17 rfl rfl rfl ?_;intro B ax;have ib:=az.n;have B8:=sp.n;refine c2.rc (ι:=Nat×aO×List a4×aI) (λx=>{ bn:=[(1,.ref 1 0),(2,.ref 2 0),(3,.ref 3 0),(4,.val (.int .i64 x.1))],cl:=[(1,[.slice g.a g.n g.c]),(2,[.slice none 0 0]),(3,[x.2.1.val])],cm:=x.2.2.2,cK:=x.2.1.aq 32++[] }) (λx=>avz I g x) (λx=>g.n-x.1) ?_ ?_
 ·intro _;exact⟨(0,gV,[],I),⟨dh _,jt 3,rfl,(λd aj=>t7),λ_ _ h=>h⟩,.refl,dS,.cons rfl (.cons rfl (.cons rfl (.nil)))⟩
 rintro⟨i,xC,L,J⟩⟨hi,N7,dI,e5,bo⟩;simp only at hi N7 dI e5 bo;have ayl:L.length=xC.n:=by have:=N7.len;rw[gz _ 3 a4.cq]at this;omega
 refine aS.mk (λh=>?_) (λh=>?_)
 rotate_left
 ·have cM:i=g.n:=by have:¬ (i:Int)<(g.n:Int):=db h;omega
  subst cM;rw[fE Z]at dI;have ay:L.length=g.ds.length:=by simpa using congrArg List.length dI
  exact⟨_,_,.refl,bo,xC,L,rfl,Z,N7,Do,dI,e5⟩
 have aV:i<g.n:=by have:(i:Int)<(g.n:Int):=cv h;omega
 have dP:i<g.ds.length:=by omega
 have yL:L.length=i:=by have:=congrArg List.length dI;rw[bA,bA,fF]at this;omega
 have yR:=az.mono bo;obtain⟨ad,bt,bj⟩:=yR.a'.row a4.cq aV dP;have lG:=gi dP;have eZ:=yR.ds _ (bD dP);have FO:=sp.ds _ (bD dP);have fT:∀ M,cG J M ((ad.add (i*3)).add 0) 1 [.string g.ds[i].name]:=λM=>(bj M).part (k:=0) (m:=1) bv;have kL:∀ M,cG J M ((ad.add (i*3)).add 1) 2 g.ds[i].t.cells:=λM=>(bj M).part (k:=1) (m:=2) bv;generalize g.ds[i]=I6 at lG eZ FO fT kL;obtain⟨nm,t⟩:=I6;have au:=eZ.t;have kY:=eZ.name;have dA:=FO.t;have avB:=dA.n;simp only at fT kL au kY avB;have gu:=au.n;refine bi.mk ad i bt rfl aV ?_;refine aJ.mk _ (kL _) ?_;refine bN.mk λb ah uO=>?_;refine bz.w0 aT rfl am (e:=88) rfl rfl rfl ⟨some b,0,0,[]⟩ (xs:=[]) ⟨rfl,(λh=>ci),(λg h=>⟨rfl,cf _,dh _,rfl⟩)⟩ rfl (sa:=t.a) (m:=t.n) (c':=t.c) (cb:=t.ns.flatMap ak.cells) rfl au.a'.len (au.a'.vD _) (Jb ak.one _) [] (xC.aq 32++[]) rfl ce (by show(0+t.n)*96<=_;omega) ?_;intro os0 nL oh vE;rw[hW]at vE;have nL:os0.n=t.n:=by rw[nL];exact dg _
 refine c2.rc (ι:=Nat×aO×List ak×aI) (λx=>{ bn:=[(1,.ref 1 0),(2,.ref 2 0),(3,.ref 3 0),(4,.val (.int .i64 i)),(5,.ref 5 0),(6,.val os0.val),(7,.val (.int .i64 x.1))],cl:=[(1,[.slice g.a g.n g.c]),(2,[.slice none 0 0]),(3,[xC.val]),(5,t.cells)],cm:=x.2.2.2,cK:=x.2.1.aq 88++(xC.aq 32++[]) }) (λx=>avy J t os0 x) (λx=>t.n-x.1) ?_ ?_
 ·intro _;exact⟨(0,os0,t.ns,J),⟨dh _,vE,rfl,au.ns,λ_ _ h=>h,rfl,rfl⟩,.refl,pJ,.cons rfl (.cons rfl (.cons rfl (.cons rfl (.nil))))⟩
 rintro⟨k,os,N,K⟩⟨af,bV,yU,kT,Gh,mi,jP⟩;simp only at af bV yU kT Gh mi jP;have aym:N.length=t.ns.length:=by simpa using congrArg List.length yU
 obtain⟨gK,Tk⟩:=xo jP;refine aS.mk (λab=>?_) (λab=>?_)
 ·have lD:k<t.n:=by have:(k:Int)<(os0.n:Int):=cv ab;omega
  have Dm:k<N.length:=by omega
  obtain⟨bO,bW,hv⟩:=aO.ok.row (I:=K) (e:=88) ak.cq bv bV (M:=os.aq 88++(xC.aq 32++[])) (λz bg=>iy _ bg) Dm;have N8:=kT _ (bD Dm);have U':=bW;rw[mi]at U';have qD:N[k].ao.length=N[k].aA:=N8.aA;have iv:N[k].aA<400:=by
   obtain⟨z,bg,e⟩:∃ z∈t.ns,z.aW=N[k].aW:=by
    have bB:N[k].aW∈t.ns.map ak.aW:=by rw[<-yU];exact c6.2 ⟨_,bD Dm,rfl⟩
    obtain⟨z,bg,e⟩:=c6.1 bB;exact⟨z,bg,e⟩
   have cA:=(dA.ns z bg).aA;have eB:=(au.ns z bg).aA;have avC:=congrArg ak.ao e;have e6:z.ao=N[k].ao:=avC;rw[e6]at eB;omega
  refine bN.mk λb8 iR ayn=>?_;refine bi.mk bO k U' rfl (show k<os0.n by omega) ?_;refine aJ.mk [.slice N[k].bX N[k].aA N[k].b5] ?_ ?_;·have al:=hv.part (k:=8) (m:=1) bv;obtain⟨ee,cs,T,ap,eO,eS⟩:=al;exact⟨ee,cs,T,ap,eO.mono (λ_ _ h=>h) (λx ae=>.tail _ ae),eS⟩
  refine bz.w0 aT rfl am (e:=3) rfl rfl rfl ⟨some b8,0,0,[]⟩ (xs:=[]) ⟨rfl,(λh=>ci),(λg h=>⟨rfl,cf _,dh _,rfl⟩)⟩ rfl (sa:=N[k].bX) (m:=N[k].aA) (c':=N[k].b5) (cb:=N[k].ao.map (.int .i64 ·)) rfl (by simpa using N8.a'.len) (N8.a'.vD _) (Dd _) [] (os.aq 88++(xC.aq 32++[])) rfl ce (by show(0+N[k].aA)*8<=_;omega) ?_;intro se NX ayo ago;rw[hW]at ago;have NX:se.n=N[k].aA:=by rw[NX];exact dg _
  refine bi.mk bO k U' rfl (show k<os0.n by omega) ?_;have e3:({ N[k]with bX:=se.a.map λg=>⟨g,0,none⟩,aA:=se.n,b5:=se.c }:ak).aW=N[k].aW:=rfl;have gy:=acL Dm e3;refine aO.CR (e:=88) ak.cells 9 ak.cq bV Dm 8 (vs:=[se.val]) (bJ rfl) rfl { N[k]with bX:=se.a.map λg=>⟨g,0,none⟩,aA:=se.n,b5:=se.c } rfl (se.aq 3) (xC.aq 32++[]) rfl bW ?_;intro hD jg mm kQ h9;refine a3.mk _ (cC (i:=k) Z) ?_;intro ew;have DG:=A' (J:=K) (os:=se) (e:=3) ew.d;refine⟨(k+1,hD,N.set k { N[k]with bX:=se.a.map λg=>⟨g,0,none⟩,aA:=se.n,b5:=se.c },lr K se 3),⟨⟨lD,h9,gy.trans yU,λd aj=>?_,λb o h=>DG _ _ (Gh _ _ h),mm.trans mi,jg.trans jP⟩,ce⟩,F5 (λg _=>am),pJ,.cons rfl (.cons rfl (.cons rfl (.cons rfl (.nil))))⟩;rcases sD aj with aj | rfl;·exact(kT _ aj).mono DG
  ·exact { (N8.mono DG)with a':=F6 (b:=8) ago Z }
 have cM:k=t.n:=by have:¬ (k:Int)<(os0.n:Int):=db ab;omega
 have ayp:=yR.mono Gh;have avD:∀ M,cG K M ((ad.add (i*3)).add 0) 1 [.string nm]:=λM=>by obtain⟨ee,cs,T,ap,eO,eS⟩:=fT [];exact⟨ee,cs,T,ap,eO.mono Gh (λx ae=>wt),eS⟩
 refine cN.draw aT rfl rfl rfl ?_;refine bi.mk ad i bt rfl aV ?_;refine aJ.mk _ (avD _) ?_;refine bN.mk λb9 kI ayq=>?_;refine bz.lh aT rfl am (e:=32) rfl rfl rfl xC N7 rfl (cs:=[.string nm,os0.val,.int .i64 t.bp]) rfl rfl rfl (os.aq 88) [] rfl Z (by show(xC.n+1)*48<=_;omega) ?_;intro avE ayr ays agp;refine a3.mk _ (cC (i:=i) Z) ?_;intro ew;have DG:=A' (J:=K) (os:=os) (e:=88) ew.d;refine⟨(i+1,avE,L++[⟨nm,⟨N,os.a.map λg=>⟨g,0,none⟩,os.n,os.c,t.bp⟩⟩],lr K os 88),⟨⟨aV,?_,?_,λd aj=>?_,λb o h=>DG _ _ (Gh _ _ (bo _ _ h))⟩,ce⟩,F5 (λg _=>am),dS,.cons rfl (.cons rfl (.cons rfl (.nil)))⟩
 ·simp only;rw[fL,iS,KT,dE];rw[<-jP]at agp;exact agp
 ·simp only;rw[lG,cJ,cJ,dI];congr 1;show [a4.aW ⟨nm,_⟩]=[a4.aW ⟨nm,t⟩];unfold a4.aW bf.aW;simp only;rw[yU,gK,nL]
 ·rcases cW.1 aj with aj | aj
  ·exact(e5 d aj).mono λb o h=>DG _ _ (Gh _ _ h)
  ·rw[ep.1 aj];exact⟨kY,⟨F6 (b:=96) bV Z,λz bg=>(kT z bg).mono DG,au.bp⟩⟩
def avF(az:g.ok I)(sp:AR g):Spec Tryz.prog 17 [g.val] I M0 λv I' M'=>(∀ b o,I b=some o->I' b=some o)/\M'=M0/\∃ h:cR,v=h.val/\h.ok I'/\h.aW=g.aW:=by refine Spec.jy (Spec.frame (Spec.iI (avA az sp))) ?_;rintro v J M⟨M',rfl,-,a6,rfl,-,I',M1,⟨aa,os,L,rfl,gK,bV,rfl,dI,e5⟩,bC⟩;have ib:=sp.n;refine⟨a6,rfl,⟨L,os.a.map λg=>⟨g,0,none⟩,os.n,os.c⟩,rfl,⟨aO.iI bC bV (λ_ h=>h) Z,λd aj=>(e5 d aj).mono bC.le⟩,?_⟩;unfold cR.aW;rw[dI,gK]
def avG{x y:ak}(h:x.aW=y.aW):x.k=y.k/\x.b0=y.b0/\x.s1=y.s1/\x.s2=y.s2/\x.cg=y.cg/\x.t=y.t/\x.lo=y.lo/\x.hi=y.hi/\x.ao=y.ao:=by
 unfold ak.aW at h;injection h with aN bc cy dX k3 mg AH mh _ _ _ I5
 exact⟨aN,bc,cy,dX,k3,mg,AH,mh,I5⟩
def agq{a:bf}(a8:a.ok I)(ah:b.ok I)(h:a.aW=b.aW):Spec Tryz.prog 22 [a.val,b.val] I M0 λv I' M'=>v=.bool true/\I'=I/\M'=M0:=by
 refine bR [] aT Tryz.func22 rfl rfl rfl ?_;intro B ax;have k9:=a8.n;have DV:=ah.n;have g8:=a8.a'.cap;have kT:a.ns.map ak.aW=b.ns.map ak.aW:=congrArg bf.ns h;have nL:=congrArg bf.n h;have og:=congrArg bf.bp h;have aE:a.n=b.n:=nL;have ag:a.bp=b.bp:=og;refine bZ.mk (λ_=>?_) (λh=>absurd h (by simp[aE]));refine aS.mk (λh=>absurd h (by simp[ag])) (λ_=>?_);refine c2.inv (ι:=Nat) (λi=>{ bn:=[(2,.ref 2 0),(3,.ref 3 0),(5,.val (.int .i64 i))],cl:=[(2,a.cells),(3,b.cells)],cm:=I,cK:=M0 }) (λi=>i<=a.n) (λi=>a.n-i) ?_ ?_
 ·exact⟨0,dh _,.refl,e2,.cons rfl (.cons rfl (.nil))⟩
 intro i hi;refine aS.mk (λab=>?_) (λab=>?_)
 rotate_left
 ·exact⟨_,_,.refl,rfl,rfl,rfl⟩
 have aV:i<a.n:=by have:(i:Int)<(a.n:Int):=cv ab;omega
 have Va:i<a.ns.length:=by omega
 have Vb:i<b.ns.length:=by omega
 obtain⟨ad,bt,bj⟩:=a8.a'.row ak.cq aV Va;obtain⟨tH,N4,mS⟩:=ah.a'.row ak.cq (show i<b.n by omega) Vb;have ae:=a8.ns _ (bD Va);have aF:=ah.ns _ (bD Vb);have dI:a.ns[i].aW=b.ns[i].aW:=by have:=congrArg (λl=>l[i]?) kT;simp only[jJ]at this;rw[du Va,du Vb]at this;exact eX this
 generalize a.ns[i]=x at bj ae dI;generalize b.ns[i]=y at mS aF dI;obtain⟨fg,e1,js,Ce,Cf,Hx,P3,P4,agr⟩:=avG dI;have DB:=ae.a';have ags:=aF.a';have vM:=ae.aA;have Lu:=aF.aA;have yX:=DB.cap;obtain⟨k,b0,s1,s2,cg,t,lo,ck,bX,aA,b5,ao⟩:=x;obtain⟨fI,ayt,ayu,ayv,ayw,be,L9,ayx,ze,avH,zf,ayy⟩:=y;simp only at fg e1 js Ce Cf Hx P3 P4 agr DB ags vM Lu yX;subst fg e1 js Ce Cf Hx P3 P4 agr;have eF:aA=avH:=by rw[<-vM,<-Lu]
 subst eF;clear ae aF dI;refine cN.VZ aT rfl rfl rfl (ι:=Nat×Nat) (λp=>{ bn:=[(2,.ref 2 0),(3,.ref 3 0),(5,.val (.int .i64 i)),(6,.val (ptr p.1)),(7,.val (ptr p.2))],cl:=[(2,a.cells),(3,b.cells)],cm:=I,cK:=⟨p.1,.cells (⟨k,b0,s1,s2,cg,t,lo,ck,bX,aA,b5,ao⟩:ak).cells.toArray 88 (0,0)⟩::⟨p.2,.cells (⟨k,b0,s1,s2,cg,t,lo,ck,ze,aA,zf,ao⟩:ak).cells.toArray 88 (0,0)⟩::M0 }) (λ_=>True) ?_ ?_
 ·refine bi.mk ad i bt rfl aV ?_;refine aJ.mk _ (bj _) ?_;refine bi.mk tH i N4 rfl (show i<b.n by omega) ?_;refine aJ.mk _ (mS _) ?_;refine⟨?_,?_⟩
  ·refine bN.mk λb6 Em TY=>?_;refine bN.mk λb7 Cz adZ=>?_;refine b'.nk [⟨b7,_⟩] _ _ _ rfl rfl rfl rfl (⟨k,b0,s1,s2,cg,t,lo,ck,bX,aA,b5,ao⟩:ak).cells rfl ?_;refine b'.nk [] _ _ _ rfl rfl rfl rfl (⟨k,b0,s1,s2,cg,t,lo,ck,ze,aA,zf,ao⟩:ak).cells rfl ?_;exact⟨(b6,b7),trivial,.perm (.swap _ _ _) .refl,fh,.cons rfl (.cons rfl (.nil))⟩
  ·refine bN.mk λb7 Cz adZ=>?_;refine bN.mk λb6 Em TY=>?_;refine b'.nk [] _ _ _ rfl rfl rfl rfl (⟨k,b0,s1,s2,cg,t,lo,ck,bX,aA,b5,ao⟩:ak).cells rfl ?_;refine b'.nk [⟨b6,_⟩] _ _ _ rfl rfl rfl rfl (⟨k,b0,s1,s2,cg,t,lo,ck,ze,aA,zf,ao⟩:ak).cells rfl ?_;exact⟨(b6,b7),trivial,.refl,fh,.cons rfl (.cons rfl (.nil))⟩
 rintro⟨b6,b7⟩-;have Bh:∀ u n:Nat,u+n<=9->cG I (⟨b6,.cells (⟨k,b0,s1,s2,cg,t,lo,ck,bX,aA,b5,ao⟩:ak).cells.toArray 88 (0,0)⟩::⟨b7,.cells (⟨k,b0,s1,s2,cg,t,lo,ck,ze,aA,zf,ao⟩:ak).cells.toArray 88 (0,0)⟩::M0) ((⟨b6,0,none⟩:Addr).add u) n (((⟨k,b0,s1,s2,cg,t,lo,ck,bX,aA,b5,ao⟩:ak).cells.drop u).take n):=λq n h=>by rw[eK (⟨b6,0,none⟩:Addr) rfl,dg];exact⟨rfl,_,_,_,.inr ⟨_,.head _,rfl,rfl⟩,rfl,by rw[fF,oU,ak.cq];omega⟩
 have DH:∀ u n:Nat,u+n<=9->cG I (⟨b6,.cells (⟨k,b0,s1,s2,cg,t,lo,ck,bX,aA,b5,ao⟩:ak).cells.toArray 88 (0,0)⟩::⟨b7,.cells (⟨k,b0,s1,s2,cg,t,lo,ck,ze,aA,zf,ao⟩:ak).cells.toArray 88 (0,0)⟩::M0) ((⟨b7,0,none⟩:Addr).add u) n (((⟨k,b0,s1,s2,cg,t,lo,ck,ze,aA,zf,ao⟩:ak).cells.drop u).take n):=λq n h=>by rw[eK (⟨b7,0,none⟩:Addr) rfl,dg];exact⟨rfl,_,_,_,.inr ⟨_,.tail _ (.head _),rfl,rfl⟩,rfl,by rw[fF,oU,ak.cq];omega⟩
 refine aJ.mk [.int .u8 k] (Bh 0 1 bv) ?_;refine aJ.mk [.int .u8 k] (DH 0 1 bv) ?_;refine bZ.mk (λ_=>?_) (λh=>absurd h am);refine aJ.mk [.int .u64 b0,.int .u64 s1,.int .u64 s2,.int .u64 cg] (Bh 1 4 bv) ?_;refine aJ.mk [.int .u64 b0,.int .u64 s1,.int .u64 s2,.int .u64 cg] (DH 1 4 bv) ?_;refine fm.Qn aT (e:=34) rfl rfl rfl rfl d4 ?_;refine bZ.mk (λ_=>?_) (λh=>absurd h am);refine aJ.mk [.string t] (Bh 5 1 bv) ?_;refine aJ.mk [.string t] (DH 5 1 bv) ?_;refine bZ.mk (λ_=>?_) (λh=>absurd h am);refine aJ.mk [.int .i64 lo] (Bh 6 1 bv) ?_;refine aJ.mk [.int .i64 lo] (DH 6 1 bv) ?_;refine bZ.mk (λ_=>?_) (λh=>absurd h am);refine aJ.mk [.int .i64 ck] (Bh 7 1 bv) ?_;refine aJ.mk [.int .i64 ck] (DH 7 1 bv) ?_;refine bZ.mk (λ_=>?_) (λh=>absurd h am);refine aJ.mk [.slice bX aA b5] (Bh 8 1 bv) ?_;refine aJ.mk [.slice ze aA zf] (DH 8 1 bv) ?_;refine aS.mk (λh=>absurd h am) (λ_=>?_);refine c2.inv (ι:=Nat) (λj=>{ bn:=[(2,.ref 2 0),(3,.ref 3 0),(5,.val (.int .i64 i)),(6,.val (ptr b6)),(7,.val (ptr b7)),(8,.val (.int .i64 j))],cl:=[(2,a.cells),(3,b.cells)],cm:=I,cK:=⟨b6,.cells (⟨k,b0,s1,s2,cg,t,lo,ck,bX,aA,b5,ao⟩:ak).cells.toArray 88 (0,0)⟩::⟨b7,.cells (⟨k,b0,s1,s2,cg,t,lo,ck,ze,aA,zf,ao⟩:ak).cells.toArray 88 (0,0)⟩::M0 }) (λj=>j<=aA) (λj=>aA-j) ?_ ?_
 ·exact⟨0,dh _,.refl,uF,.cons rfl (.cons rfl (.nil))⟩
 intro j ai;refine aJ.mk [.slice bX aA b5] (Bh 8 1 bv) ?_;refine aS.mk (λal=>?_) (λal=>?_)
 rotate_left
 ·refine a3.mk _ (cC (i:=i) Z) ?_;exact⟨i+1,⟨aV,Z⟩,.sub (.cons _ (.cons _ (.refl _))) .refl,e2,.cons rfl (.cons rfl (.nil))⟩
 have JV:j<aA:=by have:(j:Int)<(aA:Int):=cv al;omega
 have r5:j<ao.length:=by omega
 obtain⟨avI,avJ,nv⟩:=DB.one JV r5;obtain⟨avK,avL,Bf⟩:=ags.one JV r5;generalize ao[j]=z at nv Bf;refine cN.draw aT rfl rfl rfl ?_;refine aJ.mk [.slice bX aA b5] (Bh 8 1 bv) ?_;refine bi.mk avI j avJ rfl JV ?_;refine aJ.mk _ (nv _) ?_;refine aJ.mk [.slice ze aA zf] (DH 8 1 bv) ?_;refine bi.mk avK j avL rfl JV ?_;refine aJ.mk _ (Bf _) ?_;refine aS.mk (λh=>absurd h am) (λ_=>?_);refine a3.mk _ (cC (i:=j) Z) ?_;exact⟨j+1,⟨JV,Z⟩,.refl,uF,.cons rfl (.cons rfl (.nil))⟩
def ur.eq{o:Option a5}{nr:Value}(h:ur o v)(bu:ur o nr):v=nr:=by
 obtain⟨w,b,rfl,e,ah⟩:=h;obtain⟨w',il,rfl,cY,g2⟩:=bu;rw[e]at cY;cases b with
 |true=>
  cases il with
  |true=>rw[eX cY]| false=>cases cY
 |false=>
  cases il with
  |true=>cases cY| false=>rw[ah rfl,g2 rfl]
def avM{x y:Operand}{p:a5}{V:Value->Prop}{other:Prop}(h:V (.bool false)):fm Tryz.prog .neq 36 x y (.val (.agg #[.int .u64 p.a.toNat,.int .u64 p.b.toNat,.int .u64 p.c.toNat,.int .u64 p.d.toNat])) (.val (.agg #[.int .u64 p.a.toNat,.int .u64 p.b.toNat,.int .u64 p.c.toNat,.int .u64 p.d.toNat])) V other:=by refine fm.Qn aT rfl rfl rfl rfl d4 ?_;simpa using h
def avN{a:bf}(a8:a.ok I)(ah:b.ok I){k:Nat}(af:I k=some (.cells ([⟨⟨#[]⟩,a⟩,⟨⟨#[]⟩,b⟩].flatMap a4.cells).toArray 32 (0,0))):cR.ok I ⟨[⟨⟨#[]⟩,a⟩,⟨⟨#[]⟩,b⟩],some ⟨k,0,none⟩,2,2⟩:=
 ⟨⟨rfl,⟨cf _,show 2*48<=140737488355328 by decide⟩,.inr ⟨⟨k,0,none⟩,rfl,rfl,_,_,_,af,rfl⟩⟩,λd aj=>by
  rcases ez.1 aj with rfl | aj;·exact⟨by show 0<=_;decide,a8⟩
  ·rw[ep.1 aj];exact⟨by show 0<=_;decide,ah⟩⟩
def avO{α β:Type}{f:α->β}{a b:β}:∀ {l:List α},l.map f=[a,b]->∃ x y,l=[x,y]/\f x=a/\f y=b
 |[x,y],h=>by simp only[ch,hd,wF,and_true]at h;exact⟨x,y,rfl,h.1,h.2⟩
 |[],h=>by simp at h
 |[x],h=>by simp at h
 |x::y::z::l,h=>by simp at h
def avP{a:bf}(a8:a.ok I)(ah:b.ok I)(Gi:sZ a)(JW:sZ b){k:Nat}(af:I k=some (.cells ([⟨⟨#[]⟩,a⟩,⟨⟨#[]⟩,b⟩].flatMap a4.cells).toArray 32 (0,0))) :
  Spec Tryz.prog 17 [.agg #[.slice (some ⟨k,0,none⟩) 2 2]] I [] λv I' M'=>(∀ b o,I b=some o->I' b=some o)/\M'=[]/\∃ (ad:Addr) (c:Nat) (x y:bf),v=.agg #[.slice (some ad) 2 c]/\(∀ M,cG I' M (ad.add (0*3)) 3 (a4.cells ⟨⟨#[]⟩,x⟩))/\(∀ M,cG I' M (ad.add (1*3)) 3 (a4.cells ⟨⟨#[]⟩,y⟩))/\x.ok I'/\y.ok I'/\x.aW=a.aW/\y.aW=b.aW:=by
 have az:=avN a8 ah af;have dC:(ByteArray.mk #[]).size<8020:=by have h:(ByteArray.mk #[]).size=0:=rfl;omega
 have sp:AR ⟨[⟨⟨#[]⟩,a⟩,⟨⟨#[]⟩,b⟩],some ⟨k,0,none⟩,2,2⟩:=⟨by show 2<400;omega,λd aj=>by
  rcases ez.1 aj with rfl | aj;·exact⟨dC,Gi⟩
  ·obtain rfl:=ep.1 aj;exact⟨dC,JW⟩⟩
 have ax:=avF (M0:=[]) az sp;refine Spec.jy ax ?_;rintro v J N⟨a6,rfl,h,rfl,cU,dI⟩;obtain⟨e5,agt,s6,avQ⟩:=h;have aN:e5.map a4.aW=[⟨⟨#[]⟩,a.aW⟩,⟨⟨#[]⟩,b.aW⟩]:=congrArg cR.ds dI;have bc:s6=2:=congrArg cR.n dI;subst bc;obtain⟨⟨rB,x⟩,⟨kG,y⟩,rfl,aN,bc⟩:=avO aN;simp only[a4.aW,a4.mk.injEq]at aN bc;obtain⟨rfl,ex⟩:=aN;obtain⟨rfl,nN⟩:=bc;obtain⟨ad,bt,bj⟩:=cU.a'.row (f:=a4.cells) a4.cq (j:=0) (show 0<2 by decide) (show 0<2 by decide);obtain⟨xp,vF,xe⟩:=cU.a'.row (f:=a4.cells) a4.cq (j:=1) (show 1<2 by decide) (show 1<2 by decide);have bt:agt=some ad:=bt;have vF:agt=some xp:=vF;subst bt;cases vF;exact⟨a6,rfl,ad,avQ,x,y,rfl,bj,xe,(cU.ds _ (.head _)).t,(cU.ds _ (.tail _ (.head _))).t,ex,nN⟩
def avR(bm:fr I kK){a:bf}(agu:vb I a)(agv:vb I b)(hw:0<=w/\w<256):vZ Tryz.prog 3 [a.val,b.val,.int .u8 w] I [] λv _ _=>v=.bool true:=by
 refine BA [] aT Tryz.func3 rfl rfl rfl ?_;intro B ax;have agw:Et I ⟨[],none,0,0⟩:=⟨⟨rfl,⟨cf _,bv⟩,.inl rfl⟩,λd aj=>t7⟩;refine bN.mk λVc ayz ayA=>?_;have agx:=avo (M0:=[⟨Vc,.cells ([a,b].flatMap bf.cells).toArray 24 (0,0)⟩]) agw (L:=[a,b]) (la:=some ⟨Vc,0,none⟩) (lc:=2) (λt au=>by
  rcases ez.1 au with rfl | au;·exact agu
  ·rw[ep.1 au];exact agv) (aoX (b:=Vc) (ts:=[a,b]) (.head _)) (by show 2<=1000;decide)
 refine a9.mk [_] [] _ (.refl _) agx ?_;rintro v J N -⟨⟨r,rfl,ag⟩,BI,ayB⟩;subst J;subst N;cases r with
 |true=>refine aS.mk (λ_=>?_) (λh=>ci);refine a9.mk [] _ _ (.refl _) (agb bm) ?_;rintro v iL N -⟨rfl,h1,rfl⟩;exact⟨_,_,.refl,rfl⟩
 |false=>
 refine aS.mk (λh=>ci) (λ_=>?_);have aw:=(ag rfl).2;have Gi:=aw a (.head _);have JW:=aw b (.tail _ (.head _));have a8:=agu.MI Gi;have ah:=agv.MI JW;refine bN.mk λagy avS ayC=>?_;have agz:=o3 I agy (.cells ([⟨⟨#[]⟩,a⟩,⟨⟨#[]⟩,b⟩].flatMap a4.cells).toArray 32 (0,0));have N9:∀ k o,I k=some o->ins I agy (.cells ([⟨⟨#[]⟩,a⟩,⟨⟨#[]⟩,b⟩].flatMap a4.cells).toArray 32 (0,0)) k=some o:=l9 avS;have agA:=avP (a8.mono N9) (ah.mono N9) Gi JW agz;refine a9.xF _ [] [] _ (.nG rfl am (.sub (eY _) .refl)) agA ?_;rintro v J N a6 -⟨-,rfl,ad,c,x,y,rfl,nv,Bf,ae,aF,yX,Bg⟩;have DA:∀ k o,I k=some o->J k=some o:=λk o h=>a6 _ _ (N9 _ _ h);have IZ:=bm.mono DA;have Vd:=a8.mono DA;have agB:=ah.mono DA;have rX:x.n<=1099511627776:=by
  have aa:x.aW.n=a.aW.n:=by rw[yX]
  have aa:x.n=a.n:=aa;have:=Gi.n;omega
 clear agA agz N9 agx agw;refine cN.VZ aT rfl rfl rfl (ι:=Nat×Nat) (λz=>{ bn:=[(2,.val (.int .u8 w)),(3,.ref 3 0),(4,.ref 4 0),(8,.val (ptr z.1)),(9,.val (ptr z.2))],cl:=[(3,a.cells),(4,b.cells)],cm:=J,cK:=[⟨z.1,.cells x.cells.toArray 24 (0,0)⟩,⟨z.2,.cells y.cells.toArray 24 (0,0)⟩] }) (λz=>True) ?_ ?_
 ·refine bi.mk ad 0 rfl rfl bv ?_;refine aJ.mk _ ((nv _).part (k:=1) (m:=2) bv) ?_;refine bi.mk ad 1 rfl rfl bv ?_;refine aJ.mk _ ((Bf _).part (k:=1) (m:=2) bv) ?_;refine⟨?_,?_⟩
  ·refine bN.mk λdx qK s7=>?_;refine bN.mk λb9 kI r3=>?_;refine b'.mk [⟨b9,.cells #[.slice none 0 0,.int .i64 0] 24 (0,0)⟩] [] _ _ rfl rfl (bJ rfl) rfl ?_;refine b'.mk [] [⟨dx,.cells x.cells.toArray 24 (0,0)⟩] _ _ rfl rfl (bJ rfl) rfl ?_;exact⟨(dx,b9),trivial,.perm (.swap _ _ _) .refl,fh,.cons rfl (.cons rfl (.nil))⟩
  ·refine bN.mk λb9 kI r3=>?_;refine bN.mk λdx qK s7=>?_;refine b'.mk [] [⟨b9,.cells #[.slice none 0 0,.int .i64 0] 24 (0,0)⟩] _ _ rfl rfl (bJ rfl) rfl ?_;refine b'.mk [⟨dx,.cells x.cells.toArray 24 (0,0)⟩] [] _ _ rfl rfl (bJ rfl) rfl ?_;exact⟨(dx,b9),trivial,.refl,fh,.cons rfl (.cons rfl (.nil))⟩
 rintro⟨dx,b9⟩-;refine bN.mk λJX ayD ayE=>?_;have Ve:∀ {K:aI} {M:List aD},(⟨dx,.cells x.cells.toArray 24 (0,0)⟩:aD)∈M->cG K M ⟨dx,0,none⟩ 2 x.cells:=λh=>⟨rfl,_,_,_,.inr ⟨_,h,rfl,rfl⟩,rfl,rfl⟩;have agC:∀ {K:aI} {M:List aD},(⟨b9,.cells y.cells.toArray 24 (0,0)⟩:aD)∈M->cG K M ⟨b9,0,none⟩ 2 y.cells:=λh=>⟨rfl,_,_,_,.inr ⟨_,h,rfl,rfl⟩,rfl,rfl⟩;have ew:=Gi.fit;have avT:=JW.fit;have jo:∀ j (h:j<6),∃ z:Int,0<=z/\∀ {K:aI} {M:List aD},(⟨JX,.cells ([w,0,1,2,3,4].map (Value.int .u8 ·)).toArray 5 (0,0)⟩:aD)∈M->cG K M ((⟨JX,0,none⟩:Addr).add (j*1)) 1 [.int .u8 z]:=λj h=>by
  match j,h with
  |0,_=>exact⟨w,hw.1,λh=>⟨rfl,_,_,_,.inr ⟨_,h,rfl,rfl⟩,rfl,rfl⟩⟩| 1,_=>exact⟨0,bv,λh=>⟨rfl,_,_,_,.inr ⟨_,h,rfl,rfl⟩,rfl,rfl⟩⟩| 2,_=>exact⟨1,bv,λh=>⟨rfl,_,_,_,.inr ⟨_,h,rfl,rfl⟩,rfl,rfl⟩⟩| 3,_=>exact⟨2,bv,λh=>⟨rfl,_,_,_,.inr ⟨_,h,rfl,rfl⟩,rfl,rfl⟩⟩| 4,_=>exact⟨3,bv,λh=>⟨rfl,_,_,_,.inr ⟨_,h,rfl,rfl⟩,rfl,rfl⟩⟩| 5,_=>exact⟨4,bv,λh=>⟨rfl,_,_,_,.inr ⟨_,h,rfl,rfl⟩,rfl,rfl⟩⟩
 have aM:∀ z,mu z a b=mu z x y:=λz=>by rw[<-U3 z x y,yX,Bg,U3]
 have avU:∀ {K:aI},(∀ b o,J b=some o->K b=some o)->∀ z:Int,0<=z->Spec Tryz.prog 18 [.int .u8 z,x.val,y.val] K [] λv nH N=>(∀ b o,K b=some o->nH b=some o)/\N=[]/\∃ (s:a5) (c:Bool),v=.tuple #[s.val,.bool c]/\Spec Tryz.prog 19 [.int .u8 z,a.val,b.val] nH [] λnr kr qV=>(∀ b o,nH b=some o->kr b=some o)/\qV=[]/\nr=.tuple #[s.val,.bool c]:=by intro K c7 z bg;refine Spec.jy (UD (M0:=[]) (IZ.mono c7) bg (ae.mono c7) (aF.mono c7) rX) ?_;rintro v nH N⟨N',rfl,an⟩;have jS:=an;obtain⟨s,c,rfl,-⟩:=jS;refine⟨N',rfl,s,c,rfl,Spec.jy (avx ((Vd.mono c7).mono N') ((agB.mono c7).mono N') ew avT z) ?_⟩;rintro nr kr qV⟨qU,rfl,jg⟩;rw[aM]at jg;exact⟨qU,rfl,jg.eq an⟩
 have aeB:fN a q3=fN x q3:=by unfold fN;rw[<-tV x,yX,tV,<-Gf x,yX,Gf]
 have avV:∀ {K:aI},(∀ b o,J b=some o->K b=some o)->Spec Tryz.prog 20 [x.val] K [] λv nH N=>(∀ b o,K b=some o->nH b=some o)/\N=[]/\∃ (s:a5) (c:Bool),v=.tuple #[s.val,.bool c]/\Spec Tryz.prog 21 [a.val] nH [] λnr kr qV=>(∀ b o,nH b=some o->kr b=some o)/\qV=[]/\nr=.tuple #[s.val,.bool c]:=by intro K c7;refine Spec.jy (Uz (M0:=[]) (IZ.mono c7) (ae.mono c7)) ?_;rintro v nH N⟨N',rfl,an⟩;subst nH;have jS:=an;obtain⟨s,c,rfl,-⟩:=jS;refine⟨λ_ _ h=>h,rfl,s,c,rfl,Spec.jy (U6 (M0:=[]) (Vd.mono c7) ew) ?_⟩;rintro nr kr qV⟨qU,rfl,jg⟩;subst kr;rw[aeB]at jg;exact⟨λ_ _ h=>h,rfl,jg.eq an⟩
 refine c2.inv (ι:=Nat×aI) (λz=>{ bn:=[(2,.val (.int .u8 w)),(3,.ref 3 0),(4,.ref 4 0),(8,.val (ptr dx)),(9,.val (ptr b9)),(44,.val (.slice (some ⟨JX,0,none⟩) 6 6)),(45,.val (.int .i64 6)),(46,.val (.int .i64 (z.1:Int)))],cl:=[(3,a.cells),(4,b.cells)],cm:=z.2,cK:=[⟨JX,.cells ([w,0,1,2,3,4].map (Value.int .u8 ·)).toArray 5 (0,0)⟩,⟨dx,.cells x.cells.toArray 24 (0,0)⟩,⟨b9,.cells y.cells.toArray 24 (0,0)⟩] }) (λz=>z.1<=6/\∀ b o,J b=some o->z.2 b=some o) (λz=>6-z.1) ?_ ?_
 ·exact⟨(0,J),⟨dh _,λ_ _ h=>h⟩,.refl,kd,.cons rfl (.cons rfl (.nil))⟩
 rintro⟨i,K⟩⟨hi,c7⟩;simp only at hi c7;refine aS.mk (λh=>?_) (λh=>?_)
 ·have aV:i<6:=by have:(i:Int)<6:=cv h;omega
  obtain⟨z,avW,avX⟩:=jo i aV;refine bi.mk ⟨JX,0,none⟩ i rfl rfl aV ?_;refine aJ.mk _ (avX (.head _)) ?_;refine aJ.mk _ (Ve (.tail _ (.head _))) ?_;refine aJ.mk _ (agC (.tail _ (.tail _ (.head _)))) ?_;refine a9.mk [] _ _ (.refl _) (avU c7 z avW) ?_;rintro v kr N qU⟨-,rfl,s,c,rfl,rl⟩;refine a9.mk [] _ _ (.refl _) rl ?_;rintro v Vf N IP⟨-,rfl,rfl⟩;refine avM ?_;refine bZ.mk (λ_=>?_) (λh=>ci);refine aS.mk (λh=>absurd h am) (λ_=>?_);refine a3.mk _ (cC (i:=i) Z) ?_;exact⟨(i+1,Vf),⟨⟨aV,λb o h=>IP _ _ (qU _ _ (c7 _ _ h))⟩,ce⟩,.refl,kd,.cons rfl (.cons rfl (.nil))⟩
 ·refine aJ.mk _ (Ve (.tail _ (.head _))) ?_;refine a9.mk [] _ _ (.refl _) (avV c7) ?_;rintro v kr N qU⟨-,rfl,s,c,rfl,rl⟩;refine a9.mk [] _ _ (.refl _) rl ?_;rintro v Vf N IP⟨-,rfl,rfl⟩;have JY:∀ b o,J b=some o->Vf b=some o:=λb o h=>IP _ _ (qU _ _ (c7 _ _ h));refine fm.RO ?_;refine bZ.mk (λ_=>?_) (λh=>absurd h am);refine bZ.mk (λ_=>?_) (λh=>absurd h am);refine aJ.mk _ (Ve (.tail _ (.head _))) ?_;refine a9.mk [] _ _ (.refl _) (agq (M0:=[]) (ae.mono JY) (Vd.mono JY) yX) ?_;rintro v Oa N -⟨rfl,agD,rfl⟩;subst Oa;refine bZ.mk (λ_=>?_) (λh=>ci);refine aJ.mk _ (agC (.tail _ (.tail _ (.head _)))) ?_;refine a9.mk [] _ _ (.refl _) (agq (M0:=[]) (aF.mono JY) (agB.mono JY) Bg) ?_;rintro v Oa N -⟨rfl,agD,rfl⟩;subst Oa;refine bZ.mk (λ_=>?_) (λh=>ci);refine a9.mk [] _ _ (.refl _) (agb (IZ.mono JY)) ?_;rintro v Oa N -⟨rfl,agD,rfl⟩;exact⟨_,_,.refl,rfl⟩
end Go.V
