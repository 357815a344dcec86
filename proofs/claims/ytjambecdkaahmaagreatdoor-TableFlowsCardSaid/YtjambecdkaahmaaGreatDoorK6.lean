/- Part 6 of what the proofs of this seat share: the executor, data in memory, walks.
-/
import Derived.Test.YtjambecdkaahmaaGreatDoorK5
import Derived.Test.YtjambecdkaahmaaGreatDoorK3
import Derived.Test.YtjambecdkaahmaaGreatDoorK4
set_option linter.all false
namespace Go.V
open Go
def lZ:=@List.mem_cons_of_mem
def sm:=@List.append_of_mem
def w5:=@Nat.add_eq
def LR:=@List.filter_append
def AZ:=@Nat.mul_eq
def A0:=@Nat.sub_eq
variable{dq:IntKind}{t e j sz off hA g clock cc bI f:Nat}{x y oq os lo hi mx:Operand}{us cs xs rj ct:List Value}{op:BinOp}{K:Value->Prop}{O:Prop}{I:aS}{M:List ay}{α R:Type}{a:Loc}{b:Bool}{dc ut:Option dz}{P:Program}{u w j9:Value}{aD lF:dz}{E:Env}{r dst:Option Nat}{args:Array Operand}{ts:Array Nat}{D bm Ha:bp}{eS:a8 fe}{cv:fe}{mb:TypeDesc}{a3:Option Addr}{F dE:Fr}{call:ak->List ak->bi->Option (ak×bi)}{ops:List Oper}{β:Nat->Nat}{X:cD}{Q:Exit->Act->World->Prop}{Y:fE}{row:List (Nat×Nat)}{ps:List Nat}{eC body:Code}
def acr{k:IntKind}(h:IntKind.jU k dq=true):k=dq:=IntKind.zw h
def Hb(l m:List UInt8):decide ((⟨l.toArray⟩:ByteArray)=⟨m.toArray⟩)=decide (l=m):=by
 simp only[Gu];constructor
 ·intro h;simpa using h
 ·rintro rfl;rfl
def acs(a b:ByteArray):(a == b)=decide (a=b):=by
 rw[l2];simp only[e0];constructor
 ·intro h
  first | exact eq_of_beq h | exact ry (eq_of_beq (a:=a.data) (b:=b.data) h)
 ·rintro rfl
  first | exact Br _ | exact Br a.data
section
variable{P:Program}{E:Env}{D:bp}
def Hc(aE:cE P E){o:Nat}{l:List ak}{x:ak}(h:rf E t o l=some x)(ar:bx D l us):∃ u,aI D x u/\∀ w,(part t us.toArray o).run P w=.ok u w:=by
 unfold rf at h;obtain⟨i,U,h⟩:=ck h;obtain⟨ao,h⟩:=w0 h;have hp:i.size≠0:=λe=>by rw[e]at ao;cases ao
 obtain⟨r,aa,h⟩:=ck h;obtain⟨aw,aB⟩:=S9 aa;rw[G5]at aw;have bV:=ar.len;subst aw;refine⟨_,G9 h ((ar.drop o).take _),λw=>?_⟩;have:=Ik (aE _ _ U) (cs:=us.toArray) (off:=o) (by rw[ma,vR]at aB;simp;omega) w;simpa using this
def LS{F:Nat->ak->ak->Option Bool}{l m:List ak}{α β:Type}{pl:α->Nat×Nat}{g:α->β->Sem (ForInStep β)}{dJ s1:β}{w:World}:∀ (L:List α) {b:Bool},yN F E l m (L.map pl)=some b -> (∀ a∈L,∀ x y c,rf E (pl a).1 (pl a).2 l=some x->rf E (pl a).1 (pl a).2 m=some y->F (pl a).1 x y=some c->(g a dJ).run P w=.ok (if c then .yield dJ else .done s1) w) -> (forIn L dJ g).run P w=.ok (if b then dJ else s1) w
 |[],b,h,_=>by cases h;simp[cG]
 |a::L,b,h,aA=>by
  simp only[dV]at h;unfold yN at h;obtain⟨x,U,h⟩:=ck h;obtain⟨y,aa,h⟩:=ck h;obtain⟨c,af,h⟩:=ck h;simp only[List.forIn_cons,bZ];rw[aA a (by simp) x y c U aa af];rw[iH]at h;cases c with
  |true=>simp only[qp,bK];exact LS L h λbS aC=>aA bS (by simp[aC])
  |false=>cases h;simp[bK,cG]
def LU(aE:cE P E):∀ (d:Nat) {t:Nat} {x y:ak} {b:Bool} {u v:Value},qe P E d t x y=some b->aI D x u->aI D y v->∀ n,d<=n->∀ w,(Op.equalIn n t u v).run P w=.ok b w
 |0,t,x,y,b,u,v,h,ab,aN,n,ax,w=>by cases h
 |d+1,t,x,y,b,u,v,h,ab,aN,0,ax,w=>by omega
 |d+1,t,x,y,b,u,v,h,ab,aN,n+1,ax,w=>by
  unfold qe at h;obtain⟨i,hi,h⟩:=ck h;obtain⟨nU,eM,lB⟩:=(aE _ _ hi).eJ;rw[Op.equalIn];simp only[bZ,run_underlying eM,bK];split at h
  ·rename_i a bS ap _;cases h;have aT:nU=.bool:=by cases nU<;>simp_all[eD]
   subst aT;rw[ab.bool,aN.bool];rfl
  ·rename_i dq k a bL bS ap _;obtain⟨aw,h⟩:=fF h;cases h;have aT:nU=.int dq:=by cases nU<;>simp_all[eD]
   subst aT;rw[ab.int,aN.int];rw[acr aw];have ai:(a == bS)=gV a bS:=by
    rw[yU];by_cases e:a=bS;·subst e;simp
    ·simp[e]
   simp[ai]
  ·rename_i a bS ap _;cases h;have aT:nU=.string:=by cases nU<;>simp_all[eD]
   subst aT;rw[ab.str,aN.str];show Result.ok _ _=_;rw[AX,<-Hb];congr 1;exact acs _ _
  ·rename_i b' l m ap _;obtain⟨aw,h⟩:=fF h;unfold Lc at aw;rw[eM]at aw;cases nU with
   |struct fields=>
    simp only[b3,nw,gi,e0]at aw;obtain⟨aw,aB⟩:=aw;rw[ap]at lB;simp only[eD,Bw.struct.injEq]at lB;subst lB;obtain⟨us,U,rfl⟩:=ab.agg;obtain⟨ws,aa,rfl⟩:=aN.agg;simp only[bZ,run_program,bK,aw,jw,j8];rw[<-Array.forIn_toList];rw[LS (P:=P) (s1:=⟨some false,⟨⟩⟩) fields.toList h (λf az x y c tv q9 aL=>by
     obtain⟨p,dO,bL⟩:=Hc aE tv U;obtain⟨q,fB,k7⟩:=Hc aE q9 aa;have aO:=LU aE d aL dO fB n (by omega) w;simp only[aB f az,qp,ne_eq,not_false_eq_true,bZ,bL,k7,bK,aO];cases c<;>simp[cG])]
    cases b<;>simp[bK,cG]
   |_=>cases aw
  ·rename_i len e l m ap _;obtain⟨aD,gH,h⟩:=ck h;have aT:nU=.array len e:=by cases nU<;>simp_all[eD]
   subst aT;obtain⟨us,U,rfl⟩:=ab.agg;obtain⟨ws,aa,rfl⟩:=aN.agg;simp only[bZ,(aE _ _ gH).run_sizeOf,bK,Og];have al:List.range' 0 ([:len]:Std.Legacy.Range).size=List.range len:=by simp[Std.Legacy.Range.size,H4]
   rw[al];rw[LS (P:=P) (s1:=⟨some false,⟨⟩⟩) (List.range len) h (λf az x y c tv q9 aL=>by
    obtain⟨p,dO,bL⟩:=Hc aE tv U;obtain⟨q,fB,k7⟩:=Hc aE q9 aa;have aO:=LU aE d aL dO fB n (by omega) w;simp only[bZ,bL,k7,bK,aO];cases c<;>simp[cG])]
   cases b<;>simp[bK,cG]
  ·cases h
end
section
variable{X:cD}{D:bp}
def Tb(aE:cE X.P X.E){l m:List ak}{v:ak}{ws:List Value}(h:Dp X.P X.E op t l m=some v)(ar:bx D l us)(hm:bx D m ws)(ae:∀ u,aI D v u->K u) :
  fh X.P op t x y (.val (.agg us.toArray)) (.val (.agg ws.toArray)) K O:=by
 unfold Dp at h;obtain⟨aA,h⟩:=w0 h;obtain⟨b,U,h⟩:=ck h;have aO:=LU (D:=D) aE 8 U (u:=.agg us.toArray) (v:=.agg ws.toArray) (by simp only[aI];exact⟨us,ar,rfl⟩) (by simp only[aI];exact⟨ws,hm,rfl⟩) Op.maxDepth (by decide);split at h
 ·cases h;refine .mk _ _ _ rfl rfl (λw=>?_) (ae _ (by simp only[aI];rfl));simp only[bZ,run_eqGuard_agg (hm:=aA),bK,binOp,Op.equal,aO,cG]
 ·cases h;refine .mk _ _ _ rfl rfl (λw=>?_) (ae _ (by simp only[aI];rfl));simp only[bZ,run_eqGuard_agg (hm:=aA),bK,binOp,Op.equal,aO,cG]
 ·cases h
end
open Go Go.Proofs
def kZ(x y:Int):Int:=IntKind.u64.wrap ((BitVec.ofInt 64 x ||| BitVec.ofInt 64 y).toNat:Int)
def w6(x y:BitVec 64):kZ x.toNat y.toNat=((x ||| y).toNat:Int):=by unfold kZ;rw[GF,GF,abV]
def acu(x y:bw):Nat->List Value
 |0=>[.int .u64 x.a.toNat,.int .u64 x.b.toNat,.int .u64 x.c.toNat,.int .u64 x.d.toNat]| 1=>[.int .u64 (kZ x.a.toNat y.a.toNat),.int .u64 x.b.toNat,.int .u64 x.c.toNat,.int .u64 x.d.toNat]| 2=>[.int .u64 (kZ x.a.toNat y.a.toNat),.int .u64 (kZ x.b.toNat y.b.toNat),.int .u64 x.c.toNat,.int .u64 x.d.toNat]| 3=>[.int .u64 (kZ x.a.toNat y.a.toNat),.int .u64 (kZ x.b.toNat y.b.toNat),.int .u64 (kZ x.c.toNat y.c.toNat),.int .u64 x.d.toNat]| _=>[.int .u64 (kZ x.a.toNat y.a.toNat),.int .u64 (kZ x.b.toNat y.b.toNat),.int .u64 (kZ x.c.toNat y.c.toNat),.int .u64 (kZ x.d.toNat y.d.toNat)]
def Tc(x y:bw):Spec Tryz.prog 232 [x.val,y.val] I M λr I' M'=>r=(x.or y).val/\I'=I/\M'=M:=by
 refine bX [] aV Tryz.func232 rfl rfl rfl ?_;intro B ao;refine dB.inv (ι:=Nat) (λi=>{ bj:=[(2,.ref 2 0),(4,.ref 4 0),(7,.val y.val),(8,.val (.int .i64 i))],cl:=[(2,acu x y i),(4,bw.zero.cells)],c5:=I,dv:=M }) (λi=>i<=4) (λi=>4-i) ?_ ?_
 ·exact⟨0,by simp,.refl,ew,.cons rfl (.cons rfl .nil)⟩
 ·intro i hi
  match i,hi with
  |0,_=>refine a0.mk (λ_=>?_) (λh=>by simp at h);refine cH.mk 0 rfl (by decide) ?_;refine cH.mk 0 rfl (by decide) ?_;refine cH.mk 0 rfl (by decide) ?_;refine a5.mk 1 (by decide) ?_;exact⟨1,⟨by simp,by simp⟩,.refl,ew,.cons rfl (.cons rfl .nil)⟩| 1,_=>refine a0.mk (λ_=>?_) (λh=>by simp at h);refine cH.mk 1 rfl (by decide) ?_;refine cH.mk 1 rfl (by decide) ?_;refine cH.mk 1 rfl (by decide) ?_;refine a5.mk 2 (by decide) ?_;exact⟨2,⟨by simp,by simp⟩,.refl,ew,.cons rfl (.cons rfl .nil)⟩| 2,_=>refine a0.mk (λ_=>?_) (λh=>by simp at h);refine cH.mk 2 rfl (by decide) ?_;refine cH.mk 2 rfl (by decide) ?_;refine cH.mk 2 rfl (by decide) ?_;refine a5.mk 3 (by decide) ?_;exact⟨3,⟨by simp,by simp⟩,.refl,ew,.cons rfl (.cons rfl .nil)⟩| 3,_=>refine a0.mk (λ_=>?_) (λh=>by simp at h);refine cH.mk 3 rfl (by decide) ?_;refine cH.mk 3 rfl (by decide) ?_;refine cH.mk 3 rfl (by decide) ?_;refine a5.mk 4 (by decide) ?_;exact⟨4,⟨by simp,by simp⟩,.refl,ew,.cons rfl (.cons rfl .nil)⟩| 4,_=>refine a0.mk (λh=>by simp at h) (λ_=>?_);refine⟨_,_,.refl,?_,rfl,rfl⟩;show Value.agg #[.int .u64 (kZ x.a.toNat y.a.toNat),.int .u64 (kZ x.b.toNat y.b.toNat),.int .u64 (kZ x.c.toNat y.c.toNat),.int .u64 (kZ x.d.toNat y.d.toNat)]=_;rw[w6,w6,w6,w6];rfl
def acv(x y:BitVec 64):gV (x.toNat:Int) (y.toNat:Int)=decide (x=y):=by rw[yU,<-abW,l2];simp
def A1(v:α)(x:R)(f:α->R):bN (some v) x f=f v:=rfl
def acw(en cc dd df kL bI cx dx:Int)(f g:Bool):qe Tryz.prog jI 8 51 (.a [.i .u64 en,.i .u64 cc,.i .u64 dd,.i .u64 df,.b f]) (.a [.i .u64 kL,.i .u64 bI,.i .u64 cx,.i .u64 dx,.b g])=some (gV en kL&&(gV cc bI&&(gV dd cx&&(gV df dx&&(f == g))))):=by
 obtain⟨i67,acx,acy⟩:∃ i,jI 51=some i/\i.bz=.struct [(49,0),(4,4)]:=⟨_,rfl,rfl⟩;obtain⟨i65,acz,acA,aiC⟩:∃ i,jI 49=some i/\i.bz=.array 4 47/\i.size=4:=⟨_,rfl,rfl,rfl⟩;obtain⟨i63,zO,acB,acC⟩:∃ i,jI 47=some i/\i.bz=.int .u64/\i.size=1:=⟨_,rfl,rfl,rfl⟩;obtain⟨i4,aR,acD,aiD⟩:∃ i,jI 4=some i/\i.bz=.bool/\i.size=1:=⟨_,rfl,rfl,rfl⟩;have aG:Lc Tryz.prog 51=true:=by kernel_rfl
 have al:List.range 4=[0,1,2,3]:=rfl;have aO:∀ k a b,qe Tryz.prog jI (k+1) 47 (.i .u64 a) (.i .u64 b)=some (gV a b):=λk a b=>by simp only[qe,zO,A1,acB];rfl
 have ai:∀ k a b,qe Tryz.prog jI (k+1) 4 (.b a) (.b b)=some (a == b):=λk a b=>by simp only[qe,aR,A1,acD]
 have fj:∀ k,qe Tryz.prog jI (k+2) 49 (.a [.i .u64 en,.i .u64 cc,.i .u64 dd,.i .u64 df]) (.a [.i .u64 kL,.i .u64 bI,.i .u64 cx,.i .u64 dx])=some (gV en kL&&(gV cc bI&&(gV dd cx&&gV df dx))):=λk=>by rw[qe];simp only[acz,A1,acA,zO,acC,al,dV,mU];have rk:∀ jK eE eL h3,rf jI 47 (0*1) [.i .u64 jK,.i .u64 eE,.i .u64 eL,.i .u64 h3]=some (.i .u64 jK):=λ_ _ _ _=>rfl;have m3:∀ jK eE eL h3,rf jI 47 (1*1) [.i .u64 jK,.i .u64 eE,.i .u64 eL,.i .u64 h3]=some (.i .u64 eE):=λ_ _ _ _=>rfl;have o5:∀ jK eE eL h3,rf jI 47 (2*1) [.i .u64 jK,.i .u64 eE,.i .u64 eL,.i .u64 h3]=some (.i .u64 eL):=λ_ _ _ _=>rfl;have ym:∀ jK eE eL h3,rf jI 47 (3*1) [.i .u64 jK,.i .u64 eE,.i .u64 eL,.i .u64 h3]=some (.i .u64 h3):=λ_ _ _ _=>rfl;simp only[yN,rk,m3,o5,ym,A1,aO,iH];cases gV en kL<;>cases gV cc bI<;>cases gV dd cx<;>cases gV df dx<;>rfl
 rw[qe];simp only[acx,A1,acy,aG];have rk:∀ jK eE eL h3 uU,rf jI 49 0 [.i .u64 jK,.i .u64 eE,.i .u64 eL,.i .u64 h3,uU]=some (.a [.i .u64 jK,.i .u64 eE,.i .u64 eL,.i .u64 h3]):=λ_ _ _ _ _=>rfl;have m3:∀ jK eE eL h3 uU,rf jI 4 4 [.i .u64 jK,.i .u64 eE,.i .u64 eL,.i .u64 h3,uU]=some uU:=λ_ _ _ _ _=>rfl;simp only[yN,rk,m3,A1,fj,ai,iH];cases gV en kL<;>cases gV cc bI<;>cases gV dd cx<;>cases gV df dx<;>cases f<;>cases g<;>rfl
def a7.jU(x y:a7):(gV x.w.a.toNat y.w.a.toNat&&(gV x.w.b.toNat y.w.b.toNat&&(gV x.w.c.toNat y.w.c.toNat&&(gV x.w.d.toNat y.w.d.toNat&&(x.f == y.f)))))=decide (x=y):=by obtain⟨⟨a,b,c,d⟩,f⟩:=x;obtain⟨⟨bS,hX,c',CT⟩,Cj⟩:=y;simp only[acv];rw[l2];simp[and_assoc]
def a7.Td(D:bp)(x:a7):bx D [.i .u64 x.w.a.toNat,.i .u64 x.w.b.toNat,.i .u64 x.w.c.toNat,.i .u64 x.w.d.toNat,.b x.f] x.cells:=by simp[bx,aI,a7.cells]
def fh.acE{p q:a7}{V:Value->Prop}{other:Prop}(h:V (.bool (!decide (p=q)))) :
  fh Tryz.prog .neq 51 x y (.val (.agg #[.int .u64 p.w.a.toNat,.int .u64 p.w.b.toNat,.int .u64 p.w.c.toNat,.int .u64 p.w.d.toNat,.bool p.f])) (.val (.agg #[.int .u64 q.w.a.toNat,.int .u64 q.w.b.toNat,.int .u64 q.w.c.toNat,.int .u64 q.w.d.toNat,.bool q.f])) V other:=by
 refine Tb (X:=⟨Tryz.prog,jI,[],0,0,default,λ_=>none,[],none⟩) (D:=λ_=>none) (v:=.b (!decide (p=q))) aV ?_ (a7.Td _ p) (a7.Td _ q) (λu hu=>by simp only[aI]at hu;rw[hu];exact h);show Dp Tryz.prog jI .neq 51 _ _=_;unfold Dp;rw[acw,a7.jU,show Tryz.prog.eqGuardType Tryz.prog.depth 51=false by kernel_rfl];rfl
def acF(x y:a7):Spec Tryz.prog 214 [x.val,y.val] I M λr I' M'=>r=(x.seq y).val/\I'=I/\M'=M:=by
 obtain⟨sp,DE⟩:=x;refine bX [] aV Tryz.func214 rfl rfl rfl ?_;intro B ao;refine a0.mk (λh=>?_) (λh=>?_)
 ·have az:DE=false:=by simpa using h
  subst az;exact⟨_,_,.refl,rfl,rfl,rfl⟩
 have az:DE=true:=by simpa using h
 subst az;refine cW.draw aV rfl rfl rfl ?_;refine fi.lC M [] _ perm_nil (Tc sp y.w) (λv I' M' h x ab=>by rw[h.2.2];exact ab) ?_;rintro v I' M' -⟨rfl,rfl,rfl⟩;rw[dF];exact⟨_,_,.refl,rfl,rfl,rfl⟩
def acG(x y:a7):Spec Tryz.prog 215 [x.val,y.val] I M λr I' M'=>r=(x.choice y).val/\I'=I/\M'=M:=by
 obtain⟨sp,DE⟩:=x;refine bX [] aV Tryz.func215 rfl rfl rfl ?_;intro B ao;refine cW.draw aV rfl rfl rfl ?_;refine fi.lC M [] _ perm_nil (Tc sp y.w) (λv I' M' h x ab=>by rw[h.2.2];exact ab) ?_;rintro v I' M' -⟨rfl,rfl,rfl⟩;rw[dF];refine cB.mk (λh=>?_) (λh=>?_)
 all_goals
  have az:DE=_:=h;subst az;exact⟨_,_,.refl,rfl,rfl,rfl⟩
abbrev dg(X:cD)(G:GT)(pr:j3):fE:=⟨X.P,X.E,G,pr⟩
section
variable{X:cD}{G:GT}{pr:j3}{D:bp}{m:bi}{F:Fr}{aj:a8 ak}{C:c2}{I:aS}{M:List ay}{V:c6->Prop}{O:Prop}
def mH{a b:α}(h:some a=some b):a=b:=by cases h;rfl
def acH{k:IntKind}{a b:Int}{v:ak}(h:K' op k dq a b=some v)(ae:∀ u,aI D v u->K u):jV op dc (.val (.int k a)) (.val (.int dq b)) K O:=by
 have mk:∀ {q:ak} {u:Value},some q=some v->aI D q u->K u:=λe hu=>ae _ (mH e ▸ hu);unfold K' at h;split at h
 ·split at h
  ·rename_i j;refine⟨j,rfl,⟨_,rfl,mk h ?_⟩⟩;simp only[aI];rw[w1,aco,iH,S7]
  ·cases h
 ·split at h
  ·rename_i j;refine⟨j,rfl,mk h ?_⟩;simp only[aI];rw[acp,iH,S7]
  ·cases h
 all_goals obtain⟨aO,h⟩:=fF h
 all_goals simp only[jV,aO,bh]
 ·exact⟨_,rfl,mk h (by simp only[aI];rw[w1,aci])⟩
 ·exact⟨_,rfl,mk h (by simp only[aI];rw[w1,acj])⟩
 ·exact⟨_,rfl,mk h (by simp only[aI];rw[w1,ack])⟩
 ·obtain⟨ao,h⟩:=w0 h;refine⟨λe=>?_,_,rfl,mk h (by simp only[aI];rw[w1,acm])⟩;rw[yU,e]at ao;simp at ao
 ·obtain⟨ao,h⟩:=w0 h;refine⟨λe=>?_,mk h (by simp only[aI];rw[acn])⟩;rw[yU,e]at ao;simp at ao
 ·obtain⟨r,al,h⟩:=ck h;rw[G3 al];exact mk h (by simp only[aI])
 ·obtain⟨r,al,h⟩:=ck h;rw[G3 al];exact mk h (by simp only[aI])
 ·obtain⟨r,al,h⟩:=ck h;rw[G3 al];exact mk h (by simp only[aI])
 ·obtain⟨r,al,h⟩:=ck h;rw[G3 al];exact mk h (by simp only[aI])
 ·obtain⟨r,al,h⟩:=ck h;rw[ach]at al;have ag:v=.b r:=(mH h).symm;subst ag;have jv:K (.bool r):=ae _ (by simp only[aI]);cases op<;>first
   |contradiction|(rw[al];exact jv)
def LV(b:Bool):bR b false true=!b:=by cases b<;>rfl
def acI{a b:List UInt8}{v:ak}(h:La op a b=some v)(ae:∀ u,aI D v u->K u) :
  jV op dc (.val (.string ⟨a.toArray⟩)) (.val (.string ⟨b.toArray⟩)) K (fh P op t x y (.val (.string ⟨a.toArray⟩)) (.val (.string ⟨b.toArray⟩)) K O):=by
 unfold La at h;split at h
 ·cases h;refine ae _ ?_;simp only[aI];rw[Hb,AX]
 ·cases h;refine ae _ ?_;simp only[aI];rw[Hb,AX,LV]
 ·obtain⟨ar,h⟩:=fF h;cases h;have oJ:=bJ ar;refine fh.concat (by simpa[ByteArray.size]using oJ) (ae _ ?_);simp only[aI];congr 1
 ·cases h
def acJ{a:Bool}{v:ak}(h:Lb op dc a b=some v)(ae:∀ u,aI D v u->K u):jV op dc (.val (.bool a)) (.val (.bool b)) K O:=by
 unfold Lb at h;split at h
 ·split at h
  ·cases h;exact ae _ (by simp only[aI])
  ·cases h;exact ae _ (by simp only[aI])
  ·cases h
 ·cases h
def acK{x:ak}(h:Ld x=some b)(hu:aI D x u):∃ a n c,u=.slice a n c/\b=a.isNone:=by
 cases x<;>simp only[Ld,iJ,reduceCtorEq]at h<;>subst h<;>simp only[aI]at hu
 ·exact⟨_,_,_,hu,rfl⟩
 ·obtain⟨a,-,hu⟩:=hu;exact⟨_,_,_,hu,rfl⟩
 ·obtain⟨a,-,-,hu⟩:=hu;exact⟨_,_,_,hu,rfl⟩
 ·exact⟨_,_,_,hu,rfl⟩
 ·obtain⟨a,c,hu⟩:=hu;exact⟨_,_,_,hu,rfl⟩
def acL{x:ak}(h:Le x=some b)(hu:aI D x u):∃ p,u=.pointer p/\b=p.isNone:=by
 cases x<;>simp only[Le,iJ,reduceCtorEq]at h<;>subst h<;>simp only[aI]at hu
 ·exact⟨_,hu,rfl⟩
 ·obtain⟨a,-,hu⟩:=hu;exact⟨_,hu,rfl⟩
 ·exact⟨_,hu,rfl⟩
def acM(h:P.underlying t=some (.slice e))(a:Option Addr)(n c:Nat)(w:World):(Op.equal t (.slice a n c) (.slice none 0 0)).run P w=.ok a.isNone w:=by
 have key:∀ d,(Op.equalIn (d+1) t (.slice a n c) (.slice none 0 0)).run P w=.ok a.isNone w:=λd=>by cases a<;>simp[Op.equalIn,run_underlying h]
 exact key 9999
def acN(h:P.underlying t=some (.pointer e))(p:Option Addr)(w:World):(Op.equal t (.pointer p) (.pointer none)).run P w=.ok p.isNone w:=by
 have key:∀ d,(Op.equalIn (d+1) t (.pointer p) (.pointer none)).run P w=.ok p.isNone w:=λd=>by cases p<;>simp[Op.equalIn,run_underlying h]
 exact key 9999
def Te{v:ak}{p q:Value}(aA:∀ w,op=.eql\/op=.neq->(eqGuard op t x y p q).run P w=.ok () w)(he:∀ w,(Op.equal t p q).run P w=.ok b w)(ai:∀ w,(binOp .eql t p q).run P w=.ok (.bool b) w)(ax:∀ w,(binOp .neq t p q).run P w=.ok (.bool (!b)) w)(h:GL op b=some v)(ae:∀ u,aI D v u->K u):fh P op t x y (.val p) (.val q) K O:=by
 unfold GL at h;split at h
 ·cases h;refine .mk p q (.bool b) rfl rfl (λw=>?_) (ae _ (by simp only[aI]));simp only[bZ,aA w (.inl rfl),bK,ai w]
 ·cases h;refine .mk p q (.bool (!b)) rfl rfl (λw=>?_) (ae _ (by simp only[aI]));simp only[bZ,aA w (.inr rfl),bK,ax w]
 ·cases h
def acO(aE:cE X.P X.E){x y v:ak}{acP:Operand}(h:Lf X.P X.E op t x y=some v)(ab:aI D x u)(aN:aI D y w)(ae:∀ u,aI D v u->K u) :
  jV op (X.E t) (.val u) (.val w) K (fh X.P op t oq acP (.val u) (.val w) K O):=by
 unfold Lf at h;split at h
 ·rw[ab.int,aN.int];exact acH h ae
 ·rw[ab.str,aN.str];exact acI h ae
 ·rw[ab.bool,aN.bool];exact acJ h ae
 ·obtain⟨us,U,rfl⟩:=ab.agg;obtain⟨ws,aa,rfl⟩:=aN.agg;exact Tb aE h U aa ae
 ·obtain⟨i,hi,h⟩:=ck h;split at h
  ·rename_i e lB;obtain⟨b,U,h⟩:=ck h;obtain⟨a,n,c,rfl,rfl⟩:=acK U ab;simp only[aI]at aN;subst aN;obtain⟨d,eM,e4⟩:=(aE _ _ hi).eJ;have aa:d=.slice e:=by rw[lB]at e4;cases d<;>simp_all[eD]
   subst aa;have he:=acM eM a n c;exact Te (λw aq=>by rcases aq with rfl | rfl<;>(unfold eqGuard;rfl)) he (λw=>by simp only[binOp];simp[he w]) (λw=>by simp only[binOp];simp[he w]) h ae
  ·cases h
 ·obtain⟨i,hi,h⟩:=ck h;split at h
  ·rename_i e lB;obtain⟨b,U,h⟩:=ck h;obtain⟨p,rfl,rfl⟩:=acL U ab;simp only[aI]at aN;subst aN;obtain⟨d,eM,e4⟩:=(aE _ _ hi).eJ;have aa:d=.pointer e:=by rw[lB]at e4;cases d<;>simp_all[eD]
   subst aa;have he:=acN eM p;exact Te (λw aq=>by rcases aq with rfl | rfl<;>(unfold eqGuard;rfl)) he (λw=>by simp only[binOp];simp[he w]) (λw=>by simp only[binOp];simp[he w]) h ae
  ·cases h
 ·cases h
variable(aE:cE X.P X.E)(hm:cR (dg X G pr) D m I M)
def A2{v:ak}{n:Nat}(h:v.nat=some n):∃ k,v=.i k (.ofNat n):=by
 unfold ak.nat at h;split at h
 ·cases h;exact⟨_,rfl⟩
 ·cases h
def Tf{x v:ak}{n:Nat}(h:Dq x n=some v)(ab:aI D x u):∃ a,u=.pointer (some a)/\a.spot=none/\aI D v (.pointer (some (a.add n))):=by
 unfold Dq at h;split at h
 ·cases h;obtain⟨a,aC,rfl⟩:=ab.ptr;refine⟨_,rfl,rfl,?_⟩;rw[dS _ rfl];simp only[aI];exact⟨a,aC,by simp only[w5,oA]⟩
 ·cases h;refine⟨_,ab.oj,rfl,?_⟩;rw[dS _ rfl];simp only[aI];rfl
 ·cases h
def acQ{x v:ak}(h:GM x j sz=some v)(ab:aI D x u):∃ a n c,u=.slice (some a) n c/\j<n/\aI D v (.pointer (some (a.add (j*sz)))):=by
 unfold GM at h;split at h
 ·cases ai:Nat.blt j _ with
  |false=>rw[ai]at h;cases h| true=>rw[ai]at h;cases h;obtain⟨a,aC,rfl⟩:=ab.qh;refine⟨_,_,_,rfl,bJ ai,?_⟩;rw[dS _ rfl];simp only[aI];exact⟨a,aC,by simp only[w5,AZ,oA]⟩
 ·cases ai:Nat.blt j _ with
  |false=>rw[ai]at h;cases h| true=>rw[ai]at h;cases h;obtain⟨a,aC,_,rfl⟩:=ab.sk;refine⟨_,_,_,rfl,bJ ai,?_⟩;rw[dS _ rfl];simp only[aI];exact⟨a,aC,by simp only[w5,AZ,oA]⟩
 ·cases ai:Nat.blt j _ with
  |false=>rw[ai]at h;cases h| true=>rw[ai]at h;cases h;refine⟨_,_,_,ab.LO,bJ ai,?_⟩;rw[dS _ rfl];simp only[aI];rfl
 ·cases h
def Tg{cs:List ak}{v:ak}(h:GO aD cs off=some v)(aL:bx D cs us) :
  off+aD.size<=us.length/\aI D v (pack aD.bz.agg ((us.drop off).take aD.size)):=by
 unfold GO at h;obtain⟨ao,h⟩:=w0 h;obtain⟨l,U,aa⟩:=ck h;have hp:aD.size≠0:=λe=>by rw[e]at ao;cases ao
 obtain⟨rfl,ar⟩:=S9 U;rw[G5]at aa ar;refine⟨?_,G9 aa ((aL.drop off).take _)⟩;have:=aL.len;simp at ar;omega
def Th{i:Nat}{fW:dz}(h:GN E t i=some (off,fW)):∃ a b z b' kA,E t=some ⟨a,b,z,.struct b'⟩/\b'[i]?=some (kA,off)/\E kA=some fW:=by
 unfold GN at h;split at h
 ·rename_i a b z b' av;split at h
  ·rename_i kA o az;rw[w3]at az;split at h
   ·rename_i f pj;cases h;exact⟨_,_,_,_,kA,av,az,pj⟩
   ·cases h
  ·cases h
 ·cases h
def acR(h:Li E t=some (r,aD)):(∃ a b z e,E t=some ⟨a,b,z,.slice e⟩/\E e=some aD/\r=none)\/∃ a b z n e,E t=some ⟨a,b,z,.array n e⟩/\E e=some aD/\r=some n:=by
 unfold Li at h;split at h
 ·rename_i a b z e av;split at h
  ·cases h;exact .inl ⟨_,_,_,_,av,by assumption,rfl⟩
  ·cases h
 ·rename_i a b z n e av;split at h
  ·cases h;exact .inr ⟨_,_,_,_,_,av,by assumption,rfl⟩
  ·cases h
 ·cases h
def acS{x i v:ak}(h:Dr X.E t (some x) (some i)=some v)(ab:aI D x u)(hi:aI D i w){ρ:Operand->c6}{fp:Operand}(LW:di ρ oq=.val u)(gR:di ρ fp=.val w)
  (k:∀ x,ff D x v->V x):cb X (.index t oq fp) ρ C I M V O:=by
 unfold Dr at h;split at h
 ·rename_i l fQ av U aa;cases U;cases aa;obtain⟨j,an,h⟩:=ck h;obtain⟨fy,rfl⟩:=A2 an;have gg:Lj l j=some v:=h;unfold Lj at gg;obtain⟨b,ai,eT⟩:=ck gg;cases eT;rw[w3]at ai;rw[ab.str]at LW;rw[hi.int]at gR;have aK:=(iI.1 ai).1;simp only[cb,av,LW,gR];refine⟨j,rfl,by simpa[ByteArray.size]using aK,k _ (.val ?_)⟩;simp only[aI];have:(⟨l.toArray⟩:ByteArray)[j]'(by simpa[ByteArray.size]using aK)=b:=by have:=(iI.1 ai).2;show l.toArray[j]'_=b;simpa using this
  rw[this];rfl
 ·rename_i n e cs fQ av U aa;cases U;cases aa;obtain⟨aD,he,h⟩:=ck h;obtain⟨j,an,h⟩:=ck h;obtain⟨fy,rfl⟩:=A2 an;obtain⟨us,e',rfl⟩:=ab.agg;unfold Sz at h;obtain⟨ai,h⟩:=fF h;rw[b3]at ai;obtain⟨af,aR⟩:=Tg h e';rw[hi.int]at gR;simp only[cb,av,LW,gR,he];have cI:Nat.beq (n*aD.size) us.toArray.size=true:=by have bC:=cf ai.1;rw[rs,e'.len,<-bC];exact oE _
  rw[cI];simp only[bh];exact⟨j,rfl,bJ ai.2,k _ (.val aR)⟩
 ·cases h
def acT{x v:ak}{l:Nat}{h:Option Nat}(ap:Lg x sz l h=some v)(ab:aI D x u):∃ a n c,u=.slice a n c/\l<=h.getD n/\h.getD n<=c/\(h=none->l<=n) /\
  aI D v (.slice (if c=l then a else a.map (·.add (l*sz))) (h.getD n-l) (c-l)):=by
 unfold Lg at ap;split at ap
 ·cases ai:(Nat.beq l 0&&Nat.beq (h.getD 0) 0)with
  |false=>rw[ai]at ap;cases ap| true=>rw[ai]at ap;cases ap;rw[b3]at ai;have U:=cf ai.1;have aa:=cf ai.2;subst U;refine⟨none,0,0,ab.yV,by omega,by omega,λ_=>by omega,?_⟩;rw[aa];simp[aI]
 ·rename_i id off n c;obtain⟨a,aC,rfl⟩:=ab.qh;simp only at ap;cases ai:(Nat.ble l (h.getD n)&&Nat.ble (h.getD n) c)with
  |false=>rw[ai]at ap;cases ap
  |true=>
   rw[ai]at ap;simp only[bh]at ap;rw[b3]at ai;have U:=bJ ai.1;have aa:=bJ ai.2;refine⟨_,n,c,rfl,U,aa,λe=>by subst e;exact U,?_⟩;rw[LM]at ap;by_cases e:c=l;·subst e;simp only[Gb,bh]at ap;cases ap;simp only[qp,aI];exact⟨a,aC,by simp only[A0,q1]⟩
   ·simp only[e,decide_false,ba]at ap;cases ap;simp only[e,j8,aI,jT];refine⟨a,aC,?_⟩;rw[dS _ rfl];simp only[w5,AZ,A0,oA]
 ·rename_i id off e n;obtain⟨a,aC,bo,rfl⟩:=ab.sk;simp only at ap;cases ai:(Nat.ble l (h.getD n)&&Nat.ble (h.getD n) n)with
  |false=>rw[ai]at ap;cases ap
  |true=>
   rw[ai]at ap;simp only[bh]at ap;rw[b3]at ai;have U:=bJ ai.1;have aa:=bJ ai.2;refine⟨_,n,a.c-e,rfl,U,by omega,λe=>by subst e;exact U,?_⟩;cases aL:(Nat.beq l 0||Nat.blt l n)with
   |true=>
    rw[aL]at ap;simp only[bh]at ap;cases ap;rw[j7]at aL;simp only[aI];refine⟨a,aC,by simp only[w5,A0];omega,?_⟩;have af:a.c-e-l=a.c-(e+l):=by omega
    by_cases ao:l=0
    ·subst ao;simp only[B1,tj,jT,w5,AZ,A0,qn];split
     ·rfl
     ·rw[dS _ rfl];simp
    ·have aR:l<n:=by
      rcases aL with aL | aL;·exact absurd (cf aL) ao
      ·exact bJ aL
     rw[cA (by omega)];simp only[jT];rw[dS _ rfl];simp only[w5,AZ,A0,oA,af]
   |false=>
    rw[aL]at ap;simp only[ba]at ap;cases ap;rw[oW]at aL;have aR:¬ l<n:=λaK=>by have:=yo (show l.succ<=n from aK);rw[show Nat.blt l n=Nat.ble l.succ n from rfl,this]at aL;cases aL.2
    have bC:h.getD n-l=0:=by omega
    simp only[aI,bC];split;·exact⟨_,_,rfl⟩
    ·exact⟨_,_,rfl⟩
 ·cases ap
end
section
variable{X:cD}{G:GT}{pr:j3}{D:bp}{m:bi}{F:Fr}{aj:a8 ak}{C:c2}{I:aS}{M:List ay}{V:c6->Prop}{O:Prop}
def acU(c:Bool)(a b:Value):EA c (.val a) (.val b)=.val (bif c then a else b):=by cases a<;>cases b<;>cases c<;>rfl
def Ti{o:Option Operand}{xs:List Operand}(H:hD D F aj xs)(ab:∀ y,o=some y->y∈xs)(h:yO (o.map (cS aj))=some r) :
  (o.map (di (c0 F))=none/\r=none)\/∃ k n,o.map (di (c0 F))=some (.val (.int k (Int.ofNat n)))/\r=some n:=by
 cases o with
 |none=>simp[yO]at h;exact .inl ⟨rfl,h.symm⟩
 |some y=>
  simp only[jT,yO]at h;cases ag:cS aj y with
  |none=>rw[ag]at h;cases h
  |some v=>
   rw[ag]at h;simp only at h;split at h;·rename_i n ax;cases h;obtain⟨k,rfl⟩:=A2 ax;obtain⟨u,hu,al⟩:=H.br (ab y rfl) ag;rw[al.int]at hu;exact .inr ⟨k,n,by simp only[jT];exact congrArg some hu,rfl⟩
   ·cases h
def LX(l:List UInt8)(lo hi:Nat):(⟨(Lh l lo hi).toArray⟩:ByteArray)=(⟨l.toArray⟩:ByteArray).extract lo hi:=by apply ry;apply fM;unfold Lh;rw[G5];simp[Ep,List.extract_eq_take_drop]
def acV{v:ak}{n:Nat}(h:tF v=some n)(ag:aI D v u):∃ a c,u=.slice a n c:=by
 unfold tF at h;split at h
 ·cases h;exact⟨_,_,ag.yV⟩
 ·cases h;obtain⟨a,c,rfl⟩:=ag.G6;exact⟨_,_,rfl⟩
 ·cases h;obtain⟨a,_,rfl⟩:=ag.qh;exact⟨_,_,rfl⟩
 ·cases h;obtain⟨a,_,_,rfl⟩:=ag.sk;exact⟨_,_,rfl⟩
 ·cases h;exact⟨_,_,ag.LO⟩
 ·cases h
def acW(aE:cE X.P X.E){b:Builtin}{ts:Array TypeId}{v:ak}(h:Lm X.E b ts.toList (lY aj args.toList)=some v)(H:hD D F aj args.toList)(k:∀ x,ff D x v->V x) :
  cb X (.call { callee:=.builtin b,args:=args,argTypes:=ts }) (c0 F) C I M V O:=by
 unfold Lm at h;split at h
 ·
  unfold SE at h;split at h
  ·rename_i t w av ar;obtain⟨us,aw,aT⟩:=H.kz (λ_ h=>h) ar;obtain⟨u,xs,aU,bG,rfl⟩:=aT.iW;have:=bG.ly;subst this;have dA:ih (c0 F) args.toList=some [u]:=aw;simp only[cb,av,dA];split at h
   ·rename_i a b z e pB l9;unfold GP at h;obtain⟨n,ax,h⟩:=ck h;have eT:some (ak.i .i64 (.ofNat n))=some v:=h;cases eT;obtain⟨bS,c,rfl⟩:=acV ax aU;simp only[l9];exact k _ (.val (by simp only[aI];rfl))
   ·rename_i a b z l l9;cases h;rw[aU.str];simp only[l9];refine k _ (.val ?_);simp only[aI];simp[ByteArray.size]
   ·rename_i a b z n e pB l9;cases h;cases u<;>(simp only[l9];exact k _ (.val (by simp only[aI];rfl)))
   ·cases h
  ·cases h
 ·unfold SF at h;split at h
  ·rename_i dO a bL b ar;obtain⟨us,aw,aT⟩:=H.kz (λ_ h=>h) ar;obtain⟨u,xs,aU,bG,rfl⟩:=aT.iW;obtain⟨w,jo,fk,mX,rfl⟩:=bG.iW;have:=mX.ly;subst this;have dA:ih (c0 F) args.toList=some [u,w]:=aw;rw[aU.int,fk.int]at dA;simp only[cb,dA];cases h;refine k _ (.val ?_);simp only[aI];rw[iH,G2];by_cases iR:a<=b
   ·simp[iR];omega
   ·simp[iR];omega
  ·cases h
 ·unfold SG at h;split at h
  ·rename_i dO a bL b ar;obtain⟨us,aw,aT⟩:=H.kz (λ_ h=>h) ar;obtain⟨u,xs,aU,bG,rfl⟩:=aT.iW;obtain⟨w,jo,fk,mX,rfl⟩:=bG.iW;have:=mX.ly;subst this;have dA:ih (c0 F) args.toList=some [u,w]:=aw;rw[aU.int,fk.int]at dA;simp only[cb,dA];cases h;refine k _ (.val ?_);simp only[aI];rw[iH,G2];by_cases iR:a<=b
   ·simp[iR];omega
   ·simp[iR];omega
  ·cases h
 ·unfold SH at h;split at h
  ·rename_i t id off n c av ar;split at h
   ·rename_i a b z e l9;cases h;obtain⟨us,aw,aT⟩:=H.kz (λ_ h=>h) ar;obtain⟨u,xs,aU,bG,rfl⟩:=aT.iW;have:=bG.ly;subst this;obtain⟨bS,aC,rfl⟩:=aU.qh;have dA:ih (c0 F) args.toList=some [_]:=aw;simp only[cb,av,dA,l9];exact k _ (.val (by simp only[aI];rfl))
   ·cases h
  ·cases h
 ·unfold SI at h;split at h
  ·rename_i ar;cases h;obtain⟨us,aw,aT⟩:=H.kz (λ_ h=>h) ar;obtain⟨u,xs,aU,bG,rfl⟩:=aT.iW;have:=bG.ly;subst this;rw[aU.yV]at aw;have dA:ih (c0 F) args.toList=some [_]:=aw;simp only[cb,dA];exact k _ (.val (by simp only[aI]))
  ·rename_i id off n c ar;obtain⟨ao,h⟩:=w0 h;cases h;obtain⟨us,aw,aT⟩:=H.kz (λ_ h=>h) ar;obtain⟨u,xs,aU,bG,rfl⟩:=aT.iW;have:=bG.ly;subst this;obtain⟨bS,aC,rfl⟩:=aU.qh;have dA:ih (c0 F) args.toList=some [_]:=aw;simp only[cb,dA];refine⟨λe=>?_,k _ (.val ?_)⟩
   ·have:c=0:=by omega
    subst this;cases ao
   ·simp only[aI];exact⟨bS,aC,rfl⟩
  ·rename_i id off e n ar;obtain⟨ao,h⟩:=w0 h;cases h;obtain⟨us,aw,aT⟩:=H.kz (λ_ h=>h) ar;obtain⟨u,xs,aU,bG,rfl⟩:=aT.iW;have:=bG.ly;subst this;obtain⟨bS,aC,bo,rfl⟩:=aU.sk;have dA:ih (c0 F) args.toList=some [_]:=aw;simp only[cb,dA];refine⟨λbn=>?_,k _ (.val ?_)⟩
   ·have:n=0:=by omega
    subst this;cases ao
   ·simp only[aI];exact⟨bS,aC,rfl⟩
  ·cases h
 ·cases h
def acX(aE:cE X.P X.E){op:Op}{v:ak}(h:Ln X.P X.E G m.t op aj=some v)(H:hD D F aj op.operands.toList)(hm:cR (dg X G pr) D m I M)(k:∀ x,ff D x v->V x):cb X op (c0 F) C I M V O:=by
 unfold Ln at h;split at h
 ·
  exact k _ (H _ (by simp[Op.operands]) _ h)
 ·exact k _ (H _ (by simp[Op.operands]) _ h)
 ·
  rename_i c a b;unfold Sr at h;split at h
  ·rename_i q u w U aa af;cases h;have aL:=H c (by simp[Op.operands]) _ U;have aC:=H a (by simp[Op.operands]) _ aa;have ai:=H b (by simp[Op.operands]) _ af;simp only[cb];rcases aL with⟨aiE,Hd,aL⟩ | ⟨eR,bn,Hd⟩
   ·rw[aL.bool]at Hd;simp only[Hd];obtain⟨LY,q7,acY⟩:=aC.di;obtain⟨C4,C7,cu⟩:=ai.di;have acZ:di (c0 F) a=.val LY:=q7;have ac0:di (c0 F) b=.val C4:=C7;rw[acZ,ac0];refine k _ (.inl ⟨bif q then LY else C4,?_,?_⟩)
    ·exact acU q LY C4
    ·cases q
     ·exact cu
     ·exact acY
   ·cases bn;simp only[Hd];cases q
    ·exact k _ ai
    ·exact k _ aC
  ·cases h
 ·
  rename_i aiF t x;unfold Ss at h;split at h
  ·rename_i b U;cases h;have ab:=H x (by simp[Op.operands]) _ U;simp only[cb];rcases ab with⟨u,e,hu⟩ | ⟨q,aw,e⟩
   ·rw[hu.bool]at e;simp only[e];exact k _ (.val (by simp only[aI];rw[LV]))
   ·cases aw;simp only[e];exact k _ (.inr ⟨!b,by rw[LV],rfl⟩)
  ·rename_i fy n U;cases h;have ab:=H x (by simp[Op.operands]) _ U;obtain⟨u,e,hu⟩:=ab.tJ (by simp);rw[hu.int]at e;simp only[cb,e];exact⟨_,rfl,k _ (.val (by simp only[aI];rw[w1]))⟩
  ·cases h
 ·
  rename_i aiG t x y eS;unfold St at h;obtain⟨a,U,h⟩:=ck h;obtain⟨b,aa,h⟩:=ck h;obtain⟨u,aw,aT⟩:=H.br (x:=x) (by simp[Op.operands]) U;obtain⟨w,aB,aU⟩:=H.br (x:=y) (by simp[Op.operands]) aa;have dA:di (c0 F) x=.val u:=aw;have dW:di (c0 F) y=.val w:=aB;simp only[cb,dA,dW];exact acO aE h aT aU λr al=>k _ (.val al)
 ·
  rename_i t x;unfold Su at h;obtain⟨i,hi,h⟩:=ck h;obtain⟨a,U,h⟩:=ck h;have ab:=H x (by simp[Op.operands]) _ U;have vi:∀ q,a≠.b q:=λq e=>by subst e;cases h
  obtain⟨u,aw,aT⟩:=ab.tJ vi;obtain⟨ad,l,vs,rfl,bs,ar,aG⟩:=w4 hm aT h;simp only[cb,hi,aw];exact⟨vs,bs,k _ (.val (G9 aG ar))⟩
 ·
  rename_i x;unfold Sv at h;split at h;·rename_i id off U;cases h;obtain⟨u,aw,aT⟩:=(H x (by simp[Op.operands]) _ U).tJ (by simp);obtain⟨a,aC,rfl⟩:=aT.ptr;simp only[cb,aw];exact k _ (.val aT)
  ·rename_i id off U;cases h;obtain⟨u,aw,aT⟩:=(H x (by simp[Op.operands]) _ U).tJ (by simp);have:=aT.oj;subst this;simp only[cb,aw];exact k _ (.val aT)
  ·cases h
 ·
  rename_i t x i;unfold Sw at h;obtain⟨r,al,h⟩:=ck h;obtain⟨a,U,h⟩:=ck h;obtain⟨off,fW⟩:=r;obtain⟨bg,h⟩:=w0 h;obtain⟨sa,qi,sz,b',kA,av,az,pj⟩:=Th al;have ab:=H x (by simp[Op.operands]) _ U;have vi:∀ q,a≠.b q:=λq e=>by subst e;cases h
  obtain⟨u,aw,aT⟩:=ab.tJ vi;obtain⟨ad,rfl,ap,ag⟩:=Tf h aT;have jb:Nat.beq fW.size 0=false:=bg;simp only[cb,av,az,pj,aw,jb,ba];exact k _ (.val ag)
 ·
  rename_i t x i;unfold Sx at h;split at h;·rename_i off fW cs ao U;obtain⟨sa,qi,sz,b',kA,av,az,pj⟩:=Th ao;obtain⟨u,aw,aT⟩:=H.br (x:=x) (by simp[Op.operands]) U;obtain⟨us,e',rfl⟩:=aT.agg;obtain⟨aa,af⟩:=Tg h e';have dA:di (c0 F) x=.val (.agg us.toArray):=aw;simp only[cb,av,dA,az,pj];rw[show Nat.ble (off+fW.size) us.toArray.size=true from yo (by simpa using aa)];exact k _ (.val af)
  ·cases h
 ·
  rename_i t x i;unfold Sy at h;obtain⟨r,al,h⟩:=ck h;obtain⟨a,U,h⟩:=ck h;obtain⟨b,aa,h⟩:=ck h;obtain⟨j,an,h⟩:=ck h;obtain⟨fy,rfl⟩:=A2 an;obtain⟨u,aB,aU⟩:=H.br (x:=i) (by simp[Op.operands]) aa;rw[aU.int]at aB;have dW:di (c0 F) i=.val (.int fy (.ofNat j)):=aB;obtain⟨Kz,aD⟩:=r;rcases acR al with⟨sa,qi,sz,e,av,he,rfl⟩ | ⟨sa,qi,sz,n,e,av,he,rfl⟩;·have a':GM a j aD.size=some v:=h;obtain⟨w,aw,aT⟩:=H.br (x:=x) (by simp[Op.operands]) U;obtain⟨ad,n,c,rfl,aK,ag⟩:=acQ a' aT;have dA:di (c0 F) x=.val (.slice (some ad) n c):=aw;simp only[cb,av,dW,he,dA];exact⟨ad,j,rfl,rfl,aK,k _ (.val ag)⟩
  ·have a':bR (Nat.blt j n) (Dq a (Nat.mul j aD.size)) none=some v:=h;obtain⟨ai,a'⟩:=fF a';have ab:=H x (by simp[Op.operands]) _ U;have vi:∀ q,a≠.b q:=λq e=>by subst e;cases a'
   obtain⟨w,aw,aT⟩:=ab.tJ vi;obtain⟨ad,rfl,ap,ag⟩:=Tf a' aT;simp only[cb,av,dW,he,aw];exact⟨j,rfl,bJ ai,k _ (.val ag)⟩
 ·
  rename_i t x i;cases U:cS aj x with
  |none=>rw[U]at h;unfold Dr at h;split at h<;>first | cases h | (rename_i e _;cases e)
  |some a=>
   cases aa:cS aj i with
   |none=>rw[aa]at h;unfold Dr at h;split at h<;>first | cases h | (rename_i e;cases e)
   |some b=>rw[U,aa]at h;obtain⟨u,aw,aT⟩:=H.br (x:=x) (by simp[Op.operands]) U;obtain⟨w,aB,aU⟩:=H.br (x:=i) (by simp[Op.operands]) aa;exact acS h aT aU aw aB k
 ·
  rename_i t parts;unfold SA at h;split at h
  ·rename_i i vs av aG;obtain⟨z,bg,h⟩:=ck h;have jb:=bx.AY (D:=D) bg;obtain⟨us,aw,aT⟩:=H.parts (l:=parts.toList) (by intro y aN;simpa[Op.operands]using aN) aG;have dA:qv (c0 F) parts.toList=some us:=aw
   try simp only at h
   split at h;·rename_i b' lB;obtain⟨x5,h⟩:=fF h;unfold Ds at h;obtain⟨cs,af,aR⟩:=ck h;have eT:some (ak.a cs)=some v:=aR;cases eT;obtain⟨bd,bC,bO⟩:=G' af jb aT;simp only[cb,av,dA,lB,x5,bh,bC];exact k _ (.val (.G7 bO))
   ·rename_i n e lB;obtain⟨aD,he,h⟩:=ck h;have a':Ds (wX (λj=>some (j*aD.size,aD.size)) z vs)=some v:=h;unfold Ds at a';obtain⟨cs,af,aR⟩:=ck a';have eT:some (ak.a cs)=some v:=aR;cases eT;obtain⟨bd,bC,bO⟩:=G' af jb aT;simp only[cb,av,dA,lB,he,bC];exact k _ (.val (.G7 bO))
   ·cases h
  ·cases h
 ·
  rename_i f first captured
  unfold SB at h;split at h
  ·rename_i g b' cs U aa;cases h;obtain⟨us,aw,aT⟩:=H.kz (l:=first.toList) (by intro y aN;simp[Op.operands];exact .inl (by simpa using aN)) U;obtain⟨ws,aB,aU⟩:=H.kz (l:=captured.toList) (by intro y aN;simp[Op.operands];exact .inr (by simpa using aN)) aa;have dA:ih (c0 F) first.toList=some us:=aw
   have dW:ih (c0 F) captured.toList=some ws:=aB;simp only[cb,dA,dW];exact k _ (.val (by simp only[aI];exact⟨us,ws,aT,aU,rfl⟩))
  ·cases h
 ·
  rename_i t x lo hi;cases U:cS aj x with
  |none=>rw[U]at h;unfold Dt at h;split at h<;>first | cases h | (rename_i e _ _;cases e)
  |some a=>
   rw[U]at h;cases aa:yO (lo.map (cS aj))with
   |none=>rw[aa]at h;unfold Dt at h;split at h<;>first | cases h | (rename_i e _;cases e)
   |some l=>
    rw[aa]at h;cases af:yO (hi.map (cS aj))with
    |none=>rw[af]at h;unfold Dt at h;split at h<;>first | cases h | (rename_i e;cases e)
    |some bA=>
     rw[af]at h;obtain⟨u,aw,aT⟩:=H.br (x:=x) (by simp[Op.operands]) U;have dA:di (c0 F) x=.val u:=aw;have ev:=Ti H (λy aN=>by subst aN;simp[Op.operands]) aa;have e2:=Ti H (λy aN=>by subst aN;simp[Op.operands]) af;unfold Dt at h;split at h
     ·rename_i sa qi sz e pL ac1 cw av bD dH gJ;cases bD;cases dH;cases gJ;obtain⟨aD,he,h⟩:=ck h;have a':Lk aD a l bA=some v:=h;unfold Lk at a';split at a'
      ·have el:lo.map (di (c0 F))=none:=by
        rcases ev with⟨el,_⟩ | ⟨_,_,_,el⟩;·exact el
        ·cases el
       have mI:hi.map (di (c0 F))=none:=by
        rcases e2 with⟨mI,_⟩ | ⟨_,_,_,mI⟩;·exact mI
        ·cases mI
       have m9:∃ q n c,u=.slice q n c/\aI D v u:=by
        split at a';·cases a';exact⟨_,_,_,aT.yV,aT⟩
        ·cases a';obtain⟨q,_,rfl⟩:=aT.qh;exact⟨_,_,_,rfl,aT⟩
        ·cases a';obtain⟨q,_,_,rfl⟩:=aT.sk;exact⟨_,_,_,rfl,aT⟩
        ·cases a';obtain⟨q,c,rfl⟩:=aT.G6;exact⟨_,_,_,rfl,aT⟩
        ·cases a'
       obtain⟨q,n,c,rfl,ag⟩:=m9;simp only[cb,av,dA,he,el,mI];exact k _ (.val ag)
      ·obtain⟨q,n,c,rfl,eE,eL,h3,ag⟩:=acT a' aT;simp only[cb,av,dA,he];rcases ev with⟨el,rfl⟩ | ⟨k4,DF,el,rfl⟩<;>rcases e2 with⟨mI,rfl⟩ | ⟨ac2,DG,mI,rfl⟩<;>simp only[el,mI]
       ·rename_i bB;exact(bB rfl rfl).elim
       ·simp only[ru,j6]at eE eL ag;refine⟨0,DG,rfl,rfl,bq _,eL,k _ (.val ?_)⟩;simp only[B1,tj]at ag;have cv:(if c=0 then q else q.map λx=>x.add 0)=q:=by
         split;·rfl
         ·cases q with
          |none=>rfl| some q=>simp[Addr.add]
        rw[cv]at ag;exact ag
       ·simp only[ru,j6]at eE eL ag;exact⟨DF,n,rfl,rfl,eE,cC _,k _ (.val ag)⟩
       ·simp only[ru,j6]at eE eL ag;exact⟨DF,DG,rfl,rfl,eE,eL,k _ (.val ag)⟩
     ·rename_i sa qi sz str ac1 cw av bD dH gJ;cases bD;cases dH;cases gJ;rw[aT.str]at dA;have a':Ll str l bA=some v:=h;unfold Ll at a';split at a'
      ·have el:lo.map (di (c0 F))=none:=by
        rcases ev with⟨el,_⟩ | ⟨_,_,_,el⟩;·exact el
        ·cases el
       have mI:hi.map (di (c0 F))=none:=by
        rcases e2 with⟨mI,_⟩ | ⟨_,_,_,mI⟩;·exact mI
        ·cases mI
       cases a';simp only[cb,av,dA,el,mI];exact k _ (.val (by simp only[aI]))
      ·obtain⟨ai,a'⟩:=fF a';cases a';rw[b3]at ai;have bI:=bJ ai.1;have cx:=bJ ai.2;have cI:(⟨str.toArray⟩:ByteArray).size=str.length:=by simp[ByteArray.size]
       simp only[cb,av,dA];rcases ev with⟨el,rfl⟩ | ⟨k4,DF,el,rfl⟩<;>rcases e2 with⟨mI,rfl⟩ | ⟨ac2,DG,mI,rfl⟩<;>simp only[el,mI]
       ·rename_i bB;exact(bB rfl rfl).elim
       ·simp only[ru,j6]at bI cx;exact⟨0,DG,rfl,rfl,bq _,by rw[cI];exact cx,k _ (.val (by simp only[aI,ru,j6,LX]))⟩
       ·simp only[ru,j6]at bI cx;exact⟨DF,str.length,rfl,by rw[cI];rfl,bI,by rw[cI];exact cC _,k _ (.val (by simp only[aI,ru,j6,LX,cI]))⟩
       ·simp only[ru,j6]at bI cx;exact⟨DF,DG,rfl,rfl,bI,by rw[cI];exact cx,k _ (.val (by simp only[aI,ru,j6,LX]))⟩
     ·cases h
 ·
  rename_i x i;unfold SC at h;split at h;·rename_i vs U;obtain⟨u,aw,aT⟩:=H.br (x:=x) (by simp[Op.operands]) U;obtain⟨us,e',rfl⟩:=aT.LP;rw[w3]at h;obtain⟨w,hw,ag⟩:=e'.get h;have dA:di (c0 F) x=.val (.tuple us.toArray):=aw;simp only[cb,dA,hw];exact k _ (.val ag)
  ·cases h
 ·
  rename_i s d x;unfold SD at h;split at h;·rename_i fy dO n ap ah U;cases h;obtain⟨u,aw,aT⟩:=H.br (x:=x) (by simp[Op.operands]) U;rw[aT.int]at aw;have dA:di (c0 F) x=.val (.int dO n):=aw;simp only[cb,ap,ah,dA];exact⟨_,rfl,k _ (.val (by simp only[aI];rw[w1]))⟩
  ·cases h
 ·
  rename_i b args ts;exact acW aE h (by simpa[Op.operands,Call.operands]using H) k
 ·cases h
end
def bp.set(D:bp)(id:Nat)(a:Loc):bp:=λi=>if i=id then some a else D i
def bp.pC(D:bp)(id:Nat)(a:Loc):(D.set id a) id=some a:=by simp[bp.set]
def bp.le_refl(D:bp):D.le D:=λ_ _ h=>h
def bp.le_trans(h:D.le bm)(k:bm.le Ha):D.le Ha:=λi a e=>k _ _ (h _ _ e)
def bp.w7{id:Nat}(a:Loc)(h:D id=none):D.le (D.set id a):=λi b ai=>by
 unfold bp.set;split
 ·rename_i e;subst e;rw[h]at ai;cases ai
 ·exact ai
def bp.ext(D bm:bp)(n:Nat):Prop:=∀ i,i<n->bm i=D i
def bp.mJ{n:Nat}:D.ext D n:=λ_ _=>rfl
def bp.A3{n:Nat}:D.ext (D.set n a) n:=λi hi=>by unfold bp.set;rw[cA (by omega)]
section
variable{Y:fE}{D bm:bp}{m:bi}{I I':aS}{M M':List ay}{R:Type}
def DD.mono{G:GT}(h:DD G I)(bF:∀ b o,I b=some o->I' b=some o):DD G I':=λg cs aA=>by obtain⟨arr,T,f,U,aa⟩:=h g cs aA;exact⟨arr,T,f,bF _ _ U,aa⟩
def cR.le(h:cR Y D m I M)(cT:D.ext bm m.n):D.le bm:=λi a aC=>by rw[cT i (h.h' _ _ aC)];exact aC
def cR.step(h:cR Y D m I M)(av:∀ id e,eS.get id=some e->(id=j/\cv=e)\/(id≠j/\m.t.get id=some e))(an:bm j=some a)(bo:D.le bm)(cT:∀ i,i≠j->bm i=D i)(ac3:∀ id a,bm id=some a->id<hA)(bF:∀ b o,I b=some o->I' b=some o)(oO:∀ id e bS,id≠j->m.t.get id=some e->D id=some bS->∀ x∈M,x.num=bS.b->x∈M')
  (he:jQ bm Y.E M' a cv) (FQ:∀ id e bS,id≠j->m.t.get id=some e->D id=some bS->bS.b≠a.b):cR Y bm ⟨eS,hA⟩ I' M' where
 hg id e cc aA U:=by
  rcases av id e aA with⟨aw,aB⟩ | ⟨bB,aA⟩;·subst aw;subst aB;rw[an]at U;cases U;exact he
  ·rw[cT id bB]at U;exact(h.hg id e cc aA U).mono bo λx ab ax=>oO id e cc bB aA U x ab ax
 inj id g4 e bn cc dd aA oK U aa ai:=by
  rcases av id e aA with⟨aw,aB⟩ | ⟨bB,aA⟩
  ·rcases av g4 bn oK with⟨bD,dH⟩ | ⟨xy,oK⟩
   ·rw[aw,bD]
   ·rw[cT g4 xy]at aa;subst aw;rw[an]at U;cases U;exact(FQ g4 bn dd xy oK aa ai.symm).elim
  ·rw[cT id bB]at U;rcases av g4 bn oK with⟨bD,dH⟩ | ⟨xy,oK⟩
   ·subst bD;rw[an]at aa;cases aa;exact(FQ id e cc bB aA U ai).elim
   ·rw[cT g4 xy]at aa;exact h.inj id g4 e bn cc dd aA oK U aa ai
 h':=ac3
 oj:=h.oj.mono bF
def cR.fresh(h:cR Y D m I M):D m.n=none:=by
 cases cT:D m.n with
 |none=>rfl| some a=>exact absurd (h.h' _ _ cT) (Nat.lt_irrefl _)
def cR.aY(h:cR Y D m I M){id:Nat}{e:fe}(aA:m.t.get id=some e)(aC:D id=some a):∃ x∈M,x.num=a.b:=by
 cases h.hg id e a aA aC with
 |cells arr ao U=>exact⟨_,U,rfl⟩| map l c U=>exact⟨_,U,rfl⟩| loop L U=>exact⟨_,U,rfl⟩| done L U=>exact⟨_,U,rfl⟩
def cR.new(h:cR Y D m I M){o:Obj}(av:∀ id e,eS.get id=some e->(id=m.n/\some cv=some e)\/(id≠m.n/\m.t.get id=some e))(az:∀ x∈M,x.num≠a.b)
  (he:jQ (D.set m.n a) Y.E (⟨a.b,o⟩::M) a cv):cR Y (D.set m.n a) ⟨eS,m.n+1⟩ I (⟨a.b,o⟩::M):=
 h.step (λid e aA=>(av id e aA).imp (λh=>⟨h.1,mH h.2⟩) λh=>h) (D.pC _ _) (bp.w7 a h.fresh) (λi hi=>by unfold bp.set;rw[cA hi])
  (λid b ai=>by
   unfold bp.set at ai;split at ai;·omega
   ·have:=h.h' _ _ ai;omega)
  (λ_ _ h=>h) (λ_ _ _ _ _ _ x ab _=>lZ _ ab) he
  (λid e bS _ aA yW ai=>by
   obtain⟨x,ab,ax⟩:=h.aY aA yW;exact az x ab (ax.trans ai))
def jQ.new{l:List ak}{vs aJ:List Value}{T c:Nat}{b:Nat}{cs:a8 ak}(jd:∀ j x,cs.get j=some x->(0<=j/\l[j-0]?=some x)\/((j<0\/0+l.length<=j)/\(a8.nil:a8 ak).get j=some x))(ar:bx D l vs)
  (ae:∀ i,Y.E T=some i->(vs++aJ).length=c*i.size) (aL:c<=maxLen):jQ D Y.E (⟨b,.cells (vs++aJ).toArray T (0,0)⟩::M) ⟨b,0,c⟩ (.cells cs T l.length):=by
 refine .cells (vs++aJ).toArray rfl (by simp) (by simp[ar.len]) (λi v hi aA=>?_) (λi hi=>by simpa using ae i hi) aL;rcases jd i v aA with⟨_,U⟩ | ⟨_,U⟩
 ·obtain⟨x,aa,af⟩:=ar.get (i:=i) (by simpa using U);have aK:=(iI.1 aa).1;exact⟨x,by simp only[dk,xp];rw[oy aK];exact aa,af⟩
 ·cases U
def DH{e:fe}{K:Nat->bi->Option R}{r:R}(h:yP m e K=some r):∃ eS,(∀ id bn,eS.get id=some bn->(id=m.n/\some e=some bn)\/(id≠m.n/\m.t.get id=some bn))/\K m.n ⟨eS,m.n+1⟩=some r:=by unfold yP at h;rw[LL]at h;obtain⟨eS,U,aa⟩:=a8.mG (some e) m.t m.n;rw[U]at h;exact⟨eS,aa,h⟩
def LZ{l:List ak}{T:Nat}{K:Nat->bi->Option R}{r:R}(h:si m l T K=some r):∃ m',K m.n m'=some r/\m'.n=m.n+1 /\
  ∀ {D:bp} {I:aS} {M:List ay} {vs:List Value} (aJ:List Value) {b c:Nat},cR Y D m I M->(∀ x∈M,x.num≠b)->bx D l vs->(∀ i,Y.E T=some i->(vs++aJ).length=c*i.size)->c<=maxLen ->
   cR Y (D.set m.n ⟨b,0,c⟩) m' I (⟨b,.cells (vs++aJ).toArray T (0,0)⟩::M):=by
 unfold si at h;obtain⟨cs,U,aa⟩:=a8.vh l (.nil:a8 ak) 0;rw[U]at h;obtain⟨eS,af,aR⟩:=DH h;refine⟨_,aR,rfl,fun {D I M vs} aJ {b c} hm az ar ae aL=>?_⟩;exact hm.new (a:=⟨b,0,c⟩) af az (.new aa (ar.mono (bp.w7 _ hm.fresh)) ae aL)
end
def ac4(z:List Value)(n:Nat):rowOf z (z.length+n)=rowOf z z.length++rowOf z n:=by unfold rowOf;rw[List.range_add,gX,lM];congr 1;apply BZ;intro i _;simp[Nat.add_mod_left]
def ac5(z:List Value):rowOf z z.length=z:=by
 unfold rowOf;apply uD
 ·simp
 ·intro i U aa;simp only[lE,ph,Ad aa];simp[aa]
def L0(z:List Value):∀ n,rowOf z (n*z.length)=(List.replicate n z).flatten
 |0=>by simp[rowOf]
 |n+1=>by rw[Nat.succ_mul,Ey,ac4,ac5,L0 z n,q0,Jd]
def Tj(place:Nat->Option (Nat×Nat)):∀ (vs:List (Nat×Value)) (cs r:List Value),qu place cs vs=some r->r.length=cs.length
 |[],cs,r,h=>by simp only[qu]at h;cases h;rfl
 |(i,v)::vs,cs,r,h=>by
  simp only[qu]at h;split at h;·cases h
  ·rename_i off size aG;cases ai:(Nat.beq v.cells.size size&&Nat.ble (off+size) cs.length)with
   |false=>rw[ai]at h;cases h| true=>rw[ai]at h;simp only[bh]at h;rw[Tj place vs _ _ h];rw[b3]at ai;have U:=cf ai.1;have aa:=bJ ai.2;simp[bu];omega
def w8(dst:Option Nat)(u:Value)(F dE:Fr):Prop:=(∀ d,dst=some d->dE d=.val u)/\∀ (D:bp) t v,dst≠some t->ff D (F t) v->ff D (dE t) v
def w8.put(dst:Option Nat)(u:Value)(F:Fr):w8 dst u F (put dst (.val u) F):=by
 constructor
 ·rintro d rfl;simp[Go.V.put,fG]
 ·intro D t v bB h;cases dst with
  |none=>exact h| some d=>have:t≠d:=λe=>bB (by rw[e]);simp only[Go.V.put,fG,fX this,ba];exact h
def w8.ny(d:Nat)(u:Value)(F:Fr):w8 (some d) u F (fG (ny F d) d (.val u)):=by
 constructor
 ·rintro _⟨⟩;simp[fG]
 ·intro D t v bB h;have:t≠d:=λe=>bB (by rw[e]);simp only[fG,fX this,ba];unfold Go.V.ny;rcases h with⟨ac6,e,h⟩ | ⟨q,e,h⟩
  ·rw[e];exact .inl ⟨ac6,rfl,h⟩
  ·rw[h];exact .inr ⟨q,e,rfl⟩
section
variable{X:cD}{G:GT}{pr:j3}{D:bp}{m:bi}{F:Fr}{aj:a8 ak}{C:c2}{I:aS}{M:List ay}{K:fo}{o:Oper}
def Tk(aE:cE X.P X.E)(iL:∀ d,d<X.n->X.fH.contains d=true)(ah:∀ d,o.dst=some d->d<X.n){l:List ak}{T c:Nat}{mk:Nat->ak}(h:yR X.E o aj=some (l,T,c,mk))(DI:o.dst.isSome=true)(H:hD D F aj o.op.operands.toList)
  (k:∀ b vs u dE C',I b=none->(∀ x∈M,x.num≠b)->bx D l vs->(∀ i,X.E T=some i->vs.length=c*i.size)->c<=maxLen->(∀ (bm:bp) id,bm id=some ⟨b,0,c⟩->aI bm (mk id) u)->w8 o.dst u F dE ->
   K dE C' I (⟨b,.cells vs.toArray T (0,0)⟩::M)):fO X o F C I M K:=by
 obtain⟨dst,op,ty,pos,after,guard⟩:=o;cases dst with
 |none=>cases DI
 |some d=>
  have oQ:X.fH.contains d=true:=iL d (ah d rfl);have Tl:∀ (b c:Nat) (bm:bp) id,bm id=some ⟨b,0,c⟩->aI bm (.p id 0) (.pointer (some ⟨b,0,none⟩)):=λb c bm id j4=>by simp only[aI];exact⟨_,j4,rfl⟩
  unfold yR at h;simp only at h H;split at h
  ·rename_i t x;unfold SL at h;obtain⟨i,hi,h⟩:=ck h;obtain⟨v,ag,h⟩:=ck h;obtain⟨ai,h⟩:=fF h;cases h;obtain⟨u,aw,aT⟩:=H.br (x:=x) (by simp[Op.operands]) ag;have aL:=aT.cells;simp only[fO,aw,oQ,bh];refine⟨λb U aa=>?_⟩;have:=k b u.cells.toList (.pointer (some ⟨b,0,none⟩)) _ (hG C d none) U aa aL (λfQ cw=>?_) (by decide) (Tl b 1) (.ny d _ F)
   ·simpa using this
   ·rw[hi]at cw;cases cw;rw[aL.len,oX];exact cf ai
  ·rename_i t;unfold SM at h;obtain⟨i,hi,h⟩:=ck h;obtain⟨z,bg,h⟩:=ck h;cases h;simp only[fO,hi,oQ,bh];refine⟨λb U aa=>?_⟩;exact k b i.zero (.pointer (some ⟨b,0,none⟩)) _ (hG C d none) U aa (.AY bg) (λfQ cw=>by rw[hi]at cw;cases cw;rw[(aE _ _ hi).len,oX]) (by decide) (Tl b 1) (.ny d _ F)
  ·rename_i t len parts;unfold SN at h;split at h
   ·rename_i sa qi sz e vs av aG;obtain⟨aD,he,h⟩:=ck h;obtain⟨z,bg,h⟩:=ck h;obtain⟨us,aw,aT⟩:=H.parts (l:=parts.toList) (by intro y aN;simpa[Op.operands]using aN) aG;simp only[fO,av,aw,he];have Fp:=(aE _ _ he).len;cases ai:(Nat.ble (len*aD.size) 16777216&&Nat.blt 0 (len*aD.size))with
    |true=>
     have hI:(Nat.ble (Nat.mul len aD.size) 16777216&&Nat.blt 0 (Nat.mul len aD.size))=true:=ai;rw[iH,hI]at h;simp only[bh]at h |-;obtain⟨cs,af,aR⟩:=ck h;have eT:some (cs,e,len,λid=>ak.sl id 0 len len)=some (l,T,c,mk):=aR;cases eT;have r9:bx D (yQ c z) (rowOf aD.zero (c*aD.size)):=by rw[<-Fp,L0];exact(bx.AY bg).m7 c
     obtain⟨bd,bC,bO⟩:=G' af r9 aT;rw[bC];refine⟨λb U aa=>?_⟩;have bV:bd.length=c*aD.size:=by rw[Tj _ _ _ _ bC];simp[rowOf]
     rw[b3]at ai;have nS:=bJ ai.1;have eW:0<c*aD.size:=bJ ai.2;exact k b bd (.slice (some ⟨b,0,none⟩) c c) _ C U aa bO (λfQ cw=>by rw[he]at cw;cases cw;exact bV)
      (by
       have eo:0<aD.size:=Nat.pos_of_mul_pos_left eW;have:c<=c*aD.size:=Nat.le_mul_of_pos_right _ eo;simp only[maxLen];omega)
      (λbm id j4=>by simp only[aI];exact⟨_,j4,rfl⟩) (.put _ _ F)
    |false=>
     have hI:(Nat.ble (Nat.mul len aD.size) 16777216&&Nat.blt 0 (Nat.mul len aD.size))=false:=ai;rw[iH,hI]at h;simp only[ba]at h |-;obtain⟨aL,h⟩:=fF h;cases h;rw[b3]at aL;have af:=cf aL.1;subst af;have aR:vs=[]:=by simpa using aL.2
     subst aR;cases aT;simp only;refine⟨λb U aa=>?_⟩;exact k b [] (.slice (some ⟨b,0,none⟩) 0 0) _ C U aa .nil (λfQ cw=>by simp) (by decide) (λbm id j4=>by simp only[aI];exact⟨_,j4,rfl⟩) (.put _ _ F)
   ·cases h
  ·rename_i t c4 c';unfold SO at h;split at h
   ·rename_i sa qi sz e EI aiH av U aa;obtain⟨aD,he,h⟩:=ck h;obtain⟨n,ax,h⟩:=ck h;obtain⟨q,aO,h⟩:=ck h;obtain⟨z,bg,h⟩:=ck h;obtain⟨ai,h⟩:=fF h;cases h;obtain⟨dO,rfl⟩:=A2 ax;obtain⟨bL,rfl⟩:=A2 aO;obtain⟨sq,aw,aT⟩:=H.br (x:=c4) (by simp[Op.operands]) U;obtain⟨pD,aB,aU⟩:=H.br (x:=c') (by simp[Op.operands]) aa;rw[aT.int]at aw;rw[aU.int]at aB;simp only[b3]at ai;simp only[fO,av,aw,aB,he];refine⟨n,c,rfl,rfl,bJ ai.1,bJ ai.2.1,bJ ai.2.2,⟨λb af aR=>?_⟩⟩;have Fp:=(aE _ _ he).len;have r9:bx D (yQ c z) (rowOf aD.zero (c*aD.size)):=by rw[<-Fp,L0];exact(bx.AY bg).m7 c
    exact k b _ (.slice (some ⟨b,0,none⟩) n c) _ C af aR r9 (λfQ cw=>by rw[he]at cw;cases cw;simp[rowOf]) (bJ ai.2.2) (λbm id j4=>by simp only[aI];exact⟨_,j4,rfl⟩) (.put _ _ F)
   ·cases h
  ·cases h
end
def Tm{vs:List Value}{i:Nat}(h:off+vs.length<=cs.length):(bu cs off vs)[i]?=if off<=i/\i<off+vs.length then vs[i-off]? else cs[i]?:=by
 unfold bu;by_cases U:i<off
 ·rw[cA (by omega),oy (by simp;omega),oy (by simp;omega),kx,cK U]
 ·by_cases aa:i<off+vs.length
  ·rw[cK ⟨by omega,aa⟩,oy (by simp;omega),mS (by simp;omega)];simp;congr 1;omega
  ·rw[cA (by omega),mS (by simp;omega),pI];congr 1;simp;omega
def L1{vs:List Value}(h:off+vs.length<=cs.length):(bu cs off vs).length=cs.length:=by simp[bu];omega
section
variable{Y:fE}{D:bp}{m:bi}{I:aS}{M:List ay}{R:Type}
def L2{x:ak}{l:List ak}{K:bi->Option R}{r:R}(h:vf m x l K=some r):∃ m',K m'=some r/\m'.n=m.n/\(∀ id,m'.t.get id≠none->m.t.get id≠none\/True) /\
  ∀ {D:bp} {I:aS} {M:List ay} {u:Value} {vs:List Value},cR Y D m I M->aI D x u->bx D l vs ->
   ∃ (g off:Nat) (a6 post:List ay) (arr:Array Value) (T:Nat),u=.pointer (some ⟨g,off,none⟩)/\M=a6++⟨g,.cells arr T (0,0)⟩::post/\off+vs.length<=arr.size/\hH vs=true /\ (∃ id e a,m.t.get id=some e/\D id=some a/\a.b=g) /\
    cR Y D m' I (a6++⟨g,.cells (bu arr.toList off vs).toArray T (0,0)⟩::post):=by
 unfold vf at h;split at h
 ·rename_i id off;split at h
  ·rename_i cs T eQ aA;cases ai:(Nat.ble (Nat.add off l.length) eQ&&l.all ak.one)with
   |false=>rw[ai]at h;cases h
   |true=>
    rw[ai]at h;simp only[bh]at h;rw[b3]at ai;have w9:off+l.length<=eQ:=bJ ai.1;obtain⟨cs',U,aa⟩:=a8.vh l cs off;rw[U]at h;obtain⟨eS,af,aR⟩:=a8.mG (some (fe.cells cs' T eQ)) m.t id;rw[af]at h;refine⟨_,h,rfl,λ_ _=>.inr trivial,fun {D I M u vs} hm ab ar=>?_⟩;obtain⟨a,aC,rfl⟩:=ab.ptr;have he:=hm.hg _ _ _ aA aC;obtain⟨arr,aq,a4,cI,aL,ae,iE⟩:=he;have bV:=ar.len;obtain⟨a6,post,b0⟩:=sm a4;have fS:off+vs.length<=arr.size:=by omega
    refine⟨a.b,off,a6,post,arr,T,by rw[aq,dk],b0,fS,ar.one ai.2,⟨id,_,a,aA,aC,rfl⟩,?_⟩;have gn:∀ x∈M,x.num≠a.b->x∈a6++⟨a.b,.cells (bu arr.toList off vs).toArray T (0,0)⟩::post:=λx ab ax=>by
     rw[b0]at ab;rcases eb.1 ab with ab | ab;·exact eb.2 (.inl ab)
     ·rcases eg.1 ab with rfl | ab
      ·exact(ax rfl).elim
      ·exact eb.2 (.inr (lZ _ ab))
    refine hm.step (λi e hi=>(aR i e hi).imp (λq=>⟨q.1,mH q.2⟩) λq=>q) aC (bp.le_refl D) (λ_ _=>rfl) hm.h' (λ_ _ h=>h) (λi e bS bB hi ot x ab ax=>gn x ab ?_) ?_ ?_;·rw[ax];exact λai=>bB (hm.inj _ _ _ _ _ _ hi aA ot aC ai)
    ·have DJ:(bu arr.toList off vs).length=arr.size:=by rw[L1 (by simpa using fS)];simp
     refine .cells (bu arr.toList off vs).toArray aq (by simp) (by simp[DJ];exact cI) (λi v hi DK=>?_) (λi hi=>by simp[DJ];exact ae i hi) iE;rw[aq,dk];simp only[xp];rw[Tm (by simpa using fS)];rcases aa i v DK with⟨aT,aU⟩ | ⟨aT,aU⟩;·have aK:=(iI.1 aU).1;rw[cK ⟨aT,by omega⟩];exact ar.get aU
     ·rw[cA (by omega)];have:=aL i v hi aU;rw[aq,dk]at this;simpa using this
    ·intro i e bS bB hi ot ai;exact bB (hm.inj _ _ _ _ _ _ hi aA ot aC ai)
  ·cases h
 ·cases h
def L3:∀ {l:List ak} {cd:List UInt8} {vs:List Value},AP l=some cd->bx D l vs->vs=cd.map (λb=>.int .u8 b.toNat)
 |[],cd,vs,h,ar=>by simp only[AP]at h;cases h;exact ar.ly
 |v::l,cd,vs,h,ar=>by
  unfold AP at h;split at h;·rename_i e;cases e
  ·rename_i n c4 e;cases e;cases ai:Nat.ble n 255 with
   |false=>rw[ai]at h;cases h
   |true=>
    rw[ai]at h;simp only[bh]at h;split at h;·rename_i r al;cases h;obtain⟨x,xs,U,aa,rfl⟩:=ar.iW;have ax:=bJ ai;rw[L3 al aa,U.int];simp only[dV,uK,and_true,Value.int.injEq,true_and];rw[UInt8.toNat_ofNat_of_lt' (show n<256 by omega)];rfl
    ·cases h
  ·cases h
inductive xa:TypeDesc->ak->Prop
 |int{k n}:xa (.int k) (.i k n)| str {l}:xa .string (.s l)
def Tn(aE:cE P E){k:Nat}{y:ak}(h:GS (E k) y=true):∃ d,P.underlying k=some d/\xa d y:=by
 unfold GS at h;split at h
 ·rename_i fy dq n ae;have:=IntKind.zw h;subst this;obtain⟨d,hu,ah⟩:=(aE _ _ ae).eJ;refine⟨d,hu,?_⟩;have:d=.int fy:=by cases d<;>simp_all[eD]
  subst this;exact .int
 ·rename_i l ae;obtain⟨d,hu,ah⟩:=(aE _ _ ae).eJ;refine⟨d,hu,?_⟩;have:d=.string:=by cases d<;>simp_all[eD]
  subst this;exact .str
 ·cases h
def xa.isKey{d:TypeDesc}{y:ak}(h:xa d y)(aN:aI D y u):MapKept.IsKey d u:=by
 cases h with
 |int=>rw[aN.int];rfl| str=>rw[aN.str];trivial
def To(a b:ByteArray):(a == b)=decide (a=b):=by rw[l2,MapKept.bytes_beq];simp
def A4{d:TypeDesc}{y x:ak}{r:Bool}(h:xa d y)(aN:aI D y u)(ab:aI D x w)(he:AK y x=some r):Instr.sameNow d u w=some r:=by
 cases h with
 | @int k n=>
  rw[aN.int];unfold AK at he;split at he;·rename_i e;cases e
  ·rename_i dO a bL b e;cases e;obtain⟨U,aa⟩:=fF he;have:=IntKind.zw U;subst this;cases aa;rw[ab.int];simp only[Instr.sameNow,qp,yU];congr 1
  ·rename_i e;cases e
  ·cases he
 | @str l=>
  rw[aN.str];unfold AK at he;split at he;·rename_i e;cases e
  ·rename_i e;cases e
  ·rename_i a b e;cases e;cases he;rw[ab.str];simp only[Instr.sameNow];rw[To,Hb,AX]
  ·cases he
def Tp{d:TypeDesc}{y:ak}{u:Value}(h:xa d y)(aN:aI D y u):∀ {es:List (ak×ak)} {l:List MapEntry} {r:Option ak} (i:Nat),oo D es l->Dv y es=some r ->
  match r with
  |none=>Instr.findNow d u l i=some none| some v=>∃ j w,Instr.findNow d u l i=some (some (j,w))/\aI D v w
 |[],_,r,i,.nil,ar=>by simp only[Dv]at ar;cases ar;rfl
 |(x,v)::es,_,r,i,.cons (e:=e) (l:=l) ae ag t,ar=>by
  simp only[Dv]at ar;split at ar;·rename_i he;cases ar;refine⟨i,e.val,?_,ag⟩;simp only[Instr.findNow,A4 h aN ae he]
  ·rename_i he;have be:=Tp h aN (i+1) t ar;simp only[Instr.findNow,A4 h aN ae he];exact be
  ·cases ar
def Tq{d:TypeDesc}{y v:ak}{u w:Value}(h:xa d y)(aN:aI D y u)(ag:aI D v w):∀ {es sr:List (ak×ak)} {l:List MapEntry} (i:Nat),oo D es l->Dw y v es=some sr -> (Instr.findNow d u l i=some none/\∀ b,oo D sr (l++[{ key:=u,val:=w,born:=b }])) \/ ∃ j e,Instr.findNow d u l i=some (some (i+j,e.val))/\l[j]?=some e/\Instr.sameNow d u e.key=some true/\oo D sr (l.modify j λe=>{ e with key:=u,val:=w })
 |[],sr,_,i,.nil,ar=>by simp only[Dw]at ar;cases ar;exact .inl ⟨rfl,λb=>.cons aN ag .nil⟩
 |(x,pB)::es,sr,_,i,.cons (e:=e) (l:=l) ae kB t,ar=>by
  simp only[Dw]at ar;split at ar
  ·rename_i he;cases ar;refine .inr ⟨0,e,?_,rfl,A4 h aN ae he,?_⟩
   ·simp only[Instr.findNow,A4 h aN ae he,qn]
   ·simp only[List.modify_zero_cons];exact .cons aN ag t
  ·rename_i he;split at ar
   ·rename_i r al;cases ar;rcases Tq h aN ag (i+1) t al with⟨U,aa⟩ | ⟨j,bn,U,aa,af,aR⟩
    ·refine .inl ⟨?_,λb=>.cons ae kB (aa b)⟩;simp only[Instr.findNow,A4 h aN ae he];exact U
    ·refine .inr ⟨j+1,bn,?_,by simpa using aa,af,?_⟩
     ·simp only[Instr.findNow,A4 h aN ae he];rw[U];congr 3;omega
     ·simp only[List.modify_succ_cons];exact .cons ae kB aR
   ·cases ar
  ·cases ar
end
section
variable{P:Program}{w:World}
def ac7{k:Nat}(av:P.underlying t=some (.map k e)){d:TypeDesc}(ae:P.underlying k=some d)(tK:MapKept.IsKey d u){l:List MapEntry}(aA:w.heap[g]?=some (.map l.toArray clock))
  {q:Option (Nat×Value)} (az:Instr.findNow d u l 0=some q) {inf:TypeInfo} {z:Value} (hi:P.info? e=some inf) (bg:inf.zero=some z) (ok:Bool) :
  (Instr.lookup t (.map (some g)) u ok).run P w=.ok (bif ok then .tuple #[(q.map (·.2)).getD z,.bool q.isSome]else(q.map (·.2)).getD z) w:=by
 have aL:(Instr.checkKey l.toArray.isEmpty 10000 k u).run P w=.ok () w:=z1 ae tK _ 9999;have rZ:(Instr.findKey k u l).run P w=.ok q w:=z2 ae az;have He:(zeroValue e).run P w=.ok z w:=by simp[zeroValue,typeInfo,hi,bg]
 unfold Instr.lookup;simp only[bZ,run_underlying av,bK,z0 aA,cG,aL,rZ];cases q with
 |none=>cases ok<;>simp[He]
 |some p=>cases ok<;>simp
def ac8{k:Nat}(av:P.underlying t=some (.map k e)){d:TypeDesc}(ae:P.underlying k=some d){v:Value}(tK:MapKept.IsKey d u){l:List MapEntry}(aA:w.heap[g]?=some (.map l.toArray clock))
  (az:Instr.findNow d u l 0=some none):(Instr.mapUpdate t (.map (some g)) u v).run P w=.ok () { w with heap:=w.heap.setIfInBounds g (.map (l++[({ key:=u,val:=v,born:=clock }:MapEntry)]).toArray (clock+1)) }:=by
 have aL:(Instr.checkKey false 10000 k u).run P w=.ok () w:=z1 ae tK _ 9999;have rZ:(Instr.findKey k u l).run P w=.ok none w:=z2 ae az;unfold Instr.mapUpdate;simp only[bZ,run_underlying av,bK,z0 aA,aL,rZ,Jb _ aA];congr 3;simp
def ac9{k:Nat}(av:P.underlying t=some (.map k e)){d:TypeDesc}(ae:P.underlying k=some d){v:Value}(tK:MapKept.IsKey d u){l:List MapEntry}(aA:w.heap[g]?=some (.map l.toArray clock))
 {bn:MapEntry} (az:Instr.findNow d u l 0=some (some (j,bn.val))) (an:l[j]?=some bn) (ap:bn.key=u) :
  (Instr.mapUpdate t (.map (some g)) u v).run P w=.ok () { w with heap:=w.heap.setIfInBounds g (.map (l.modify j λe=>{ e with key:=u,val:=v }).toArray clock) }:=by
 have aL:(Instr.checkKey false 10000 k u).run P w=.ok () w:=z1 ae tK _ 9999;have rZ:(Instr.findKey k u l).run P w=.ok (some (j,bn.val)) w:=z2 ae az;have dw:(Instr.keyThatStays u u).run P w=.ok u w:=MapKept.run_keyThatStays tK;unfold Instr.mapUpdate;simp only[bZ,run_underlying av,bK,z0 aA,aL,rZ];simp only[xp,an,jT,j6,ap,dw,bK,Jb _ aA];congr 3;show Obj.map _ _=Obj.map _ _;congr 1;apply fM;simp
end
section
variable{X:cD}{G:GT}{pr:j3}{D:bp}{m m':bi}{F:Fr}{aj:a8 ak}{C:c2}{I:aS}{M:List ay}{K:fo}{o:Oper}{v:ak}
def pE(X:cD)(G:GT)(pr:j3)(D:bp)(m:bi)(I:aS)(M:List ay)(v:ak)(m':bi)(dst:Option Nat)(F:Fr)(C:c2)(K:fo):Prop:=
 ∀ bm u M',D.ext bm m.n->aI bm v u->cR (dg X G pr) bm m' I M'->K (put dst (.val u) F) C I M'
def ada(aq:o.op=.store t x y)(h:bN o.dst (GQ (X.E t) m (cS aj x) (cS aj y)) (λ_=>none)=some (v,m'))(H:hD D F aj o.op.operands.toList)(hm:cR (dg X G pr) D m I M)
  (k:pE X G pr D m I M v m' o.dst F C K):fO X o F C I M K:=by
 obtain⟨dst,op,ty,pos,after,guard⟩:=o;simp only at aq;subst aq;cases dst with
 |some d=>cases h
 |none=>
  have U:GQ (X.E t) m (cS aj x) (cS aj y)=some (v,m'):=h;unfold GQ at U;obtain⟨i,hi,U⟩:=ck U;obtain⟨a,ab,U⟩:=ck U;obtain⟨b,aN,U⟩:=ck U;obtain⟨ai,U⟩:=fF U;obtain⟨m2,aa,-,-,af⟩:=L2 (Y:=dg X G pr) U;cases aa;simp only at H;have tL:=H x (by simp[Op.operands]) _ ab;have vi:∀ q,a≠.b q:=λq e=>by subst e;cases U
  obtain⟨u,aw,aT⟩:=tL.tJ vi;obtain⟨w,aB,aU⟩:=H.br (x:=y) (by simp[Op.operands]) aN;obtain⟨g,off,a6,post,arr,T,rfl,a4,fS,jA,⟨id,e,gd,j4,wj,aA⟩,kv⟩:=af hm aT aU.cells;simp only[fO,hi,aB,aw];have cI:Nat.beq w.cells.size i.size=true:=by have:=aU.cells.len;rw[uC]at this;rw[this];exact ai
  rw[cI];simp only[bh];refine⟨a6,post,arr,T,a4,rfl,fS,jA,?_⟩;exact k D (.tuple #[]) _ bp.mJ (by simp only[aI];exact⟨[],.nil,rfl⟩) kv
def Tr(ah:∀ d,o.dst=some d->d<X.n)(cJ:∀ c,o.op≠.defer c)
  (h:∀ (β:Nat->Nat) (a:Act) (w:World),cp X β a w F C I M->∃ u w' I' M',(execOp a.eval o).run X.P w=.ok (.value u) w'/\cp X β a w' F C I' M'/\K (put o.dst (.val u) F) C I' M'):bl X o F C I M K:=by
 refine⟨λa w Q ⟨β,a1⟩=>?_⟩;obtain⟨u,w',I',M',U,aa,af⟩:=h β a w a1;exact hV cJ U ⟨_,_,_,_,⟨β,aa.put (x:=.val u) ah rfl⟩,af⟩
def adb(ah:o.dst=none)(cJ:∀ c,o.op≠.defer c)
  (h:∀ (β:Nat->Nat) (a:Act) (w:World),cp X β a w F C I M->∃ w' I' M',(execOp a.eval o).run X.P w=.ok .skip w'/\cp X β a w' F C I' M'/\K F C I' M'):bl X o F C I M K:=by
 refine⟨λa w Q ⟨β,a1⟩=>?_⟩;obtain⟨w',I',M',U,aa,af⟩:=h β a w a1;refine zu cJ U ⟨_,_,_,_,⟨β,?_⟩,af⟩;rw[ah];exact aa
def Ts(aE:cE X.P X.E)(ah:∀ d,o.dst=some d->d<X.n){r:Option Operand}(aq:o.op=.makeMap t r)(h:GR (X.E t) m=some (v,m'))(al:∀ x,r=some x->∃ k n,br F x=.val (.int k n))(hm:cR (dg X G pr) D m I M)
  (k:pE X G pr D m I M v m' o.dst F C K):bl X o F C I M K:=by
 unfold GR at h;split at h
 ·rename_i sa qi sz fy e av;obtain⟨d,eM,e4⟩:=(aE _ _ av).eJ;have U:d=.map fy e:=by cases d<;>simp_all[eD]
  subst U;obtain⟨eS,aa,af⟩:=DH h;cases af;refine Tr ah (by rw[aq];simp) fun β a w a1=>?_;refine⟨.map (some w.heap.size),w.alloc (.map #[] 0),I,⟨w.heap.size,.map #[] 0⟩::M,?_,a1.mM _,?_⟩
  ·unfold execOp;cases r with
   |none=>simp[aq,Instr.makeMap]| some x=>obtain⟨dO,hs,ab⟩:=al x rfl;have Jz:=cV a1.aj ab;simp[aq,Jz,Instr.makeMap,run_underlying eM,asInt,l7]
  ·have az:∀ x∈M,x.num≠w.heap.size:=a1.holds.oF;refine k _ _ _ bp.A3 (by simp only[aI];exact⟨_,bp.pC _ _ ⟨w.heap.size,0,0⟩,rfl⟩) (hm.new (a:=⟨w.heap.size,0,0⟩) aa az ?_);exact .map [] 0 (by simp) .nil
 ·cases h
def jQ.Tt{es:List (ak×ak)}(h:jQ D E M a (.map es)):∃ l clock,(⟨a.b,.map l.toArray clock⟩:ay)∈M/\oo D es l:=by
 cases h with
 |map l clock U aa=>exact⟨l,clock,U,aa⟩
def aI.map'{id:Nat}(h:aI D (.m id) u):∃ a,D id=some a/\u=.map (some a.b):=by simpa only[aI]using h
def ade(aE:cE X.P X.E)(ah:∀ d,o.dst=some d->d<X.n){ok:Bool}(aq:o.op=.lookup t x y ok)(h:Lu X.P X.E t m (cS aj x) (cS aj y) ok=some (v,m'))(H:hD D F aj o.op.operands.toList)
  (hm:cR (dg X G pr) D m I M) (k:pE X G pr D m I M v m' o.dst F C K):bl X o F C I M K:=by
 unfold Lu at h;split at h
 ·rename_i sa qi sz fy e id adf av U aa;obtain⟨tK,h⟩:=fF h;split at h
  ·rename_i es aA;obtain⟨r,al,h⟩:=ck h;obtain⟨inf,hi,h⟩:=ck h;obtain⟨z,bg,h⟩:=ck h;obtain⟨qA,xD,h⟩:=ck h;cases h;obtain⟨d,eM,e4⟩:=(aE _ _ av).eJ;have gZ:d=.map fy e:=by cases d<;>simp_all[eD]
   subst gZ;obtain⟨iy,p6,yX⟩:=Tn aE tK;rw[aq]at H;obtain⟨sq,aw,aT⟩:=H.br (x:=x) (by simp[Op.operands]) U;obtain⟨pD,aB,aU⟩:=H.br (x:=y) (by simp[Op.operands]) aa;obtain⟨a,aC,rfl⟩:=aT.map';have he:=hm.hg _ _ _ aA aC;obtain⟨l,clock,a4,L4⟩:=he.Tt;have nO:=Tp yX aU 0 L4 al;have He:aI D qA z:=.of xD;have fin:∀ {q:Option (Nat×Value)},Instr.findNow iy pD l 0=some q->(r=none/\q=none\/∃ rv j w,r=some rv/\q=some (j,w)/\aI D rv w)->bl X o F C I M K:=fun {q} az aO=>by
    refine Tr ah (by rw[aq];simp) fun β ac w a1=>?_;have eK:=ac7 (P:=X.P) (w:=w) eM p6 (yX.isKey aU) (a1.holds.m _ a4) az hi bg ok;have ex:=cV a1.aj aw;have nV:=cV a1.aj aB;refine⟨bif ok then .tuple #[(q.map (·.2)).getD z,.bool q.isSome]else(q.map (·.2)).getD z,w,I,M,?_,a1,k D _ M bp.mJ ?_ hm⟩;·unfold execOp;simp only[aq,ex,nV,bZ,eK,bK,cG]
    ·unfold SP;rcases aO with⟨rfl,rfl⟩ | ⟨rv,j,w',rfl,rfl,ag⟩
     ·cases ok
      ·exact He
      ·exact .G8 (.cons He (.cons (by simp only[aI];rfl) .nil))
     ·cases ok
      ·exact ag
      ·exact .G8 (.cons ag (.cons (by simp only[aI];rfl) .nil))
   cases r with
   |none=>exact fin nO (.inl ⟨rfl,rfl⟩)| some rv=>obtain⟨j,w,az,ag⟩:=nO;exact fin az (.inr ⟨rv,j,w,rfl,rfl,ag⟩)
  ·cases h
 ·cases h
def Tu(aE:cE X.P X.E){z:Operand}(aq:o.op=.mapUpdate t x y z\/o.op=.insert t x y z)(h:bN o.dst (Dx X.E t m (cS aj x) (cS aj y) (cS aj z)) (λ_=>none)=some (v,m'))(H:hD D F aj o.op.operands.toList)
  (hm:cR (dg X G pr) D m I M) (k:pE X G pr D m I M v m' o.dst F C K):bl X o F C I M K:=by
 cases DI:o.dst with
 |some d=>rw[DI]at h;cases h
 |none=>
  rw[DI]at h k;have ao:Dx X.E t m (cS aj x) (cS aj y) (cS aj z)=some (v,m'):=h;have sR:∀ q,q=x\/q=y\/q=z->q∈o.op.operands.toList:=λq aO=>by
   rcases aq with aq | aq<;>rw[aq]<;>simp[Op.operands]<;>exact aO
  unfold Dx at ao;split at ao
  ·rename_i sa qi sz fy e id adf qA av U aa af;obtain⟨tK,ao⟩:=fF ao;split at ao
   ·rename_i es aA;obtain⟨sr,kf,ao⟩:=ck ao;obtain⟨eS,aR,bC⟩:=a8.mG (some (fe.map sr)) m.t id;have hp:(m.t.lx (some (fe.map sr)) id λt=>some (ak.t [],(⟨t,m.n⟩:bi)))=some (v,m'):=ao;rw[aR]at hp;cases hp;obtain⟨d,eM,e4⟩:=(aE _ _ av).eJ;have gZ:d=.map fy e:=by cases d<;>simp_all[eD]
    subst gZ;obtain⟨iy,p6,yX⟩:=Tn aE tK;obtain⟨sq,aw,aT⟩:=H.br (x:=x) (sR x (.inl rfl)) U;obtain⟨pD,aB,aU⟩:=H.br (x:=y) (sR y (.inr (.inl rfl))) aa;obtain⟨xb,bD,bG⟩:=H.br (x:=z) (sR z (.inr (.inr rfl))) af;obtain⟨a,aC,rfl⟩:=aT.map';have he:=hm.hg _ _ _ aA aC;obtain⟨l,clock,a4,L4⟩:=he.Tt;have fin:∀ (c4:List MapEntry) (yY:Nat),oo D sr c4->(∀ w:World,w.heap[a.b]?=some (.map l.toArray clock)->(Instr.mapUpdate t (.map (some a.b)) pD xb).run X.P w=.ok () { w with heap:=w.heap.setIfInBounds a.b (.map c4.toArray yY) }) ->
      bl X o F C I M K:=λc4 yY oJ eK=>by
     obtain⟨a6,post,b0⟩:=sm a4;have iT:M.Perm (⟨a.b,.map l.toArray clock⟩::(a6++post)):=by rw[b0];exact pi
     refine adb DI (by rcases aq with aq | aq<;>rw[aq]<;>simp) fun β ac w jY=>?_;have a1:cp X β ac w F C I (⟨a.b,.map l.toArray clock⟩::(a6++post)):=jY.hh (.perm iT .refl);have vj:=jY.holds.m _ a4;have ex:=cV a1.aj aw;have nV:=cV a1.aj aB;have ng:=cV a1.aj bD;have fj:=MapKept.heap_set (o':=Obj.map c4.toArray yY) vj;refine⟨_,I,⟨a.b,.map c4.toArray yY⟩::(a6++post),?_,a1.swap (w':={ w with heap:=w.heap.setIfInBounds a.b (.map c4.toArray yY) }) (by simp) fj.1 fj.2 ⟨rfl,rfl⟩,?_⟩
     ·unfold execOp;rcases aq with aq | aq<;>simp only[aq,ex,nV,ng,bZ,eK w vj,bK,cG]
     ·have uz:∀ q∈M,q.num≠a.b->q∈(⟨a.b,.map c4.toArray yY⟩:ay)::(a6++post):=λq aO ax=>by
       rcases eg.1 (iT.mem_iff.1 aO)with rfl | aO;·exact(ax rfl).elim
       ·exact lZ _ aO
      refine k D (.tuple #[]) _ bp.mJ (by simp only[aI];exact⟨[],.nil,rfl⟩) ?_;refine hm.step (λi e hi=>(bC i e hi).imp (λq=>⟨q.1,mH q.2⟩) λq=>q) aC (bp.le_refl D) (λ_ _=>rfl) hm.h' (λ_ _ h=>h) (λi e bS bB hi ot q aO ax=>uz q aO ?_) (.map c4 yY (by simp) oJ) ?_;·rw[ax];exact λai=>bB (hm.inj _ _ _ _ _ _ hi aA ot aC ai)
      ·exact λi e bS bB hi ot ai=>bB (hm.inj _ _ _ _ _ _ hi aA ot aC ai)
    rcases Tq yX aU bG 0 L4 kf with⟨az,gn⟩ | ⟨j,bn,az,an,ap,uV⟩;·exact fin _ (clock+1) (gn clock) λw vj=>ac8 eM p6 (yX.isKey aU) vj az
    ·rw[dk]at az;have x3:bn.key=pD:=by
      cases yX with
      |int=>
       have:=aU.int;subst this;cases ae:bn.key<;>rw[ae]at ap<;>simp[Instr.sameNow]at ap
       obtain⟨rfl,h⟩:=ap;rw[h]
      |str=>
       have:=aU.str;subst this;cases ae:bn.key<;>rw[ae]at ap<;>simp[Instr.sameNow,To]at ap
       rw[ap]
     exact fin _ clock uV λw vj=>ac9 eM p6 (yX.isKey aU) vj az an x3
   ·cases ao
  ·cases ao
end
section
variable{X:cD}{G:GT}{pr:j3}{D:bp}{m m':bi}{F:Fr}{aj:a8 ak}{C:c2}{I:aS}{M:List ay}{K:fo}{o:Oper}{v:ak}
def Tv(aE:cE X.P X.E)(ah:∀ d,o.dst=some d->d<X.n){s d:Nat}(aq:o.op=.convert s d x){dd cx:Nat}{A5:List Value}(ap:X.E s=some ⟨cc,bI,rj,.slice e⟩)(gZ:X.E d=some ⟨dd,cx,A5,.string⟩)(ai:AN (X.E e)=true)
  {id off n:Nat} (h:GU G m id off n=some (v,m')) (ab:∃ a c,D id=some a/\br F x=.val (.slice (some ⟨a.b,a.o+off,none⟩) n c)) (hm:cR (dg X G pr) D m I M)
  (k:pE X G pr D m I M v m' o.dst F C K):bl X o F C I M K:=by
 unfold GU at h;obtain⟨a,c,aC,ex⟩:=ab;obtain⟨ad,l,vs,aw,bs,ar,h⟩:=w4 (u:=.pointer (some ⟨a.b,a.o+off,none⟩)) hm (by simp only[aI];exact⟨a,aC,rfl⟩) h;cases aw;obtain⟨cd,Cf,h⟩:=ck h;cases h;have g7:=L3 Cf ar;have bV:cd.length=n:=by have:=bs.2;obtain⟨_,_,_,_,_,aa⟩:=this;rw[<-aa,g7];simp
 subst g7;obtain⟨aD,he,kf⟩:∃ aD,X.E e=some aD/\aD.bz=.int .u8:=by
  unfold AN at ai;split at ai;·rename_i h;exact⟨_,h,rfl⟩
  ·cases ai
 refine bl.aaf aE aq ah ap rfl he kf gZ rfl ex bV bs ?_;exact k D _ M bp.mJ (by simp only[aI]) hm
def adg(aE:cE X.P X.E)(ah:∀ d,o.dst=some d->d<X.n){s d:Nat}(aq:o.op=.convert s d x)(h:GV (dg X G pr) m s d (cS aj x)=some (v,m'))(H:hD D F aj o.op.operands.toList)(hm:cR (dg X G pr) D m I M)
  (k:pE X G pr D m I M v m' o.dst F C K):bl X o F C I M K:=by
 unfold GV at h;rw[aq]at H;split at h
 ·rename_i U aa af;obtain⟨ai,h⟩:=fF h;obtain⟨u,aw,aT⟩:=H.br (x:=x) (by simp[Op.operands]) af;obtain⟨a,aC,rfl⟩:=aT.qh;exact Tv aE ah aq U aa ai h ⟨a,_,aC,aw⟩ hm k
 ·rename_i U aa af;obtain⟨ai,h⟩:=fF h;obtain⟨u,aw,aT⟩:=H.br (x:=x) (by simp[Op.operands]) af;obtain⟨a,aC,_,rfl⟩:=aT.sk;exact Tv aE ah aq U aa ai h ⟨a,_,aC,aw⟩ hm k
 ·rename_i U aa af;obtain⟨ai,h⟩:=fF h;obtain⟨u,aw,aT⟩:=H.br (x:=x) (by simp[Op.operands]) af;cases h;simp only[aI]at aT;subst aT;obtain⟨aD,he,kf⟩:∃ aD,X.E _=some aD/\aD.bz=.int .u8:=by
   unfold AN at ai;split at ai;·rename_i h;exact⟨_,h,rfl⟩
   ·cases ai
  refine bl.aag aE aq ah U rfl he kf aa rfl aw ?_;exact k D _ M bp.mJ (by simp only[aI]) hm
 ·cases h
def Tw(q:List UInt8):bx D (q.map λb=>ak.i .u8 (.ofNat b.toNat)) (jH ⟨q.toArray⟩):=by
 unfold jH;simp only
 induction q with
 |nil=>exact .nil| cons b q be=>exact .cons (by simp only[aI];rfl) be
def Hf{l:List Operand}{a b:ak}(h:lY aj l=some [a,b]):∃ x y,l=[x,y]/\cS aj x=some a/\cS aj y=some b:=by
 match l,h with
 |[],h=>simp[lY]at h
 |[x],h=>
  simp only[lY]at h;split at h;·rename_i aw aB;cases aB;cases h
  ·cases h
 |[x,y],h=>
  simp only[lY]at h;split at h
  ·rename_i aw aB;split at aB
   ·rename_i bD dH;cases dH;cases aB;cases h;exact⟨x,y,rfl,aw,bD⟩
   ·cases aB
  ·cases h
 |x::y::z::l,h=>
  simp only[lY]at h;split at h
  ·rename_i aw aB;split at aB
   ·rename_i bD dH;split at dH
    ·cases dH;cases aB;cases h
    ·cases dH
   ·cases aB
  ·cases h
def cR.sub{M':List ay}(h:cR (dg X G pr) D m I M)(ap:∀ x∈M,x∈M'):cR (dg X G pr) D m I M':=
 ⟨λid e a hi aC=>(h.hg id e a hi aC).mono (bp.le_refl D) (λx ab _=>ap x ab),h.inj,h.h',h.oj⟩
def adh(aE:cE X.P X.E)(ah:∀ d,o.dst=some d->d<X.n)(aq:o.op=.call { callee:=.builtin .copy,args:=args,argTypes:=ts })(h:Lw (dg X G pr) m ts.toList (lY aj args.toList)=some (v,m'))
  (H:hD D F aj args.toList) (hm:cR (dg X G pr) D m I M) (k:pE X G pr D m I M v m' o.dst F C K):bl X o F C I M K:=by
 unfold Lw at h;split at h
 ·rename_i t u id off n c q av ar;split at h
  ·rename_i sa qi sz e l9;obtain⟨aD,he,h⟩:=ck h;obtain⟨ai,h⟩:=fF h;rw[b3]at ai;obtain⟨m2,aa,-,-,af⟩:=L2 (Y:=dg X G pr) h;cases aa;obtain⟨x,y,kQ,yZ,adi⟩:=Hf ar;obtain⟨sq,ab,aU⟩:=H.br (x:=x) (by rw[kQ];simp) yZ;obtain⟨pD,aN,fk⟩:=H.br (x:=y) (by rw[kQ];simp) adi;obtain⟨a,aC,rfl⟩:=aU.qh;have adj:=fk.str;subst adj;obtain⟨g,EE,a6,post,arr,T,bD,a4,fS,jA,⟨g4,bn,gd,j4,wj,aA⟩,kv⟩:=af hm (u:=.pointer (some ⟨a.b,a.o+off,none⟩)) (by simp only[aI];exact⟨a,aC,rfl⟩) (Tw q);cases bD;have iT:M.Perm (⟨a.b,.cells arr T (0,0)⟩::(a6++post)):=by rw[a4];exact pi
   have y0:args=#[x,y]:=by apply fM;simpa using kQ
   have y1:ts=#[t,u]:=by apply fM;simpa using av
   have cI:(⟨q.toArray⟩:ByteArray).size=q.length:=by simp[ByteArray.size]
   have oY:(jH ⟨q.toArray⟩).length=q.length:=by simp[jH]
   refine bl.OB aE (by rw[aq,y0,y1]) ah l9 rfl he (cf ai.1) ab aN (by rw[cI];exact bJ ai.2) (by rw[cI,<-oY];exact fS) iT ?_;rw[cI];have adk:(a6++(⟨a.b,.cells (bu arr.toList (a.o+off) (jH ⟨q.toArray⟩)).toArray T (0,0)⟩:ay)::post).Perm (⟨a.b,.cells (bu arr.toList (a.o+off) (jH ⟨q.toArray⟩)).toArray T (0,0)⟩::(a6++post)):=pi;exact k D (.int .i64 q.length) _ bp.mJ (by simp only[aI];rfl) (kv.sub λx ab=>adk.mem_iff.1 ab)
  ·cases h
 ·cases h
end
section
variable{P:Program}{w:World}
def Tx(t u ty e:Nat)(i:TypeInfo)(av:P.underlying t=some (.slice e))(hu:P.underlying u=some mb)(nR:∀ k,mb≠.int k)(hi:P.info? e=some i)
 {n c T:Nat} {arr:Array Value} (aA:w.heap[g]?=some (.cells arr T (0,0))) {x:Value} {m:Nat} (U:∀ v∈ct,v.oneCell'=true)
  (bV:∀ w',(Builtin.lenOf x).run P w'=.ok m w') (gn:(Builtin.firstCells i.size m x).run P w=.ok ct.toArray w) (qL:n+m<=c) (fS:off+n*i.size+ct.length<=arr.size) :
  (Builtin.append_ #[t,u] ty #[.slice (some ⟨g,off,none⟩) n c,x]).run P w=.ok (.slice (some ⟨g,off,none⟩) (n+m) c) (w.setRow g (bu arr.toList (off+n*i.size) ct).toArray):=by
 have B9:(match mb with | .int _=>true | _=>false)=false:=by cases mb<;>first | rfl | exact(nR _ rfl).elim
 have dw:=run_storeCells_at P g (off+n*i.size) T ct 0 arr w aA (by simpa using fS) U;simp only[qn]at dw;have KS:(Addr.add ⟨g,off,none⟩ (n*i.size))=⟨g,off+n*i.size,none⟩:=dS _ rfl _;simp[Builtin.append_,run_underlying av,run_underlying hu,sizeOf,typeInfo,hi,bV,qL,gn,KS,dw,bu]
def adl(t u ty e:Nat)(i:TypeInfo)(z:Value)(av:P.underlying t=some (.slice e))(hu:P.underlying u=some mb)(nR:∀ k,mb≠.int k)(hi:P.info? e=some i)(bg:i.zero=some z)(uF:z.cells.size=i.size)
 {n c:Nat} (hold:(Builtin.firstCells i.size n (.slice a3 n c)).run P w.drew=.ok xs.toArray w.drew) (l0:xs.length=n*i.size) {x:Value} {m:Nat} (ar:ct.length=m*i.size)
  (bV:∀ w',(Builtin.lenOf x).run P w'=.ok m w') (gn:(Builtin.firstCells i.size m x).run P w.drew=.ok ct.toArray w.drew) (qL:c<n+m) (bI:n+m<=maxLen) (cx:(n+m)*i.bytes<=140737488355328) :
  ∃ cap aJ,(Builtin.append_ #[t,u] ty #[.slice a3 n c,x]).run P w=.ok (.slice (some ⟨w.heap.size,0,none⟩) (n+m) cap) (w.drew.alloc (.cells (xs++ct++aJ).toArray e (0,0)))/\n+m<=cap/\cap<=maxLen/\(xs++ct++aJ).length=cap*i.size:=by
 have B9:(match mb with | .int _=>true | _=>false)=false:=by cases mb<;>first | rfl | exact(nR _ rfl).elim
 have ax:¬ (n+m<=c):=by omega
 have nS:n+m<=9223372036854775807:=by simp only[maxLen]at bI;exact bI
 have B':¬ (9223372036854775807<((n:Int)+(m:Int))):=by omega
 have Ca:¬ (281474976710656<Builtin.nextslicecap (n+m) c*i.bytes):=by have:=growslice_fits (by omega:c<n+m) cx;omega
 have c1:=grownCap_ge w (n+m) c e;have kK:grownCap w (n+m) c e<=maxLen:=grownCap_le_maxLen w (n+m) c e bI;refine⟨grownCap w (n+m) c e,(Builtin.zeroCells z.cells (grownCap w (n+m) c e-(n+m))).toList,?_,c1,kK,?_⟩
 ·simp[Builtin.append_,run_underlying av,run_underlying hu,sizeOf,typeInfo,zeroValue,hi,bg,bV,ax,B',Ca,Question.forced,gn,hold,newRow,grownCap];congr 2;apply fM;simp
 ·rw[cU,cU,l0,ar,uC,size_zeroCells,uF,<-jG,<-jG];congr 1;omega
end
section
variable{X:cD}{G:GT}{pr:j3}{D:bp}{m m':bi}{F:Fr}{aj:a8 ak}{C:c2}{I:aS}{M:List ay}{K:fo}{o:Oper}{v:ak}
def ca.L5{ad:Addr}{n:Nat}{vs:List Value}(h:ca I M ad n vs){w:World}(jW:dY I M w)(j:Nat)(v:Value)(an:vs[j]?=some v):w.cell? (ad.add j)=some v:=by
 obtain⟨b0,cs,T,aj,dR,ag,ar⟩:=h;rw[dS _ b0,sH (dR.heap jW)];rw[<-ag,kx]at an;split at an
 ·rw[pI]at an;simpa using an
 ·cases an
def adm{x:ak}{k:Nat}{K:List ak->Option R}{r:R}(h:AO G m.t x aD.size K=some r)(ap:tG ut aD x=true)(ab:aI D x u)(hm:cR (dg X G pr) D m I M)(ae:qf x=some k)(ao:k≠0) :
  ∃ l vs,K l=some r/\bx D l vs/\(∀ w',(Builtin.lenOf u).run X.P w'=.ok k w')/\(∀ w,dY I M w->(Builtin.firstCells aD.size k u).run X.P w=.ok vs.toArray w)/\vs.length=k*aD.size /\
   ((∃ a b z e,ut=some ⟨a,b,z,.slice e⟩)\/∃ a b z,ut=some ⟨a,b,z,.string⟩):=by
 have L6:(∃ a b z e,ut=some ⟨a,b,z,.slice e⟩)\/∃ a b z,ut=some ⟨a,b,z,.string⟩:=by
  unfold tG at ap;split at ap<;>first | exact .inl ⟨_,_,_,_,rfl⟩ | exact .inr ⟨_,_,_,rfl⟩ | cases ap
 cases x<;>simp only[AO]at h<;>first | cases h | skip
 case sn=>simp[qf,tF]at ae;exact(ao ae.symm).elim
 case so=>simp[qf,tF]at ae;exact(ao ae.symm).elim
 case sl id off n c=>
  simp only[qf,tF,iJ]at ae;subst ae;obtain⟨a,aC,rfl⟩:=ab.qh;obtain⟨ad,l,vs,aw,bs,ar,h⟩:=w4 (u:=.pointer (some ⟨a.b,a.o+off,none⟩)) hm (by simp only[aI];exact⟨a,aC,rfl⟩) h;cases aw;have DL:=bs;obtain⟨_,_,_,_,_,_,bV⟩:=DL;exact⟨l,vs,h,ar,λ_=>rfl,λw hw=>run_firstCells_some (P:=X.P) w aD.size n _ n c vs bV (λj v an=>bs.L5 hw j v an),bV,L6⟩
 case sx id off e n=>
  simp only[qf,tF,iJ]at ae;subst ae;obtain⟨a,aC,_,rfl⟩:=ab.sk;obtain⟨ad,l,vs,aw,bs,ar,h⟩:=w4 (u:=.pointer (some ⟨a.b,a.o+off,none⟩)) hm (by simp only[aI];exact⟨a,aC,rfl⟩) h;cases aw;have DL:=bs;obtain⟨_,_,_,_,_,_,bV⟩:=DL;exact⟨l,vs,h,ar,λ_=>rfl,λw hw=>run_firstCells_some (P:=X.P) w aD.size n _ n _ vs bV (λj v an=>bs.L5 hw j v an),bV,L6⟩
 case s q=>
  simp only[qf,iJ]at ae;subst ae;have adn:aD.size=1:=by
   unfold tG at ap;split at ap<;>first | exact cf ap | (rename_i e;cases e) | cases ap
  have:=ab.str;subst this;have aO:(⟨q.toArray⟩:ByteArray).size=q.length:=by simp[ByteArray.size]
  refine⟨_,jH ⟨q.toArray⟩,h,Tw q,λw=>?_,λw hw=>?_,by simp[jH,adn],L6⟩;·show Result.ok _ _=_;rw[aO]
  ·have:=Oi w aD.size (P:=X.P) ⟨q.toArray⟩;rw[aO]at this;exact this
def L7(aE:cE X.P X.E)(ah:∀ d,o.dst=some d->d<X.n){s:Operand}{u:Nat}(aq:o.op=.call { callee:=.builtin .append,args:=#[s,x],argTypes:=#[t,u] })
 (av:X.E t=some ⟨cc,bI,rj,.slice e⟩) (hu:X.E u=some lF) (e':∀ k,lF.bz≠.int k) (he:X.E e=some aD)
 {n c k:Nat} {L8:Value} (ap:br F s=.val (.slice a3 n c)) (ab:br F x=.val L8) (l0:xs.length=n*aD.size) (qH:ct.length=k*aD.size) (U:hH ct=true)
  (bV:∀ w',(Builtin.lenOf L8).run X.P w'=.ok k w') (gn:∀ w,dY I M w->(Builtin.firstCells aD.size k L8).run X.P w=.ok ct.toArray w)
  (hold:∀ w,dY I M w->(Builtin.firstCells aD.size n (.slice a3 n c)).run X.P w=.ok xs.toArray w) (bI:n+k<=maxLen) (cx:(n+k)*aD.bytes<=140737488355328)
  (ado:n+k<=c->∃ g off T arr a6 post,a3=some ⟨g,off,none⟩/\M=a6++⟨g,.cells arr T (0,0)⟩::post/\off+n*aD.size+ct.length<=arr.size /\ K (put o.dst (.val (.slice a3 (n+k) c)) F) C I (a6++⟨g,.cells (bu arr.toList (off+n*aD.size) ct).toArray T (0,0)⟩::post))
  (adp:c<n+k->∀ b cap aJ,I b=none->(∀ y∈M,y.num≠b)->n+k<=cap->cap<=maxLen->(xs++ct++aJ).length=cap*aD.size ->
   K (put o.dst (.val (.slice (some ⟨b,0,none⟩) (n+k) cap)) F) C I (⟨b,.cells (xs++ct++aJ).toArray e (0,0)⟩::M)):bl X o F C I M K:=by
 refine⟨λa w Q ⟨β,a1⟩=>?_⟩;obtain⟨inf,z,hi,fa,g8,hY,ka⟩:=(aE _ _ he).inf;obtain⟨d,eM,e4⟩:=(aE _ _ hu).eJ;obtain⟨fl,pS,ke⟩:=(aE _ _ av).eJ;have rL:fl=.slice e:=by cases fl<;>simp_all[eD]
 subst rL;have uF:z.cells.size=inf.size:=by rw[fa,<-(aE _ _ he).len,<-ka];simp
 have es:=cV a1.aj ap;have ex:=cV a1.aj ab;have nR:∀ k,d≠.int k:=λk bn=>e' k (by rw[<-e4,bn];rfl);rw[<-fa]at l0 qH hold gn;by_cases qL:n+k<=c
 ·obtain⟨g,off,T,arr,a6,post,rfl,a4,fS,ae⟩:=ado qL;rw[<-fa]at fS ae;have aA:w.heap[g]?=some (.cells arr T (0,0)):=a1.holds.m ⟨g,.cells arr T (0,0)⟩ (by rw[a4];simp);have eK:=Tx (P:=X.P) (w:=w) t u o.type e inf pS eM nR hi aA (xx U) bV (gn w a1.holds) qL fS;refine hV (by rw[aq];simp) ?_ ⟨_,_,_,_,⟨β,cp.put (x:=.val (.slice (some ⟨g,off,none⟩) (n+k) c)) (a1.vy a4) ah rfl⟩,ae⟩;unfold execOp;simp only[aq,resolve,invoke,builtin,bZ,cG,bK,sX,dV,mU,es,ex,eK]
 ·have jW:dY I M w.drew:=a1.holds.heap rfl;obtain⟨cap,aJ,eK,aa,af,aR⟩:=adl (P:=X.P) (w:=w) t u o.type e inf z pS eM nR hi hY uF (hold w.drew jW) l0 qH bV (gn w.drew jW) (by omega) bI (by rw[g8];exact cx);have oZ:cp X β a w.drew F C I M:=a1.world rfl;rw[fa]at aR;refine hV (by rw[aq];simp) ?_ ⟨_,_,_,_,⟨β,cp.put (x:=.val (.slice (some ⟨w.heap.size,0,none⟩) (n+k) cap)) (oZ.mM (.cells (xs++ct++aJ).toArray e (0,0))) ah rfl⟩,adp (by omega) w.heap.size cap aJ a1.holds.pK a1.holds.oF aa af aR⟩;unfold execOp;simp only[aq,resolve,invoke,builtin,bZ,cG,bK,sX,dV,mU,es,ex,eK]
def Ty{u:Nat}{x:ak}(h:tG (X.E u) aD x=true):∃ lF,X.E u=some lF/\∀ k,lF.bz≠.int k:=by
 unfold tG at h;split at h<;>first | (cases h;done) | (rename_i e;exact⟨_,e,by simp⟩) | (rename_i e _;exact⟨_,e,by simp⟩) | (rename_i e _ _;exact⟨_,e,by simp⟩)
def adq{s:ak}(h:AQ s=true)(ap:aI D s u):∃ a n c,u=.slice a n c/\n<=c:=by
 cases s<;>simp only[AQ,jw]at h
 case sn=>exact⟨_,_,_,ap.yV,cC _⟩
 case so=>obtain⟨a,c,rfl⟩:=ap.G6;exact⟨_,_,_,rfl,bq _⟩
 case sl=>obtain⟨a,_,rfl⟩:=ap.qh;exact⟨_,_,_,rfl,bJ h⟩
 case sx=>obtain⟨a,_,bo,rfl⟩:=ap.sk;exact⟨_,_,_,rfl,by omega⟩
def adr{x:ak}(ap:tG ut aD x=true)(ab:aI D x u)(ae:qf x=some 0):(∃ b c,u=.slice b 0 c)\/u=.string .empty:=by
 cases x<;>simp[qf,tF]at ae
 case sn=>exact .inl ⟨_,_,ab.yV⟩
 case so=>obtain⟨a,c,rfl⟩:=ab.G6;exact .inl ⟨_,_,rfl⟩
 case sl=>subst ae;obtain⟨a,_,rfl⟩:=ab.qh;exact .inl ⟨_,_,rfl⟩
 case sx=>subst ae;obtain⟨a,_,_,rfl⟩:=ab.sk;exact .inl ⟨_,_,rfl⟩
 case gs=>subst ae;exact .inl ⟨_,_,ab.LO⟩
 case s=>subst ae;exact .inr ab.str
noncomputable abbrev L9(X:cD)(G:GT)(m:bi)(s x:ak)(aD:dz)(kn e:Nat):List ak->Option (ak×bi):=λl=>bN (some kn) none λk=>bR (Nat.beq k 0) (bR (AQ s) (some (s,m)) none) (bR (l.all ak.one) (Du G m s l k aD.size aD.bytes e) none)
def ads(aE:cE X.P X.E)(ah:∀ d,o.dst=some d->d<X.n){u:Nat}(aq:o.op=.call { callee:=.builtin .append,args:=#[os,oq],argTypes:=#[t,u] })
 (av:X.E t=some ⟨cc,bI,rj,.slice e⟩) {s x:ak} (px:tG (X.E u) aD x=true) (he:X.E e=some aD) (ae:qf x=some 0) {us:Value}
  (es:br F os=.val us) (gs:aI D s us) (ex:br F oq=.val j9) (xd:aI D x j9) (h:AO G m.t x aD.size (L9 X G m s x aD 0 e)=some (v,m'))
  (hm:cR (dg X G pr) D m I M) (k:pE X G pr D m I M v m' o.dst F C K):bl X o F C I M K:=by
 have aa:∃ l,L9 X G m s x aD 0 e l=some (v,m'):=by
  cases x<;>simp only[AO]at h<;>first | cases h | exact⟨_,h⟩ | skip
  case sl=>obtain⟨a,aC,rfl⟩:=xd.qh;obtain⟨_,l,_,_,_,_,h⟩:=w4 (u:=.pointer (some ⟨a.b,a.o+_,none⟩)) hm (by simp only[aI];exact⟨a,aC,rfl⟩) h;exact⟨l,h⟩
  case sx=>obtain⟨a,aC,_,rfl⟩:=xd.sk;obtain⟨_,l,_,_,_,_,h⟩:=w4 (u:=.pointer (some ⟨a.b,a.o+_,none⟩)) hm (by simp only[aI];exact⟨a,aC,rfl⟩) h;exact⟨l,h⟩
 obtain⟨l,aa⟩:=aa;have af:bR (AQ s) (some (s,m)) none=some (v,m'):=aa;obtain⟨aL,af⟩:=fF af;cases af;obtain⟨a,n,c,rfl,lI⟩:=adq aL gs;obtain⟨lF,hu,e'⟩:=Ty px;exact bl.Pb aE aq ah av rfl hu e' he es lI ex (adr px xd ae) (k D _ M bp.mJ gs hm)
def adt(aE:cE X.P X.E)(ah:∀ d,o.dst=some d->d<X.n){u:Nat}(aq:o.op=.call { callee:=.builtin .append,args:=#[os,oq],argTypes:=#[t,u] })
 (av:X.E t=some ⟨cc,bI,rj,.slice e⟩) (hu:X.E u=some lF) (e':∀ k,lF.bz≠.int k) (he:X.E e=some aD) {us:Value} {id off n c kn:Nat}
  (es:br F os=.val us) (gs:aI D (.sl id off n c) us) (ex:br F oq=.val j9) {l:List ak} {vs:List Value} (h:Ls G m id off n c l kn aD.size e=some (v,m')) (nS:n+kn<=maxLen) (eW:(n+kn)*aD.bytes<=140737488355328)
  (ar:bx D l vs) (p7:vs.length=kn*aD.size) (U:hH vs=true) (bV:∀ w',(Builtin.lenOf j9).run X.P w'=.ok kn w') (gn:∀ w,dY I M w->(Builtin.firstCells aD.size kn j9).run X.P w=.ok vs.toArray w)
  (hm:cR (dg X G pr) D m I M) (k:pE X G pr D m I M v m' o.dst F C K):bl X o F C I M K:=by
 have DM:∀ {q:List Value} {c:Nat},q.length=c*aD.size->∀ i,(dg X G pr).E e=some i->q.length=c*i.size:=λaO i hi=>by have:X.E e=some i:=hi;rw[he]at this;cases this;exact aO
 obtain⟨a,aC,rfl⟩:=gs.qh;unfold Ls at h;by_cases al:n+kn<=c
 ·have ai:Nat.ble (Nat.add n kn) c=true:=yo al;rw[ai]at h;have a':vf m (.p id (Nat.add off (Nat.mul n aD.size))) l (λm=>some (ak.sl id off (Nat.add n kn) c,m))=some (v,m'):=h;obtain⟨m2,aa,-,-,af⟩:=L2 (Y:=dg X G pr) a';cases aa;obtain⟨g,EE,a6,post,arr,T,aw,a4,fS,jA,⟨g4,bn,gd,j4,wj,aA⟩,kv⟩:=af hm (u:=.pointer (some ⟨a.b,a.o+(off+n*aD.size),none⟩)) (by simp only[aI];exact⟨a,aC,rfl⟩) ar;cases aw;refine⟨λac w Q ⟨β,a1⟩=>?_⟩;obtain⟨inf,z,hi,fa,g8,hY,ka⟩:=(aE _ _ he).inf;obtain⟨d,eM,e4⟩:=(aE _ _ hu).eJ;obtain⟨fl,pS,ke⟩:=(aE _ _ av).eJ;have rL:fl=.slice e:=by cases fl<;>simp_all[eD]
  subst rL;have aA:w.heap[a.b]?=some (.cells arr T (0,0)):=a1.holds.m ⟨a.b,.cells arr T (0,0)⟩ (by rw[a4];simp);have sr:=cV a1.aj es;have y2:=cV a1.aj ex;rw[<-fa]at gn;have eK:=Tx (P:=X.P) (w:=w) t u o.type e inf pS eM (λk bn=>e' k (by rw[<-e4,bn];rfl)) hi aA (xx U) bV (gn w a1.holds) al (off:=a.o+off) (by rw[fa];omega);rw[fa,oA]at eK;have oZ:=a1.vy (cs':=(bu arr.toList (a.o+(off+n*aD.size)) vs).toArray) a4;refine hV (by rw[aq];simp) ?_ ⟨_,_,_,_,⟨β,cp.put (x:=.val (.slice (some ⟨a.b,a.o+off,none⟩) (n+kn) c)) oZ ah rfl⟩,?_⟩;·unfold execOp;simp only[aq,resolve,invoke,builtin,bZ,cG,bK,sX,dV,mU,sr,y2,eK]
  ·exact k D _ _ bp.mJ (by simp only[aI];exact⟨a,aC,rfl⟩) kv
 ·have ai:Nat.ble (Nat.add n kn) c=false:=by
   cases ai:Nat.ble (Nat.add n kn) c with
   |false=>rfl| true=>exact absurd (bJ ai) al
  rw[ai]at h;have a':tE G m.t (.p id off) (Nat.mul n aD.size) (λc3=>si m (c3++l) e λid m=>some (ak.sx id 0 0 (Nat.add n kn),m))=some (v,m'):=h;obtain⟨ad,c3,xs,aw,bs,ev,aa⟩:=w4 (u:=.pointer (some ⟨a.b,a.o+off,none⟩)) hm (by simp only[aI];exact⟨a,aC,rfl⟩) a';cases aw;obtain⟨m2,bO,ax,eo⟩:=LZ (Y:=dg X G pr) aa;cases bO;have DL:=bs;obtain⟨_,_,_,_,_,_,kP⟩:=DL;refine L7 aE ah aq av hu e' he es ex kP p7 U bV gn (λw hw=>run_firstCells_some (P:=X.P) w aD.size n _ n c xs kP (λj v an=>bs.L5 hw j v an)) nS eW (λgj=>(al gj).elim) λ_ b cap aJ bF az DN DO DP=>?_;refine k _ _ _ bp.A3 ?_ (eo aJ hm az (ev.append ar) (DM DP) DO);simp only[aI];exact⟨_,bp.pC _ _ _,by simpa using DN,by simp⟩
def adu(aE:cE X.P X.E)(ah:∀ d,o.dst=some d->d<X.n){u:Nat}(aq:o.op=.call { callee:=.builtin .append,args:=#[os,oq],argTypes:=#[t,u] })
 (av:X.E t=some ⟨cc,bI,rj,.slice e⟩) (hu:X.E u=some lF) (e':∀ k,lF.bz≠.int k) (he:X.E e=some aD) {us:Value} {id n eQ kn:Nat} {cs:a8 ak}
  (es:br F os=.val us) (gs:aI D (.sx id 0 0 n) us) (ex:br F oq=.val j9) (aA:m.t.get id=some (.cells cs e eQ)) {l:List ak} {vs:List Value} (h:Lt m id n cs eQ l kn aD.size e=some (v,m')) (nS:n+kn<=maxLen) (eW:(n+kn)*aD.bytes<=140737488355328)
  (ar:bx D l vs) (p7:vs.length=kn*aD.size) (U:hH vs=true) (bV:∀ w',(Builtin.lenOf j9).run X.P w'=.ok kn w') (gn:∀ w,dY I M w->(Builtin.firstCells aD.size kn j9).run X.P w=.ok vs.toArray w)
  (hm:cR (dg X G pr) D m I M) (k:pE X G pr D m I M v m' o.dst F C K):bl X o F C I M K:=by
 obtain⟨a,aC,bo,rfl⟩:=gs.sk;have nB:=hm.hg _ _ _ aA aC;obtain⟨arr,vk,a4,cI,aL,ae,iE⟩:=nB;unfold Lt at h;obtain⟨w9,h⟩:=fF h;have Tz:n*aD.size<=eQ:=bJ w9;obtain⟨t1,aa,af⟩:=a8.mG (none:Option fe) m.t id;rw[aa]at h;obtain⟨cs',aR,bC⟩:=a8.vh l cs (Nat.mul n aD.size);have a':a8.vc l cs (Nat.mul n aD.size) (λcs=>yP (⟨t1,m.n⟩:bi) (.cells cs e (Nat.mul (Nat.add n kn) aD.size)) λid m=>some (ak.sx id 0 0 (Nat.add n kn),m))=some (v,m'):=h;rw[aR]at a';obtain⟨t2,bO,eo⟩:=DH a';cases eo;have kN:∀ i ey,t1.get i=some ey->i≠id/\m.t.get i=some ey:=λi ey hi=>by
  rcases af i ey hi with⟨_,gg⟩ | gg;·cases gg
  ·exact gg
 have TA:cR (dg X G pr) D ⟨t1,m.n⟩ I M:=⟨λi ey b hi=>hm.hg i ey b (kN i ey hi).2,λi fQ ey xe b hX hi cw=>hm.inj i fQ ey xe b hX (kN i ey hi).2 (kN fQ xe cw).2,hm.h',hm.oj⟩;have TB:arr.size=a.c*aD.size:=by have:=ae aD he;rw[vk,dk]at this;exact this
 have G4:=ar.len;have l0:((arr.toList.take (n*aD.size)).length=n*aD.size):=by rw[ma,uC];omega
 have CF:∀ j,j<n*aD.size->∀ v,cs.get j=some v->∃ x,(arr.toList.take (n*aD.size))[j]?=some x/\aI D v x:=λj an v ag=>by obtain⟨x,aT,aU⟩:=aL j v (by omega) ag;rw[vk,dk]at aT;exact⟨x,by rw[kx,cK an];simpa using aT,aU⟩
 have TC:∀ (bm:bp) (M':List ay) (b er:Nat) (a2:List Value),D.le bm->(⟨b,.cells (arr.toList.take (n*aD.size)++vs++a2).toArray e (0,0)⟩:ay)∈M'->(arr.toList.take (n*aD.size)++vs++a2).length=er*aD.size->er<=maxLen ->
   jQ bm X.E M' ⟨b,0,er⟩ (.cells cs' e (Nat.mul (Nat.add n kn) aD.size)):=by
  intro bm M' b er a2 cT KO RR adv;have hmul:(n+kn)*aD.size=n*aD.size+kn*aD.size:=jG _ _ _;refine .cells _ rfl KO ?_ (λi v hi DK=>?_) (λi hi=>?_) adv;·show 0+(n+kn)*aD.size<=_;rw[rs,cU,cU,l0,p7];omega
  ·have cw:i<n*aD.size+kn*aD.size:=by have:i<(n+kn)*aD.size:=hi;omega
   simp only[dk,xp];rcases bC i v DK with⟨aT,aU⟩ | ⟨aT,aU⟩;·have Hg:n*aD.size<=i:=aT;obtain⟨x,bG,fk⟩:=ar.get (i:=i-n*aD.size) aU;refine⟨x,?_,fk.mono cT⟩;rw[gl,mS (by omega),l0,oy (by omega)];exact bG
   ·have Hg:i<n*aD.size:=by
     rcases aT with aT | aT;·exact aT
     ·have:n*aD.size+l.length<=i:=aT;omega
    obtain⟨x,bG,fk⟩:=CF i Hg v aU;refine⟨x,?_,fk.mono cT⟩;rw[gl,oy (by omega)];exact bG
  ·rw[he]at hi;cases hi;simpa using RR
 refine L7 aE ah aq av hu e' he es ex l0 p7 U bV gn (λw hw=>?_) nS eW (λal=>?_) λ_ b cap aJ bF az DN DO DP=>?_
 ·refine run_firstCells_some (P:=X.P) w aD.size n _ n _ _ l0 λj v an=>?_;rw[dS _ rfl,sH (hw.m _ a4)];rw[kx]at an;split at an
  ·rw[vk];simpa using an
  ·cases an
 ·
  obtain⟨a6,post,b0⟩:=sm a4;rw[tj]at al;have fS:a.o+0+n*aD.size+vs.length<=arr.size:=by have eT:=rr aD.size al;rw[jG]at eT;rw[vk,TB,p7];omega
  refine⟨a.b,a.o+0,e,arr,a6,post,rfl,b0,fS,?_⟩;have TD:bu arr.toList (a.o+0+n*aD.size) vs=arr.toList.take (n*aD.size)++vs++arr.toList.drop (n*aD.size+vs.length):=by rw[vk];simp only[bu,dk]
  rw[TD];have uz:∀ q∈M,q.num≠a.b->q∈a6++(⟨a.b,.cells (arr.toList.take (n*aD.size)++vs++arr.toList.drop (n*aD.size+vs.length)).toArray e (0,0)⟩:ay)::post:=λq aO ax=>by
   rw[b0]at aO;rcases eb.1 aO with aO | aO;·exact eb.2 (.inl aO)
   ·rcases eg.1 aO with rfl | aO
    ·exact(ax rfl).elim
    ·exact eb.2 (.inr (lZ _ aO))
  have DQ:∀ i ey b,t1.get i=some ey->D i=some b->b.b≠a.b:=λi ey b hi ai u7=>(kN i ey hi).1 (hm.inj _ _ _ _ _ _ (kN i ey hi).2 aA ai aC u7);refine k _ _ _ bp.A3 ?_ (TA.step (m:=⟨t1,m.n⟩) (j:=m.n) (λi ey hi=>(bO i ey hi).imp (λq=>⟨q.1,mH q.2⟩) λq=>q) (D.pC _ ⟨a.b,0,a.c⟩) (bp.w7 _ hm.fresh) (λi hi=>by unfold bp.set;rw[cA hi]) (λi b ai=>?_) (λ_ _ h=>h) (λi ey b bB hi ai q aO ax=>uz q aO (by rw[ax];exact DQ i ey b hi ai)) (TC _ _ _ _ (arr.toList.drop (n*aD.size+vs.length)) (bp.w7 _ hm.fresh) (by simp) ?_ iE) λi ey b bB hi ai=>DQ i ey b hi ai);·simp only[aI];exact⟨_,bp.pC _ _ _,by simpa using al,by rw[vk];rfl⟩
  ·unfold bp.set at ai;split at ai
   ·show i<m.n+1;omega
   ·have:=hm.h' _ _ ai;show i<m.n+1;omega
  ·rw[<-TD,L1 (by simpa using fS)];simpa using TB
 ·
  refine k _ _ _ bp.A3 ?_ (TA.new (m:=⟨t1,m.n⟩) (a:=⟨b,0,cap⟩) bO az (TC _ _ _ _ _ (bp.w7 _ hm.fresh) (by simp) DP DO));simp only[aI];exact⟨_,bp.pC _ _ _,by simpa using DN,by simp⟩
def adw(aE:cE X.P X.E)(ah:∀ d,o.dst=some d->d<X.n){u:Nat}(aq:o.op=.call { callee:=.builtin .append,args:=#[os,oq],argTypes:=#[t,u] })
 (av:X.E t=some ⟨cc,bI,rj,.slice e⟩) {s x:ak} (px:tG (X.E u) aD x=true) (he:X.E e=some aD) {kn:Nat} (ae:qf x=some kn) (ao:kn≠0) {us:Value}
  (es:br F os=.val us) (gs:aI D s us) (ex:br F oq=.val j9) (xd:aI D x j9) (h:AO G m.t x aD.size (L9 X G m s x aD kn e)=some (v,m'))
  (hm:cR (dg X G pr) D m I M) (k:pE X G pr D m I M v m' o.dst F C K):bl X o F C I M K:=by
 obtain⟨l,vs,aa,ar,bV,gn,p7,_⟩:=adm (ut:=X.E u) h px xd hm ae ao;have af:bR (Nat.beq kn 0) (bR (AQ s) (some (s,m)) none) (bR (l.all ak.one) (Du G m s l kn aD.size aD.bytes e) none)=some (v,m'):=aa;rw[fX ao]at af;have aR:bR (l.all ak.one) (Du G m s l kn aD.size aD.bytes e) none=some (v,m'):=af;obtain⟨jA,aR⟩:=fF aR;have U:=ar.one jA;obtain⟨lF,hu,e'⟩:=Ty px;have DM:∀ {q:List Value} {c:Nat},q.length=c*aD.size->∀ i,(dg X G pr).E e=some i->q.length=c*i.size:=λaO i hi=>by have:X.E e=some i:=hi;rw[he]at this;cases this;exact aO
 cases s<;>simp only[Du]at aR<;>first | cases aR | skip
 case sn=>
  obtain⟨ai,bC⟩:=fF aR;rw[b3]at ai;obtain⟨m2,bO,ax,eo⟩:=LZ (Y:=dg X G pr) bC;cases bO;have adx:=gs.yV;subst adx;have nS:0+kn<=maxLen:=by rw[dk];exact bJ ai.2
  have eW:(0+kn)*aD.bytes<=140737488355328:=by rw[dk];exact bJ ai.1
  refine L7 aE ah aq av hu e' he (n:=0) (c:=0) (xs:=[]) es ex (by simp) p7 U bV gn (λw _=>by simp[run_firstCells_none]) nS eW (λal=>by omega) λ_ b cap aJ bF az DN DO DP=>?_;refine k _ _ _ bp.A3 ?_ (eo aJ hm az ar (DM DP) DO);simp only[aI];exact⟨_,bp.pC _ _ _,by simpa using DN,by simp⟩
 case sl=>
  obtain⟨ai,bC⟩:=fF aR;rw[b3]at ai;exact adt aE ah aq av hu e' he es gs ex bC (bJ ai.2) (bJ ai.1) ar p7 U bV gn hm k
 case sx=>
  split at aR;·rename_i aA;obtain⟨ai,bC⟩:=fF aR;simp only[b3]at ai;obtain⟨⟨eE,eL⟩,h3,uU,FZ⟩:=ai;have d1:=cf eE;have d2:=cf eL;have d3:=cf h3;subst d1;subst d2;subst d3;exact adu aE ah aq av hu e' he es gs ex aA bC (bJ FZ) (bJ uU) ar p7 U bV gn hm k
  ·cases aR
def ady(aE:cE X.P X.E)(ah:∀ d,o.dst=some d->d<X.n)(aq:o.op=.call { callee:=.builtin .append,args:=args,argTypes:=ts })(h:Lv (dg X G pr) m ts.toList (lY aj args.toList)=some (v,m'))
  (H:hD D F aj args.toList) (hm:cR (dg X G pr) D m I M) (k:pE X G pr D m I M v m' o.dst F C K):bl X o F C I M K:=by
 unfold Lv at h;split at h
 ·rename_i t u s x av ar;split at h
  ·rename_i sa qi sz e l9;obtain⟨aD,he,h⟩:=ck h;obtain⟨px,h⟩:=fF h;obtain⟨os,oq,kQ,gQ,yZ⟩:=Hf ar;obtain⟨us,es,gs⟩:=H.br (x:=os) (by rw[kQ];simp) gQ;obtain⟨j9,ex,xd⟩:=H.br (x:=oq) (by rw[kQ];simp) yZ;have y0:args=#[os,oq]:=by apply fM;simpa using kQ
   have y1:ts=#[t,u]:=by apply fM;simpa using av
   have oT:o.op=.call { callee:=.builtin .append,args:=#[os,oq],argTypes:=#[t,u] }:=by rw[aq,y0,y1]
   cases ae:qf x with
   |none=>
    exfalso;unfold tG at px;split at px<;>first | (cases px;done) | (simp[qf,tF]at ae;done)
   |some kn=>
    rw[ae]at h;by_cases ao:kn=0;·subst ao;exact ads aE ah oT l9 px he ae es gs ex xd h hm k
    ·exact adw aE ah oT l9 px he ae ao es gs ex xd h hm k
  ·cases h
 ·cases h
end
section
variable{X:cD}{G:GT}{pr:j3}{D:bp}{m m':bi}{F:Fr}{aj:a8 ak}{C:c2}{I:aS}{M:List ay}{K:fo}{o:Oper}{v:ak}
def adz(aE:cE X.P X.E)(ah:∀ d,o.dst=some d->d<X.n)(aq:o.op=.call { callee:=.builtin .unsafeString,args:=args,argTypes:=ts })(h:Lx (dg X G pr) m ts.toList (lY aj args.toList)=some (v,m'))
  (H:hD D F aj args.toList) (hm:cR (dg X G pr) D m I M) (k:pE X G pr D m I M v m' o.dst F C K):bl X o F C I M K:=by
 unfold Lx at h;split at h
 ·rename_i rJ it av ar;cases h;obtain⟨op,on,kQ,U,aa⟩:=Hf ar;obtain⟨sq,aw,aT⟩:=H.br (x:=op) (by rw[kQ];simp) U;obtain⟨pD,aB,aU⟩:=H.br (x:=on) (by rw[kQ];simp) aa;have y0:args=#[op,on]:=by apply fM;simpa using kQ
  have y1:ts=#[rJ,it]:=by apply fM;simpa using av
  have Hg:sq=.pointer none:=by simpa only[aI]using aT
  subst Hg;rw[aU.int]at aB;refine bl.OA (by rw[aq,y0,y1]) ah aw aB (k D _ M bp.mJ ?_ hm);simp only[aI];rfl
 ·rename_i rJ it id n av ar;split at h
  ·rename_i sa qi sz e cs T eQ adA aA;obtain⟨aD,he,eo⟩:=ck h;obtain⟨ai,gg⟩:=fF eo;simp only[b3]at ai;obtain⟨op,on,kQ,U,aa⟩:=Hf ar;obtain⟨sq,aw,aT⟩:=H.br (x:=op) (by rw[kQ];simp) U;obtain⟨pD,aB,aU⟩:=H.br (x:=on) (by rw[kQ];simp) aa;have y0:args=#[op,on]:=by apply fM;simpa using kQ
   have y1:ts=#[rJ,it]:=by apply fM;simpa using av
   rw[aU.int]at aB;obtain⟨a,aC,rfl⟩:=aT.ptr;have nB:=hm.hg _ _ _ aA aC;obtain⟨arr,vk,a4,cI,aL,ae,iE⟩:=nB;have DM:=cf ai.2.1;subst DM;unfold tE at gg;simp only[aA]at gg;cases L':Nat.ble (Nat.add 0 n) eQ with
   |false=>rw[L']at gg;cases gg| true=>
   rw[L']at gg;simp only[bh]at gg;have qH:0+n<=eQ:=bJ L';obtain⟨l,eE,eL,eT⟩:=a8.AW cs n 0 _ _ gg;obtain⟨cd,Cf,o1⟩:=ck eT;obtain⟨zO,DR⟩:=fF o1;obtain⟨t1,aR,bC⟩:=a8.mG (none:Option fe) m.t id;rw[aR]at DR;cases DR;have Cw:(arr.toList.take n).length=n:=by rw[ma,uC];omega
   have adB:bx D l (arr.toList.take n):=bx.LN (by rw[Cw,eE]) λi v hi=>by
    have hx:i<n:=by rw[<-eE];exact(iI.1 hi).1
    obtain⟨x,bG,fk⟩:=aL i v (by omega) (by have:=eL i hx;rw[dk]at this;rw[this,hi]);rw[vk,dk]at bG;exact⟨x,by rw[kx,cK hx];simpa using bG,fk⟩
   have g7:=L3 Cf adB;have oY:cd.length=n:=by have:=congrArg List.length g7;rw[Cw]at this;simpa using this.symm
   obtain⟨a6,post,b0⟩:=sm a4;have iT:M.Perm (⟨a.b,.cells arr T (0,0)⟩::(a6++post)):=by rw[b0];exact pi
   have jd:arr.toList.take cd.length=cd.map λb=>Value.int .u8 b.toNat:=by rw[oY];exact g7
   have ao:cd≠[]:=λbn=>by subst bn;have:0<n:=bJ ai.2.2;simp at oY;omega
   have dA:br F op=.val (.pointer (some ⟨a.b,0,none⟩)):=by rw[aw,vk]
   have dW:br F on=.val (.int .i64 cd.length):=by rw[aB,oY];rfl
   refine bl.IX aE (by rw[aq,y0,y1]) ah adA rfl he (cf ai.1) dA dW ao (by rw[oY];exact bJ zO) iT jd ?_;have kN:∀ i ey,t1.get i=some ey->i≠id/\m.t.get i=some ey:=λi ey hi=>by
    rcases bC i ey hi with⟨_,gg⟩ | gg;·cases gg
    ·exact gg
   refine k D _ _ bp.mJ (by simp only[aI]) ⟨λi ey b hi nS=>?_,λi fQ ey xe b hX hi cw=>hm.inj i fQ ey xe b hX (kN i ey hi).2 (kN fQ xe cw).2,hm.h',hm.oj⟩;refine(hm.hg i ey b (kN i ey hi).2 nS).mono (bp.le_refl D) λq aO ax=>?_;rcases eg.1 (iT.mem_iff.1 aO)with rfl | aO;·exact((kN i ey hi).1 (hm.inj _ _ _ _ _ _ (kN i ey hi).2 aA nS aC ax.symm)).elim
   ·exact aO
  ·cases h
 ·cases h
def adC(aE:cE X.P X.E)(ah:∀ d,o.dst=some d->d<X.n){v:ak}(aq:o.op=.slice t x (some lo) (some hi) (some mx))(h:Lp X.E t (cS aj x) (cS aj lo) (cS aj hi) (cS aj mx)=some v)
  (H:hD D F aj o.op.operands.toList) (hm:cR (dg X G pr) D m I M) (k:∀ x,ff D x v->K (put o.dst x F) C I M):bl X o F C I M K:=by
 unfold Lp at h;split at h
 ·rename_i sz gY z e id off n c dO l bL a' fB fy av ab ev e2 iE;obtain⟨aD,he,eo⟩:=ck h;obtain⟨ai,gg⟩:=fF eo;simp only[b3]at ai;obtain⟨bI,cx,dx,fm⟩:=ai;cases gg;have bI:=bJ bI;have cx:=bJ cx;have dx:=bJ dx;have fm:l+1<=fy:=bJ fm;obtain⟨JP,cv,xf⟩:=H.br (x:=x) (by rw[aq];simp[Op.operands]) ab;obtain⟨sq,aw,aT⟩:=H.br (x:=lo) (by rw[aq];simp[Op.operands]) ev;obtain⟨pD,aB,aU⟩:=H.br (x:=hi) (by rw[aq];simp[Op.operands]) e2;obtain⟨xb,bD,bG⟩:=H.br (x:=mx) (by rw[aq];simp[Op.operands]) iE;rw[aT.int]at aw;rw[aU.int]at aB;rw[bG.int]at bD;simp only[aI]at xf;obtain⟨a,aC,rfl⟩:=xf;refine bl.slice3 aE aq ah av rfl he l a' fy cv aw aB bD bI cx dx (k _ (.val ?_));simp only[aI];refine⟨a,aC,?_⟩;rw[cA (by omega),jT,dS _ rfl];simp only[w5,AZ,A0,oA]
 ·cases h
def adD(aE:cE X.P X.E)(ah:∀ d,o.dst=some d->d<X.n){v:ak}(aq:o.op=.slice t x none (some hi) (some mx))(h:Lo X.E t (cS aj x) (cS aj hi) (cS aj mx)=some v)
  (H:hD D F aj o.op.operands.toList) (hm:cR (dg X G pr) D m I M) (k:∀ x,ff D x v->K (put o.dst x F) C I M):bl X o F C I M K:=by
 unfold Lo at h;split at h
 ·rename_i sz gY z e id off n c bL a' fB fy av ab e2 iE;obtain⟨aD,he,eo⟩:=ck h;obtain⟨ai,gg⟩:=fF eo;simp only[b3]at ai;obtain⟨cx,dx,fm⟩:=ai;cases gg;have cx:=bJ cx;have dx:=bJ dx;have fm:0+1<=fy:=bJ fm;obtain⟨JP,cv,xf⟩:=H.br (x:=x) (by rw[aq];simp[Op.operands]) ab;obtain⟨pD,aB,aU⟩:=H.br (x:=hi) (by rw[aq];simp[Op.operands]) e2;obtain⟨xb,bD,bG⟩:=H.br (x:=mx) (by rw[aq];simp[Op.operands]) iE;rw[aU.int]at aB;rw[bG.int]at bD;simp only[aI]at xf;obtain⟨a,aC,rfl⟩:=xf;refine bl.RE aE aq ah av rfl he a' fy cv aB bD cx dx (k _ (.val ?_));simp only[aI];refine⟨a,aC,?_⟩;rw[cA (by omega),jT,dS _ rfl];simp
 ·rename_i sz gY z e id off aB n bL a' fB fy av ab e2 iE;obtain⟨aD,he,eo⟩:=ck h;obtain⟨ai,gg⟩:=fF eo;simp only[b3]at ai;obtain⟨cx,dx,fm⟩:=ai;cases gg;have cx:=bJ cx;have dx:=bJ dx;have fm:0+1<=fy:=bJ fm;obtain⟨JP,cv,xf⟩:=H.br (x:=x) (by rw[aq];simp[Op.operands]) ab;obtain⟨pD,aB,aU⟩:=H.br (x:=hi) (by rw[aq];simp[Op.operands]) e2;obtain⟨xb,bD,bG⟩:=H.br (x:=mx) (by rw[aq];simp[Op.operands]) iE;rw[aU.int]at aB;rw[bG.int]at bD;simp only[aI]at xf;obtain⟨a,aC,bo,rfl⟩:=xf;refine bl.RE aE aq ah av rfl he a' fy cv aB bD cx (by omega) (k _ (.val ?_));simp only[aI];refine⟨a,aC,?_⟩;rw[cA (by omega),jT,dS _ rfl];simp
 ·cases h
def adE(ah:∀ d,o.dst=some d->d<X.n){v:ak}(aq:o.op=.unOp .xor t x)(h:Lq (cS aj x)=some v)(H:hD D F aj o.op.operands.toList)(k:∀ x,ff D x v->K (put o.dst x F) C I M):fO X o F C I M K:=by
 unfold Lq at h;split at h
 ·rename_i n ab;cases h;obtain⟨u,e,hu⟩:=H.br (x:=x) (by rw[aq];simp[Op.operands]) ab;rw[hu.int]at e;have q:bl X o F C I M K:=bl.Ce aq ah e (k _ (.val (by simp only[aI])));obtain⟨dst,y3,ty,pos,after,guard⟩:=o;simp only at aq;subst aq;exact q
 ·cases h
def adF(aq:o.op=.slice t x none (some hi) (some mx))(k:bl X o F C I M K):fO X o F C I M K:=by
 obtain⟨dst,y3,ty,pos,after,guard⟩:=o;simp only at aq;subst aq;simp only[fO,cb];split<;>first | exact k | (rename_i e;cases e)
def adG(aq:o.op=.slice t x (some lo) (some hi) (some mx))(k:bl X o F C I M K):fO X o F C I M K:=by
 obtain⟨dst,y3,ty,pos,after,guard⟩:=o;simp only at aq;subst aq;simp only[fO,cb];split<;>first | exact k | (rename_i e;cases e)
def TE:Op->Bool
 | .makeMap .. | .lookup .. | .mapUpdate .. | .insert ..=>true| .call { callee:=.builtin .append,.. }=>true| .call { callee:=.builtin .copy,.. }=>true| .call { callee:=.builtin .unsafeString,.. }=>true| _=>false
def xg{op:Op}(aq:o.op=op)(h:TE op=true)(k:bl X o F C I M K):fO X o F C I M K:=by
 obtain⟨dst,y3,ty,pos,after,guard⟩:=o;simp only at aq;subst aq;unfold TE at h;split at h<;>first | exact k | cases h
def adH(aE:cE X.P X.E)(ah:∀ d,o.dst=some d->d<X.n)(h:Ly (dg X G pr) m o aj=some (v,m'))(H:hD D F aj o.op.operands.toList)(hm:cR (dg X G pr) D m I M)(k:pE X G pr D m I M v m' o.dst F C K):fO X o F C I M K:=by
 unfold Ly at h;split at h
 ·rename_i t x y aq;exact ada aq h H hm k
 ·rename_i t aq;exact xg aq rfl (Ts aE ah aq h (by simp) hm k)
 ·rename_i t x aq;split at h
  ·rename_i fy n ab;refine xg aq rfl (Ts aE ah aq h (λy aN=>?_) hm k);cases aN;obtain⟨u,aw,aT⟩:=H.br (x:=x) (by rw[aq];simp[Op.operands]) ab;rw[aT.int]at aw;exact⟨_,_,aw⟩
  ·cases h
 ·rename_i t x y ok aq;exact xg aq rfl (ade aE ah aq h H hm k)
 ·rename_i t x y z aq;exact xg aq rfl (Tu aE (.inl aq) h H hm k)
 ·rename_i t x y z aq;exact xg aq rfl (Tu aE (.inr aq) h H hm k)
 ·rename_i s d x aq;have Ma:=adg aE ah aq h H hm k;obtain⟨dst,y3,ty,pos,after,guard⟩:=o;simp only at aq;subst aq;have nf:∃ a b z,X.E d=some ⟨a,b,z,.string⟩:=by
   unfold GV at h;split at h;·exact⟨_,_,_,by assumption⟩
   ·exact⟨_,_,_,by assumption⟩
   ·exact⟨_,_,_,by assumption⟩
   ·cases h
  obtain⟨a,b,z,nf⟩:=nf;simp only[fO,cb,nf];split;·rename_i e _;cases e
  ·exact Ma
 ·rename_i b args ts aq;have Mb:hD D F aj args.toList:=by rw[aq]at H;simpa[Op.operands,Call.operands]using H
  unfold SQ at h;split at h;·exact xg aq rfl (ady aE ah aq h Mb hm k)
  ·exact xg aq rfl (adh aE ah aq h Mb hm k)
  ·exact xg aq rfl (adz aE ah aq h Mb hm k)
  ·cases h
 ·cases h
end
def DS(Y:fE)(call:ak->List ak->bi->Option (ak×bi)):Prop:=∀ f l m v m',call f l m=some (v,m')->∀ (D:bp) (I:aS) (M:List ay) (u:Value) (us:List Value),aI D f u->bx D l us->cR Y D m I M -> (∃ g b' cs,u=.func (.func g) b' cs/\Spec Y.P g (b'.toList++us++cs.toList) I M λr I' M'=>∃ bm,D.ext bm m.n/\aI bm v r/\cR Y bm m' I' M') \/ ∃ q,u=.func (.yield q) #[] #[]/\B3 Y.P q us I M λr I' M'=>∃ bm,D.ext bm m.n/\aI bm v r/\cR Y bm m' I' M'
def ss(dst:Option Nat)(v:ak)(D:bp)(F dE:Fr):Prop:=(∀ d,dst=some d->ff D (dE d) v)/\∀ (D:bp) t pB,dst≠some t->ff D (F t) pB->ff D (dE t) pB
def ss.put{v:ak}{x:c6}(F:Fr)(h:ff D x v):ss dst v D F (put dst x F):=by
 constructor
 ·rintro d rfl;simpa[Go.V.put,fG]using h
 ·intro D t pB bB h;cases dst with
  |none=>exact h| some d=>have:t≠d:=λe=>bB (by rw[e]);simp only[Go.V.put,fG,fX this,ba];exact h
def w8.v(h:w8 dst u F dE){v:ak}(ag:aI D v u):ss dst v D F dE:=⟨λd ah=>by rw[h.1 d ah];exact .val ag,h.2⟩
section
variable{X:cD}{G:GT}{pr:j3}{D:bp}{m m':bi}{F:Fr}{aj:a8 ak}{C:c2}{I:aS}{M:List ay}{K:fo}{o:Oper}{v:ak}
def Hh(X:cD)(G:GT)(pr:j3)(o:Oper)(aj:a8 ak)(m:bi)(v:ak)(m':bi):Prop:=m.n<=m'.n/\∀ (D:bp) (F:Fr) (C:c2) (I:aS) (M:List ay) (K:fo),hD D F aj o.op.operands.toList->cR (dg X G pr) D m I M -> (∀ bm dE C' I' M',D.ext bm m.n->ss o.dst v bm F dE->cR (dg X G pr) bm m' I' M'->K dE C' I' M')->fO X o F C I M K
def adI{op:Op}(aq:o.op=op)(ae:jP X.E op=0)(h:cb X op (c0 F) C I M (λx=>K (put o.dst x F) C I M) (bl X o F C I M K)):fO X o F C I M K:=by
 obtain⟨dst,y3,ty,pos,after,guard⟩:=o;simp only at aq;subst aq;cases y3 with
 |call c=>
  obtain⟨callee,args,ts⟩:=c;cases callee with
  |value f=>simp[jP]at ae| invoke r n=>exact h| builtin b=>exact h
 |alloc t=>simp[jP]at ae| box t x=>simp[jP]at ae| store t x y=>simp[jP]at ae| buildSlice t l ps=>simp[jP]at ae| makeSlice t l c=>simp[jP]at ae| _=>exact h
def TF(aE:cE X.P X.E)(ah:∀ d,o.dst=some d->d<X.n){v:ak}(ae:jP X.E o.op=0)(h:sh X.P X.E G m.t o.op aj=some v)(H:hD D F aj o.op.operands.toList)(hm:cR (dg X G pr) D m I M)
  (k:∀ x,ff D x v->K (put o.dst x F) C I M):fO X o F C I M K:=by
 unfold sh at h;split at h
 ·rename_i t x aq;exact adE ah aq h H k
 ·rename_i t x lo hi mx aq;exact adG aq (adC aE ah aq h H hm k)
 ·rename_i t x hi mx aq;exact adF aq (adD aE ah aq h H hm k)
 ·exact adI rfl ae (acX aE h H hm k)
def Mc{K:a8 ak->Option R}{r:R}(h:nt dst aj v K=some r):∃ cF,K cF=some r/\(dst=none->cF=aj)/\∀ d,dst=some d->∀ t w,cF.get t=some w->(t=d/\w=v)\/(t≠d/\aj.get t=some w):=by
 unfold nt at h;cases dst with
 |none=>exact⟨aj,h,λ_=>rfl,λd ah=>by cases ah⟩
 |some d=>
  have a':(Lr v λv=>aj.lx (some v) d K)=some r:=h;rw[acf]at a';obtain⟨cF,U,aa⟩:=a8.mG (some v) aj d;rw[U]at a';refine⟨cF,a',(λe=>by cases e),λCT ah t w hw=>?_⟩;cases ah;rcases aa t w hw with⟨aw,aB⟩ | ⟨aw,aB⟩;·exact .inl ⟨aw,(mH aB).symm⟩
  ·exact .inr ⟨aw,aB⟩
def TG(aE:cE X.P X.E)(iL:∀ d,d<X.n->X.fH.contains d=true)(ah:∀ d,o.dst=some d->d<X.n)(kJ:DS (dg X G pr) call){K:a8 ak->bi->Option R}{r:R}
  (h:wY (dg X G pr) call o aj m K=some r):∃ v m' cF,Hh X G pr o aj m v m'/\(nt o.dst aj v λaj=>K aj m')=some r/\K cF m'=some r/\(o.dst=none->cF=aj)/\∀ d,o.dst=some d->∀ t w,cF.get t=some w->(t=d/\w=v)\/(t≠d/\aj.get t=some w):=by
 have fin:∀ {v:ak} {m':bi},Hh X G pr o aj m v m'->(nt o.dst aj v λaj=>K aj m')=some r->∃ v m' cF,Hh X G pr o aj m v m'/\(nt o.dst aj v λaj=>K aj m')=some r/\K cF m'=some r/\(o.dst=none->cF=aj)/\∀ d,o.dst=some d->∀ t w,cF.get t=some w->(t=d/\w=v)\/(t≠d/\aj.get t=some w):=fun {v m'} aL aG=>by obtain⟨cF,U,aa,af⟩:=Mc aG;exact⟨v,m',cF,aL,aG,U,aa,af⟩
 unfold wY at h;split at h
 ·
  rename_i f args ts aq;unfold SR at h;obtain⟨adJ,az,h⟩:=ck h;obtain⟨l,ar,h⟩:=ck h;obtain⟨⟨v,m'⟩,aL,h⟩:=ck h;obtain⟨ax,h⟩:=fF h;refine fin ⟨bJ ax,λD F C I M K qj hm ae=>?_⟩ h;rw[aq]at qj;obtain⟨u,aw,aT⟩:=qj.br (x:=f) (by simp[Op.operands,Call.operands]) az;obtain⟨us,aB,aU⟩:=qj.kz (l:=args.toList) (by intro y aN;simp[Op.operands,Call.operands];exact .inr (by simpa using aN)) ar;obtain⟨dst,y3,ty,pos,after,guard⟩:=o;simp only at aq;subst aq;rcases kJ _ _ _ _ _ aL D I M u us aT aU hm with⟨g,b',cs,rfl,ap⟩ | ⟨q,rfl,ap⟩
  ·simp only[fO,aw,aB];exact bb.whole _ ap λr I' M' bF ab=>by obtain⟨bm,U,aa,af⟩:=ab;exact ae bm _ C I' M' U (.put F (.val aa)) af
  ·simp only[fO,aw,aB];refine bl.yield rfl ah aw aB ⟨M,[],_,by simp,ap,λr I' M' bF ab=>?_⟩;obtain⟨bm,U,aa,af⟩:=ab;rw[dF];exact ae bm _ C I' M' U (.put F (.val aa)) af
 ·rename_i op d';unfold SW at h;split at h
  ·rename_i fI;unfold SU at h;obtain⟨v,ag,h⟩:=ck h;refine fin ⟨cC _,λD F C I M K qj hm ae=>?_⟩ h;exact TF aE ah fI ag qj hm λx ab=>ae D _ C I M bp.mJ (.put F ab) hm
  ·unfold SS at h;obtain⟨d,e4,h⟩:=ck h;obtain⟨⟨l,T,c,mk⟩,aC,h⟩:=ck h;obtain⟨m2,aa,ax,af⟩:=LZ (Y:=dg X G pr) h;refine fin (v:=mk m.n) (m':=m2) ⟨by omega,λD F C I M K qj hm ae=>?_⟩ (by rw[e4];exact aa);refine Tk aE iL ah aC (by rw[e4];rfl) qj λb vs u dE C' bF az g7 bV aL hu Md=>?_;have aR:=af (vs:=vs) [] (b:=b) (c:=c) hm az g7 (by simpa using bV) aL;rw[dF]at aR;exact ae _ dE C' I _ bp.A3 (Md.v (hu _ _ (bp.pC _ _ _))) aR
  ·unfold SV at h;obtain⟨⟨v,m'⟩,ab,h⟩:=ck h;obtain⟨ax,h⟩:=fF h;refine fin ⟨bJ ax,λD F C I M K qj hm ae=>?_⟩ h;exact adH aE ah ab qj hm λbm u M' U aa af=>ae bm _ C I M' U (.put F (.val aa)) af
end
def jR(X:cD)(G:GT)(pr:j3)(D0:bp)(n0:Nat)(aj:a8 ak)(m:bi)(a:Act)(w:World):Prop:=
 ∃ D F C I M,Rel X a w F C I M/\om D F aj/\cR (dg X G pr) D m I M/\D0.ext D n0/\n0<=m.n
section
variable{X:cD}{G:GT}{pr:j3}{D0:bp}{n0:Nat}{m m':bi}{aj cF:a8 ak}{a:Act}{w:World}
def bp.TH{n:Nat}(h:D.ext bm n)(a':bm.ext Ha hA)(ax:n<=hA):D.ext Ha n:=λi hi=>by rw[a' i (by omega),h i hi]
def adK{ops:Array Oper}{o:Oper}(h:sj ops.toList o aj=some b)(cr:∀ t,dZ β (F t) (a.tmps.getD t undef))(rD:om D F aj):Region.wanted o (yielded ops a.tmps)=b:=by
 unfold sj at h;split at h
 ·rename_i aA;cases h;simp[Region.wanted,aA]
 ·rename_i j c aA;split at h
  ·cases h
  ·rename_i d an;have ij:(ops[j]?).bind (·.dst)=some d:=by rw[w3]at an;simpa using an
   have aN:=BC ij a.tmps;split at h
   ·rename_i q aO;cases h;have ap:=rD _ _ aO;have ag:a.tmps.getD d undef=.bool q:=by
     have U:=cr d;rcases ap with⟨u,e,hu⟩ | ⟨eR,bn,e⟩;·rw[e]at U;rw[U,hu.bool]
     ·cases bn;rw[e]at U;exact U
    simp[Region.wanted,aA,aN,zz ag]
   ·rename_i l aO;cases h;have ap:=rD _ _ aO;obtain⟨u,e,hu⟩:=ap.tJ (by simp);obtain⟨vs,_,rfl⟩:=hu.LP;have U:=cr d;rw[e]at U;have xH:yielded ops a.tmps j=none:=by
     rw[aN];cases oK:a.tmps[d]? with
     |none=>rfl| some v=>simp only[dZ,mL,oK,j6]at U;subst U;rfl
    simp[Region.wanted,aA,xH]
   ·cases h
def TI{o:Oper}{K:a8 ak->Option R}{r:R}(h:yS o aj K=some r):∃ cF,K cF=some r/\(o.dst=none->cF=aj)/\∀ d,o.dst=some d->∀ t w,cF.get t=some w->(t=d/\w=.t [])\/(t≠d/\aj.get t=some w):=by
 unfold yS at h;cases ah:o.dst with
 |none=>rw[ah]at h;exact⟨aj,h,λ_=>rfl,λd e=>by cases e⟩
 |some d=>
  rw[ah]at h;obtain⟨cF,U,aa⟩:=a8.mG (some (ak.t [])) aj d;simp only[U]at h;refine⟨cF,h,(λe=>by cases e),λCT gZ t w hw=>?_⟩;cases gZ;rcases aa t w hw with⟨aw,aB⟩ | ⟨aw,aB⟩;·exact .inl ⟨aw,(mH aB).symm⟩
  ·exact .inr ⟨aw,aB⟩
def om.step{v:ak}(h:om D F aj)(bo:D.le bm)(aG:ss dst v bm F dE)(U:dst=none->cF=aj)(aa:∀ d,dst=some d->∀ t w,cF.get t=some w->(t=d/\w=v)\/(t≠d/\aj.get t=some w)):om bm dE cF:=λt u av=>by
 cases ah:dst with
 |none=>rw[U ah]at av;exact aG.2 bm t u (by rw[ah];simp) ((h t u av).mono bo)
 |some d=>
  rcases aa d ah t u av with⟨rfl,rfl⟩ | ⟨bB,aA⟩;·exact aG.1 _ ah
  ·exact aG.2 bm t u (by rw[ah];intro e;cases e;exact bB rfl) ((h t u aA).mono bo)
def Me(aE:cE X.P X.E)(iL:∀ d,d<X.n->X.fH.contains d=true){call:ak->List ak->bi->Option (ak×bi)}(kJ:DS (dg X G pr) call)(ops:Array Oper)(Q:Exit->Act->World->Prop)(rF:∀ a w,jR X G pr D0 n0 cF m' a w->Q .normal a w):∀ (l:List Oper) (k:Nat),(∀ j,l[j]?=ops[k+j]?)->(∀ o∈l,∀ d,o.dst=some d->d<X.n)->∀ {aj m a w},AR (dg X G pr) call ops.toList l aj m=some (cF,m') -> jR X G pr D0 n0 aj m a w->wpOpsIn (fN X) 0 X.P ops Q (List.range' k l.length) a w
 |[],k,_,_,aj,m,a,w,h,ap=>by have a':some (aj,m)=some (cF,m'):=h;cases a';exact rF _ _ ap
 |o::a2,k,ar,ah,aj,m,a,w,h,ap=>by
  have ao:ops[k]?=some o:=by simpa using(ar 0).symm
  have oJ:∀ j,a2[j]?=ops[k+1+j]?:=λj=>by have:=ar (j+1);simpa[oA,Ey 1 j]using this
  have gZ:∀ o∈a2,∀ d,o.dst=some d->d<X.n:=λo aq=>ah o (by simp[aq]);have vE:=ah o (by simp);have a':bN (sj ops.toList o aj) none (λw=>bR w (wY (dg X G pr) call o aj m λaj m=>AR (dg X G pr) call ops.toList a2 aj m) (yS o aj λaj=>AR (dg X G pr) call ops.toList a2 aj m))=some (cF,m'):=h;obtain⟨b,ai,a'⟩:=ck a';obtain⟨D,F,C,I,M,⟨β,a1⟩,cr,hm,ab,ax⟩:=ap;have hw:=adK ai a1.aj cr;simp only[e1,List.range'_succ,wpOpsIn,ao];rw[hw];cases b with
  |true=>have aa:wY (dg X G pr) call o aj m (λaj m=>AR (dg X G pr) call ops.toList a2 aj m)=some (cF,m'):=a';obtain⟨v,c8,eI,⟨DT,DU⟩,-,af,aT,aU⟩:=TG aE iL vE kJ aa;simp only[qp];refine qm (λbS w'=>?_) (zy aE vE ⟨β,a1⟩ (DU D F C I M (λdE C' I' M'=>∃ bm,D.ext bm m.n/\om bm dE eI/\cR (dg X G pr) bm c8 I' M') (cr.op _) hm λbm dE C' I' M' aw aB bD=>⟨bm,aw,cr.step (hm.le aw) aB aT aU,bD⟩));rintro⟨dE,C',I',M',gj,bm,aw,aB,bD⟩;exact Me aE iL kJ ops Q rF a2 (k+1) oJ gZ af ⟨bm,dE,C',I',M',gj,aB,bD,bp.TH ab aw ax,jx ax DT⟩
  |false=>have aa:yS o aj (λaj=>AR (dg X G pr) call ops.toList a2 aj m)=some (cF,m'):=a';obtain⟨eI,af,aT,aU⟩:=TI aa;simp only[jw,j8];refine⟨λ_ _=>trivial,Me aE iL kJ ops Q rF a2 (k+1) oJ gZ af ⟨D,put o.dst (.val undef) F,C,I,M,⟨β,a1.put (x:=.val undef) vE rfl⟩,cr.step (bp.le_refl D) (.put F (.val .undef)) aT aU,hm,ab,ax⟩⟩
end
def adL(aK:∀ j e,kE ops j e->e<j)(J:(Nat->Prop)->Act->World->Prop)(step:∀ (L:Nat->Prop) a w q o,J L a w->xJ ops L->(∀ i,L i->i<ops.length)->ops[q]?=some o->¬ L q->(∀ e,kE ops q e->L e) -> (Region.wanted o (yielded ops.toArray a.tmps)=true->o.wpIn (fN X) 0 X.P a w (J λj=>L j\/j=q) Q)/\(Region.wanted o (yielded ops.toArray a.tmps)=false->J (λj=>L j\/j=q) (a.put o.dst undef) w))
  (fin:∀ a w,J (λi=>i<ops.length) a w->Q .normal a w):∀ (ed:Nat) (cX:Array Bool) (a:Act) (w:World),cX.size=ops.length->todo ops cX<=ed->xJ ops (λi=>cX.getD i false=true) ->
   J (λi=>cX.getD i false=true) a w->wpAnyIn (fN X) 0 X.P .any ops.toArray Q ed cX a w:=by
 have eQ:∀ (cX:Array Bool) (i:Nat),cX.getD i false=true->i<cX.size:=λcX i h=>by refine zo λax=>?_;simp[Array.getD,ax]at h
 have full:∀ (cX:Array Bool) a w,cX.size=ops.length->Region.ready .any ops.toArray cX=[]->J (λi=>cX.getD i false=true) a w->Q .normal a w:=λcX a w cI nM dm=>by
  have all:∀ i,i<ops.length->cX.getD i false=true:=λi=>by
   induction i using Nat.strongRecOn with
   |ind i be=>
    intro hi;refine zo λax=>?_;have aq:ops[i]?=some ops[i]:=g0 hi;have:i∈Region.ready .any ops.toArray cX:=(mem_ready cI).2 ⟨_,aq,ax,λe he=>by
     have U:=aK i e he;exact be e U (by omega)⟩
    rw[nM]at this;cases this
  have e:(λi=>cX.getD i false=true)=λi=>i<ops.length:=by funext i;simp only[eq_iff_iff];exact⟨λh=>by have:=eQ cX i h;omega,all i⟩
  rw[e]at dm;exact fin a w dm
 intro ed
 induction ed with
 |zero=>
  intro cX a w cI az e3 dm;have nM:Region.ready .any ops.toArray cX=[]:=by
   cases al:Region.ready .any ops.toArray cX with
   |nil=>rfl| cons i l=>obtain⟨o,aq,ax,_⟩:=(mem_ready cI).1 (by rw[al];simp:i∈Region.ready .any ops.toArray cX);have:=E3 (iI.1 aq).1 cI ax;omega
  exact⟨nM,full cX a w cI nM dm⟩
 |succ ed be=>
  intro cX a w cI az e3 dm;refine⟨λnM=>full cX a w cI nM dm,λq aO=>?_⟩;obtain⟨o,aq,ax,ah⟩:=(mem_ready cI).1 aO;have bP:=(iI.1 aq).1;have fj:=Od (cX:=cX) (i:=q) (by omega);have next:∀ bS w',J (λj=>cX.getD j false=true\/j=q) bS w'->wpAnyIn (fN X) 0 X.P .any ops.toArray Q ed (cX.setIfInBounds q true) bS w':=λbS w' h=>by
   refine be _ bS w' (by simpa using cI) ?_ ?_ (by rw[fj];exact h);·have:=E3 bP cI ax;omega
   ·rw[fj];rintro j e (an | rfl) he
    ·exact .inl (e3 j e an he)
    ·exact .inl (ah e he)
  obtain⟨s1,s2⟩:=step _ a w q o dm e3 (λi hi=>by have:=eQ cX i hi;omega) aq ax ah;have BU:ops.toArray[q]?=some o:=by simpa using aq
  unfold wpOpIn;simp only[BU];cases hw:Region.wanted o (yielded ops.toArray a.tmps)with
  |true=>
   simp only[qp];exact qm next (s1 hw)
  |false=>simp only[jw,j8];exact⟨λ_ _=>trivial,next _ _ (s2 hw)⟩
def TJ{S:List bi}{lo hi:Nat}{p:bi->Bool}{m:bi}(h:AU S lo hi p=true)(U:lo<=j)(aa:j<=hi)(an:S[j]?=some m):p m=true:=by unfold AU at h;refine gi.1 h m ?_;refine xq (i:=j-lo) ?_;rw[kx,cK (by omega),pI,show lo+(j-lo)=j by omega];exact an
def filter_le{p:α->Bool}:∀ {l:List α},(∀ q e,l[q]?=some e->p e=true->q<j)->(l.filter p).length<=j:=by
 intro l h;have aw:l.filter p=(l.take j).filter p:=by
  conv=>lhs;rw[<-uB j l]
  rw[LR];have:(l.drop j).filter p=[]:=by rw[List.filter_eq_nil_iff];intro a aC aG;obtain⟨q,aO⟩:=Gt aC;rw[pI]at aO;have:=h _ _ aO aG;omega
  rw[this,dF]
 rw[aw];refine jx (Er _ _) ?_;simp;omega
def le_filter{p:α->Bool}{l:List α}(an:j<=l.length)(h:∀ q e,q<j->l[q]?=some e->p e=true):j<=(l.filter p).length:=by
 have aw:(l.take j).filter p=l.take j:=by
  rw[List.filter_eq_self];intro a aC;obtain⟨q,aO⟩:=Gt aC;rw[kx]at aO;split at aO;·exact h q a (by assumption) aO
  ·cases aO
 have aB:l.filter p=(l.take j).filter p++(l.drop j).filter p:=by
  conv=>lhs;rw[<-uB j l]
  rw[LR]
 rw[aB,aw,cU,ma];omega
mutual
def TK{D:bp}:∀ {x y:ak} {u:Value},AT x y=true->aI D x u->aI D y u
 |x,y,u,h,ab=>by
  cases x<;>cases y<;>simp only[AT,jw,b3]at h
  case b.b=>
   have:=eq_of_beq h;subst this;exact ab
  case i.i=>
   obtain⟨U,aa⟩:=h;have:=IntKind.zw U;subst this;rw[yU,e0]at aa;subst aa;exact ab
  case s.s=>
   rw[AX,e0]at h;subst h;exact ab
  case pn.pn=>exact ab
  case p.p=>
   obtain⟨U,aa⟩:=h;have:=cf U;subst this;have:=cf aa;subst this;exact ab
  case g.g=>
   obtain⟨U,aa⟩:=h;have:=cf U;subst this;have:=cf aa;subst this;exact ab
  case sn.sn=>exact ab
  case sl.sl=>
   obtain⟨U,aa,af,aR⟩:=h;have:=cf U;subst this;have:=cf aa;subst this;have:=cf af;subst this;have:=cf aR;subst this;exact ab
  case sx.sx=>
   obtain⟨U,aa,af,aR⟩:=h;have:=cf U;subst this;have:=cf aa;subst this;have:=cf af;subst this;have:=cf aR;subst this;exact ab
  case gs.gs=>
   obtain⟨U,aa,af,aR⟩:=h;have:=cf U;subst this;have:=cf aa;subst this;have:=cf af;subst this;have:=cf aR;subst this;exact ab
  case mn.mn=>exact ab
  case m.m=>have:=cf h;subst this;exact ab
  case f.f=>
   obtain⟨U,aa,af⟩:=h;have:=cf U;subst this;simp only[aI]at ab |-;obtain⟨vs,ws,aT,aU,bG⟩:=ab;exact⟨vs,ws,A6 aa aT,A6 af aU,bG⟩
  case y.y=>have:=cf h;subst this;exact ab
  case fn.fn=>exact ab
  case ni.ni=>exact ab
  case t.t=>
   simp only[aI]at ab |-;obtain⟨vs,aT,aU⟩:=ab;exact⟨vs,A6 h aT,aU⟩
  case a.a=>
   simp only[aI]at ab |-;obtain⟨vs,aT,aU⟩:=ab;exact⟨vs,A6 h aT,aU⟩
def A6{D:bp}:∀ {x y:List ak} {us:List Value},tI x y=true->bx D x us->bx D y us
 |[],[],us,h,ab=>ab| [],_::_,us,h,ab=>by simp[tI]at h
 |_::_,[],us,h,ab=>by simp[tI]at h
 |x::l,y::m,us,h,ab=>by simp only[tI,b3]at h;obtain⟨u,us,aT,aU,rfl⟩:=ab.iW;exact .cons (TK h.1 aT) (A6 h.2 aU)
end
def DV(dst:Option Nat)(aj:a8 ak)(v:ak)(cF:a8 ak):Prop:=(dst=none->cF=aj)/\∀ d,dst=some d->∀ t w,cF.get t=some w->(t=d/\w=v)\/(t≠d/\aj.get t=some w)
def Hi(m m':bi)(l:List ak)(T:Nat):Prop:=m'.n=m.n+1/\(∀ id e,m'.t.get id=some e->id=m.n\/m.t.get id=some e)
def vl(m m':bi):Prop:=m.n<=m'.n/\∀ id e,id<m.n->m'.t.get id=some e->m.t.get id=some e
def vl.refl(m:bi):vl m m:=⟨cC _,λ_ _ _ h=>h⟩
def vl.trans{a b c:bi}(h:vl a b)(k:vl b c):vl a c:=⟨jx h.1 k.1,λid e hi he=>h.2 id e hi (k.2 id e (Et hi h.1) he)⟩
def Hi.grow{m m':bi}{l:List ak}{T:Nat}(h:Hi m m' l T):vl m m':=⟨by rw[h.1];omega,λid e hi he=>by
 rcases h.2 id e he with U | U
 ·omega
 ·exact U⟩
def adM{m:bi}{l:List ak}{T:Nat}{K:Nat->bi->Option R}{r:R}(h:si m l T K=some r):∃ m',K m.n m'=some r/\Hi m m' l T:=by unfold si at h;obtain⟨cs,U,aa⟩:=a8.vh l (.nil:a8 ak) 0;rw[U]at h;obtain⟨eS,af,aR⟩:=DH h;exact⟨_,aR,rfl,λid e hi=>(af id e hi).imp (λq=>q.1) λq=>q.2⟩
def cR.grow{m m':bi}(h:cR Y D m I M)(aA:vl m m'):cR Y D m' I M where
 hg id e a U aa:=h.hg id e a (aA.2 id e (h.h' _ _ aa) U) aa
 inj id g4 e bn a bS U Cd aa nX ai:=h.inj id g4 e bn a bS (aA.2 id e (h.h' _ _ aa) U) (aA.2 g4 bn (h.h' _ _ nX) Cd) aa nX ai
 h' id a aa:=Et (h.h' _ _ aa) aA.1
 oj:=h.oj
inductive j5(X:cD)(G:GT)(pr:j3)(ops:List Oper):List (Nat×Nat)->a8 ak->bi->List (Nat×ak)->a8 ak->bi->List bi->List oi->Prop
 |nil{aj m}:j5 X G pr ops [] aj m [] aj m [m] []| q {i o a2 aj m v cF vs fL fv S A} (aq:ops[i]?=some o) (ae:jP X.E o.op=0) (hw:sj ops o aj=some true) (ag:sh X.P X.E G m.t o.op aj=some v) (aG:DV o.dst aj v cF) (t:j5 X G pr ops a2 cF m vs fL fv S A) : j5 X G pr ops ((i,0)::a2) aj m ((i,v)::vs) fL fv S (bif nG o.op then .load i o aj v::A else A)| a {i o d a2 aj m m' l T c mk cF vs fL fv S A} (aq:ops[i]?=some o) (ae:jP X.E o.op=1) (hw:sj ops o aj=some true) (ah:o.dst=some d) (ag:yR X.E o aj=some (l,T,c,mk)) (ax:Hi m m' l T) (aG:DV o.dst aj (mk m.n) cF) (t:j5 X G pr ops a2 cF m' vs fL fv S A) : j5 X G pr ops ((i,1)::a2) aj m ((i,mk m.n)::vs) fL fv S (.made i m.n l T::A)| e {i o a2 aj m m' v cF vs fL fv S A} (aq:ops[i]?=some o) (ae:jP X.E o.op=2) (hw:sj ops o aj=some true) (aL:Hh X G pr o aj m v m') (aG:DV o.dst aj v cF) (t:j5 X G pr ops a2 cF m' vs fL fv S A) : j5 X G pr ops ((i,2)::a2) aj m ((i,v)::vs) fL fv (m::S) A| skip {i k o a2 aj m cF vs fL fv S A} (aq:ops[i]?=some o) (ae:jP X.E o.op=k) (hw:sj ops o aj=some false) (aG:DV o.dst aj (.t []) cF) (t:j5 X G pr ops a2 cF m vs fL fv S A) : j5 X G pr ops ((i,k)::a2) aj m ((i,.t [])::vs) fL fv (bif Nat.beq k 2 then m::S else S) A
section
variable{X:cD}{G:GT}{pr:j3}{ops:List Oper}
def DW(aE:cE X.P X.E)(iL:∀ d,d<X.n->X.fH.contains d=true)(fz:∀ o∈ops,∀ d,o.dst=some d->d<X.n){call:ak->List ak->bi->Option (ak×bi)}(kJ:DS (dg X G pr) call):∀ (row:List (Nat×Nat)) {aj:a8 ak} {m:bi} {lq:List bi} {l1:List oi} {fL:a8 ak} {fv:bi} {kw:List bi} {lz:List oi},mF (dg X G pr) call ops row aj m lq l1=some (fL,fv,kw,lz)->∃ vs S A,j5 X G pr ops row aj m vs fL fv S A/\kw=S.reverse++lq/\(∀ h∈A,h∈lz)/\∀ h∈l1,h∈lz
 |[],aj,m,lq,l1,fL,fv,kw,lz,h=>by simp only[mF,iJ,Prod.mk.injEq]at h;obtain⟨rfl,rfl,rfl,rfl⟩:=h;exact⟨[],[m],[],.nil,by simp,by simp,λ_ h=>h⟩
 |(i,k)::a2,aj,m,lq,l1,fL,fv,kw,lz,h=>by
  simp only[mF]at h;obtain⟨o,aq,h⟩:=ck h;obtain⟨w,hw,h⟩:=ck h;obtain⟨ae,h⟩:=fF h;rw[w3]at aq;have jv:jP X.E o.op=k:=cf ae;have vE:=fz o (xq aq);cases w with
  |false=>
   have aa:yS o aj (λaj=>mF (dg X G pr) call ops a2 aj m (bR (Nat.beq k 2) (m::lq) lq) l1)=some (fL,fv,kw,lz):=h;obtain⟨eI,af,aT,aU⟩:=TI aa;obtain⟨vs,S,A,av,iM,jg,st⟩:=DW aE iL fz kJ a2 af;refine⟨_,_,_,.skip aq jv hw ⟨aT,aU⟩ av,?_,jg,st⟩;rw[iM];cases Nat.beq k 2<;>simp[bR]
  |true=>
   have U:bR (Nat.beq k 0) (bN (sh X.P X.E G m.t o.op aj) none λv=>nt o.dst aj v λcF=>mF (dg X G pr) call ops a2 cF m lq (bR (nG o.op) (.load i o aj v::l1) l1)) (bR (Nat.beq k 1) (bN o.dst none λd=>bN (yR X.E o aj) none λr=>si m r.1 r.2.1 λid m=>nt (some d) aj (r.2.2.2 id) λaj=>mF (dg X G pr) call ops a2 aj m lq (.made i id r.1 r.2.1::l1)) (wY (dg X G pr) call o aj m λaj m'=>mF (dg X G pr) call ops a2 aj m' (m::lq) l1))=some (fL,fv,kw,lz):=h;by_cases p8:k=0
   ·subst p8;have aa:(bN (sh X.P X.E G m.t o.op aj) none λv=>nt o.dst aj v λcF=>mF (dg X G pr) call ops a2 cF m lq (bR (nG o.op) (.load i o aj v::l1) l1))=some (fL,fv,kw,lz):=U;obtain⟨v,ag,aa⟩:=ck aa;obtain⟨eI,af,aT,aU⟩:=Mc aa;obtain⟨vs,S,A,av,iM,jg,st⟩:=DW aE iL fz kJ a2 af;refine⟨_,_,_,.q aq jv hw ag ⟨aT,aU⟩ av,iM,λy aN=>?_,λy aN=>st y ?_⟩
    ·cases ar:nG o.op with
     |false=>rw[ar]at aN;exact jg y aN
     |true=>
      rw[ar]at aN;rcases eg.1 aN with rfl | aN;·refine st _ ?_;rw[ar];simp[bR]
      ·exact jg y aN
    ·cases nG o.op with
     |false=>exact aN| true=>exact lZ _ aN
   rw[fX p8]at U;by_cases dO:k=1
   ·subst dO;have aa:(bN o.dst none λd=>bN (yR X.E o aj) none λr=>si m r.1 r.2.1 λid m=>nt (some d) aj (r.2.2.2 id) λaj=>mF (dg X G pr) call ops a2 aj m lq (.made i id r.1 r.2.1::l1))=some (fL,fv,kw,lz):=U;obtain⟨d,ah,aa⟩:=ck aa;obtain⟨⟨l,T,c,mk⟩,aC,aa⟩:=ck aa;obtain⟨m2,af,ax⟩:=adM aa;have hz:nt o.dst aj (mk m.n) (λaj=>mF (dg X G pr) call ops a2 aj m2 lq (.made i m.n l T::l1))=some (fL,fv,kw,lz):=by rw[ah];exact af
    obtain⟨eI,aR,aT,aU⟩:=Mc hz;obtain⟨vs,S,A,av,iM,jg,st⟩:=DW aE iL fz kJ a2 aR;refine⟨_,_,_,.a aq jv hw ah aC ax ⟨aT,aU⟩ av,iM,λy aN=>?_,λy aN=>st y (lZ _ aN)⟩;rcases eg.1 aN with rfl | aN;·exact st _ (by simp)
    ·exact jg y aN
   ·rw[fX dO]at U;have aa:wY (dg X G pr) call o aj m (λaj m'=>mF (dg X G pr) call ops a2 aj m' (m::lq) l1)=some (fL,fv,kw,lz):=U;obtain⟨v,c8,eI,DU,-,af,aT,aU⟩:=TG aE iL vE kJ aa;obtain⟨vs,S,A,av,iM,jg,st⟩:=DW aE iL fz kJ a2 af;have fC:k=2:=by
     have:jP X.E o.op<=2:=by
      unfold jP;split<;>first | omega | (split<;>first | omega | (split<;>omega))
     rw[jv]at this;omega
    subst fC;exact⟨_,_,_,.e aq jv hw DU ⟨aT,aU⟩ av,by rw[iM];simp,jg,st⟩
def j5.head{aj fL:a8 ak}{m fv:bi}{vs:List (Nat×ak)}{S:List bi}{A:List oi}(h:j5 X G pr ops row aj m vs fL fv S A):∃ m2 kw,S=m2::kw/\vl m m2:=by
 induction h with
 |nil=>exact⟨_,_,rfl,.refl _⟩| q _ _ _ _ _ _ be=>exact be| a _ _ _ _ _ ax _ _ be=>obtain⟨m2,kw,U,aa⟩:=be;exact⟨m2,kw,U,ax.grow.trans aa⟩
 |e _ _ _ _ _ _ _=>exact⟨_,_,rfl,.refl _⟩
 | @skip i k o a2 aj m cF vs fL fv S A _ _ _ _ _ be=>
  cases ae:Nat.beq k 2 with
  |true=>exact⟨_,_,rfl,.refl _⟩| false=>simpa using be
def j5.Hj{aj fL:a8 ak}{m fv:bi}{vs:List (Nat×ak)}{S:List bi}{A:List oi}(h:j5 X G pr ops row aj m vs fL fv S A):m.n<=fv.n/\∀ i c l T,.made i c l T∈A->m.n<=c/\i∈row.map (·.1):=by
 induction h with
 |nil=>exact⟨cC _,λ_ _ _ _ h=>by cases h⟩
 | @q i o a2 aj m v cF vs fL fv S A _ _ _ _ _ _ be=>
  refine⟨be.1,λfQ c l T hm=>?_⟩;have pQ:.made fQ c l T∈A:=by
   cases ar:nG o.op with
   |false=>rw[ar]at hm;exact hm
   |true=>
    rw[ar]at hm;rcases eg.1 hm with e | hm;·cases e
    ·exact hm
  exact⟨(be.2 fQ c l T pQ).1,lZ _ (be.2 fQ c l T pQ).2⟩
 |a _ _ _ _ _ ax _ _ be=>
  refine⟨jx ax.grow.1 be.1,λfQ c l T hm=>?_⟩;rcases eg.1 hm with e | hm;·cases e;exact⟨cC _,by simp⟩
  ·exact⟨jx ax.grow.1 (be.2 fQ c l T hm).1,lZ _ (be.2 fQ c l T hm).2⟩
 |e _ _ _ aL _ _ be=>exact⟨jx aL.1 be.1,λfQ c l T hm=>⟨jx aL.1 (be.2 fQ c l T hm).1,lZ _ (be.2 fQ c l T hm).2⟩⟩| skip _ _ _ _ _ be=>exact⟨be.1,λfQ c l T hm=>⟨(be.2 fQ c l T hm).1,lZ _ (be.2 fQ c l T hm).2⟩⟩
def j5.split:∀ (a6:List (Nat×Nat)) {a2:List (Nat×Nat)} {aj fL:a8 ak} {m fv:bi} {vs:List (Nat×ak)} {S:List bi} {A:List oi},j5 X G pr ops (a6++a2) aj m vs fL fv S A -> ∃ tM vm eI c8 su vn tN,vs=tM++vm/\tM.map (·.1)=a6.map (·.1)/\S=su++vn/\su.length=(a6.filter λr=>Nat.beq r.2 2).length/\j5 X G pr ops a2 eI c8 vm fL fv vn tN/\(∀ h∈tN,h∈A)/\m.n<=c8.n /\ (∀ t w,eI.get t=some w->(∃ i,(i,w)∈tM/\hl ops i=some t)\/((∀ i∈a6.map (·.1),hl ops i≠some t)/\aj.get t=some w)) /\ (∀ i c l T,.made i c l T∈A->.made i c l T∈tN\/c<c8.n)
 |[],a2,aj,fL,m,fv,vs,S,A,h=>⟨[],vs,aj,m,[],S,A,rfl,rfl,rfl,rfl,h,λ_ h=>h,cC _,λt w hw=>.inr ⟨by simp,hw⟩,λ_ _ _ _ h=>.inl h⟩
 |(i,k)::a6,a2,aj,fL,m,fv,vs,S,A,h=>by
  have fin:∀ {o:Oper} {cF:a8 ak} {m':bi} {v:ak} {qx:List (Nat×ak)} {kw S:List bi} {lz A:List oi},ops[i]?=some o->DV o.dst aj v cF->m.n<=m'.n->j5 X G pr ops (a6++a2) cF m' qx fL fv kw lz -> (S=if Nat.beq k 2 then m::kw else kw)->(∀ h∈lz,h∈A)->(∀ i c l T,.made i c l T∈A->.made i c l T∈lz\/c<m'.n) ->
    ∃ tM vm eI c8 su vn tN,(i,v)::qx=tM++vm/\tM.map (·.1)=((i,k)::a6).map (·.1)/\S=su++vn/\su.length=(((i,k)::a6).filter λr=>Nat.beq r.2 2).length/\j5 X G pr ops a2 eI c8 vm fL fv vn tN/\(∀ h∈tN,h∈A)/\m.n<=c8.n /\ (∀ t w,eI.get t=some w->(∃ i,(i,w)∈tM/\hl ops i=some t)\/((∀ fQ∈((i,k)::a6).map (·.1),hl ops fQ≠some t)/\aj.get t=some w)) /\
     (∀ i c l T,.made i c l T∈A->.made i c l T∈tN\/c<c8.n):=by
   intro o cF m' v qx kw S lz A aq aG DT av iM jg adN;obtain⟨tM,vm,eI,c8,su,vn,tN,aw,aB,bD,dH,gJ,kp,mB,nk,xh⟩:=j5.split a6 av;refine⟨(i,v)::tM,vm,eI,c8,(if Nat.beq k 2 then m::su else su),vn,tN,by rw[aw];rfl,by simp[aB],?_,?_,gJ,λh bA=>jg h (kp h bA),jx DT mB,λt w hw=>?_,λi c l T hm=>?_⟩
   ·rw[iM,bD];split<;>simp
   ·simp only[Ev];split<;>simp[dH]
   ·rcases nk t w hw with⟨fQ,U,aa⟩ | ⟨U,aa⟩
    ·exact .inl ⟨fQ,lZ _ U,aa⟩
    ·have nJ:hl ops i=o.dst:=by simp[hl,aq]
     cases ah:o.dst with
     |none=>
      rw[aG.1 ah]at aa;refine .inr ⟨λfQ cw=>?_,aa⟩;rcases eg.1 cw with e | cw;·rw[show fQ=i from e,nJ,ah];simp
      ·exact U fQ cw
     |some d=>
      rcases aG.2 d ah t w aa with⟨rfl,rfl⟩ | ⟨bB,af⟩;·exact .inl ⟨i,by simp,by rw[nJ,ah]⟩
      ·refine .inr ⟨λfQ cw=>?_,af⟩;rcases eg.1 cw with e | cw
       ·rw[show fQ=i from e,nJ,ah];exact λe=>bB (by cases e;rfl)
       ·exact U fQ cw
   ·rcases adN i c l T hm with U | U
    ·exact xh i c l T U
    ·exact .inr (Et U mB)
  cases h with
  |q aq ae hw ag aG t=>
   rename_i o v cF qx lz;refine fin aq aG (cC _) t (by simp) (λh bA=>?_) λi c l T hm=>?_
   ·cases nG o.op with
    |false=>exact bA| true=>exact lZ _ bA
   ·cases ar:nG o.op with
    |false=>rw[ar]at hm;exact .inl hm
    |true=>
     rw[ar]at hm;rcases eg.1 hm with e | hm;·cases e
     ·exact .inl hm
  |a aq ae hw ah ag ax aG t=>
   refine fin aq aG ax.grow.1 t (by simp) (λh bA=>lZ _ bA) λi c l T hm=>?_;rcases eg.1 hm with e | hm;·cases e;exact .inr (by rw[ax.1];omega)
   ·exact .inl hm
  |e aq ae hw aL aG t=>exact fin aq aG aL.1 t (by simp) (λ_ h=>h) λ_ _ _ _ h=>.inl h
  |skip aq ae hw aG t=>exact fin aq aG (cC _) t (by cases Nat.beq k 2<;>rfl) (λ_ h=>h) λ_ _ _ _ h=>.inl h
end
section
variable{ops:List Oper}
def adO{i k:Nat}{o:Oper}(aq:ops[i]?=some o)(h:BN o k=true):∀ e,kE ops i e->k.testBit e=true:=by rintro e⟨o',je,oT,oQ,ai,rfl⟩;rw[aq]at oT;cases oT;have:=gi.1 h je (by simpa using oQ);rw[ai]at this;simpa using this
def Hk:∀ {row:List (Nat×Nat)} {k:Nat},tH ops row k=true->∀ (a6:List (Nat×Nat)) (i c:Nat) (post:List (Nat×Nat)),row=a6++(i,c)::post -> (∃ o,ops[i]?=some o)/\k.testBit i=false/\i ∉ a6.map (·.1)/\∀ e,kE ops i e->k.testBit e=true\/e∈a6.map (·.1)
 |[],k,h,a6,i,c,post,e=>by simp at e
 |(i0,jK)::row,k,h,a6,i,c,post,e=>by
  simp only[tH,b3,nw]at h;obtain⟨U,aa⟩:=h;split at aa
  ·rename_i o aq;rw[b3]at aa;cases a6 with
   |nil=>simp only[mT,uK,Prod.mk.injEq]at e;obtain⟨⟨rfl,rfl⟩,rfl⟩:=e;exact⟨⟨o,aq⟩,U,by simp,λe he=>.inl (adO aq aa.1 e he)⟩
   |cons p a6=>
    simp only[sY,uK]at e;obtain⟨aw,aB⟩:=e;obtain⟨aT,aU,bG,fk⟩:=Hk aa.2 a6 i c post aB;have ai:∀ x,(k ||| 2^i0).testBit x=(k.testBit x||decide (x=i0)):=λx=>by rw[Ew,Es];congr 1;exact decide_eq_decide.2 eq_comm
    rw[ai,oW]at aU;refine⟨aT,aU.1,?_,λe he=>?_⟩;·rw[<-aw];simp only[dV,eg,not_or];exact⟨by simpa using aU.2,bG⟩
    ·rcases fk e he with h | h
     ·rw[ai,j7]at h;rcases h with h | h
      ·exact .inl h
      ·exact .inr (by rw[<-aw];simp at h;simp[h])
     ·exact .inr (by rw[dV];exact lZ _ h)
  ·cases aa
def Mf:∀ {row:List (Nat×Nat)} {k:Nat},tH ops row k=true->∀ i,i<ops.length->k.testBit i=true\/i∈row.map (·.1)
 |[],k,h,i,hi=>by
  simp only[tH]at h;have:=cf h;subst this
  left
  rw[Nat.testBit_two_pow_sub_one];simpa using hi
 |(i0,jK)::row,k,h,i,hi=>by
  simp only[tH,b3,nw]at h;obtain⟨U,aa⟩:=h;split at aa
  ·rw[b3]at aa;rcases Mf aa.2 i hi with h | h
   ·rw[Ew,Es,j7]at h;rcases h with h | h
    ·exact .inl h
    ·have:i0=i:=by simpa using h
     exact .inr (by simp[this])
   ·exact .inr (by rw[dV];exact lZ _ h)
  ·cases aa
def adP(h:tH ops row 0=true):(row.map (·.1)).Nodup:=by
 have key:∀ {row:List (Nat×Nat)} {k:Nat},tH ops row k=true->(row.map (·.1)).Nodup:=by
  intro row
  induction row with
  |nil=>intro k _;exact xt
  |cons r row be=>
   intro k h;obtain⟨i0,jK⟩:=r;have a':=h;simp only[tH,b3,nw]at h;obtain⟨U,aa⟩:=h;split at aa;·rw[b3]at aa;rw[dV,lA];refine⟨λhm=>?_,be aa.2⟩;obtain⟨⟨x,c⟩,ab,Mg⟩:=ej.1 hm;obtain⟨a6,post,e⟩:=sm ab;have Mh:x=i0:=Mg;subst Mh;have:=(Hk a' ((x,jK)::a6) x c post (by rw[e];rfl)).2.2.1;exact this (by simp)
   ·cases aa
 exact key h
def TL{α β:Type}:∀ {l:List (α×β)},(l.map (·.1)).Nodup->∀ {k:α} {a b:β},(k,a)∈l->(k,b)∈l->a=b
 |[],_,k,a,b,h,_=>by cases h
 |(p8,c)::l,ax,k,a,b,h,a'=>by
  rw[dV,lA]at ax;rcases eg.1 h with e | h
  ·cases e;rcases eg.1 a' with bn | a'
   ·cases bn;rfl
   ·exact(ax.1 (ej.2 ⟨_,a',rfl⟩)).elim
  ·rcases eg.1 a' with bn | a'
   ·cases bn;exact(ax.1 (ej.2 ⟨_,h,rfl⟩)).elim
   ·exact TL ax.2 h a'
end
section
variable{X:cD}{G:GT}{pr:j3}{D0:bp}{n0:Nat}{a:Act}{w:World}
def Hl{o:Oper}{aj:a8 ak}(h:sj ops o aj=some b)(cr:∀ t,dZ β (F t) (a.tmps.getD t undef))(H:∀ t∈looks ops o,∀ v,aj.get t=some v->ff D (F t) v) :
  Region.wanted o (yielded ops.toArray a.tmps)=b:=by
 unfold sj at h;split at h
 ·rename_i aA;cases h;simp[Region.wanted,aA]
 ·rename_i j c aA;split at h
  ·cases h
  ·rename_i d an;have ij:(ops[j]?).bind (·.dst)=some d:=by rw[w3]at an;simpa using an
   have adQ:(ops.toArray[j]?).bind (·.dst)=some d:=by simpa using ij
   have aN:=BC adQ a.tmps;have nO:d∈looks ops o:=IA aA ij;split at h
   ·rename_i q aO;cases h;have ap:=H _ nO _ aO;have ag:a.tmps.getD d undef=.bool q:=by
     have U:=cr d;rcases ap with⟨u,e,hu⟩ | ⟨eR,bn,e⟩;·rw[e]at U;rw[U,hu.bool]
     ·cases bn;rw[e]at U;exact U
    simp[Region.wanted,aA,aN,zz ag]
   ·rename_i l aO;cases h;have ap:=H _ nO _ aO;obtain⟨u,e,hu⟩:=ap.tJ (by simp);obtain⟨vs,_,rfl⟩:=hu.LP;have U:=cr d;rw[e]at U;have xH:yielded ops.toArray a.tmps j=none:=by
     rw[aN];cases oK:a.tmps[d]? with
     |none=>rfl| some v=>simp only[dZ,mL,oK,j6]at U;subst U;rfl
    simp[Region.wanted,aA,xH]
   ·cases h
def adR{o:Oper}{aj:a8 ak}(H:∀ t∈looks ops o,∀ v,aj.get t=some v->ff D (F t) v):hD D F aj o.op.operands.toList:=λx ab v ag=>by
 cases x with
 |tmp t=>exact H t (IB (by simpa using ab)) v ag| const c=>exact(show om D F .nil from λt v h=>by cases h).op [.const c] (.const c) (by simp) v ag| global g=>exact(show om D F .nil from λt v h=>by cases h).op [.global g] (.global g) (by simp) v ag| func f=>exact(show om D F .nil from λt v h=>by cases h).op [.func f] (.func f) (by simp) v ag
def adS{m m2:a8 fe}{op:Op}{aj:a8 ak}(h:nG op=false):sh X.P X.E G m op aj=sh X.P X.E G m2 op aj:=by
 cases op with
 |load=>simp[nG]at h| slice t x lo hi mx=>cases mx<;>cases lo<;>cases hi<;>rfl
 |unOp u=>cases u<;>rfl
 |call c=>
  obtain⟨callee,args,ts⟩:=c;cases callee<;>rfl
 |_=>rfl
def A7(X:cD)(G:GT)(pr:j3)(D0:bp)(n0:Nat)(ops:List Oper)(es:List Nat)(aj:a8 ak)(vs:List (Nat×ak))(S:List bi)(A:List oi)(L:Nat->Prop)(a:Act)(w:World):Prop:=
 ∃ D F C I M j pF,Rel X a w F C I M/\(∀ q e,es[q]?=some e->(L e ↔ q<j))/\j<=es.length/\S[j]?=some pF/\cR (dg X G pr) D pF I M/\(∀ i v t,L i->(i,v)∈vs->hl ops i=some t->ff D (F t) v) /\ (∀ t v,(∀ i,L i->hl ops i≠some t)->aj.get t=some v->ff D (F t) v)/\(∀ i c l T,oi.made i c l T∈A->¬ L i->D c=none)/\D0.ext D n0
def A7.aj(cT:sS ops){L:Nat->Prop}{q:Nat}{o:Oper}(aO:ops[q]?=some o)(oS:¬ L q){vs:List (Nat×ak)}(A8:(vs.map (·.1)).Nodup){v:ak}(ag:(q,v)∈vs){aj:a8 ak}(bo:D.le bm)(aG:ss o.dst v bm F dE)(jg:∀ i v t,L i->(i,v)∈vs->hl ops i=some t->ff D (F t) v)(adT:∀ t v,(∀ i,L i->hl ops i≠some t)->aj.get t=some v->ff D (F t) v) :
  (∀ i v t,(L i\/i=q)->(i,v)∈vs->hl ops i=some t->ff bm (dE t) v)/\(∀ t v,(∀ i,(L i\/i=q)->hl ops i≠some t)->aj.get t=some v->ff bm (dE t) v):=by
 have TM:hl ops q=o.dst:=by simp[hl,aO]
 constructor
 ·rintro i u t (hi | rfl) hm ah
  ·have bB:o.dst≠some t:=λe=>by obtain⟨fp,gR,nJ⟩:=BR ah;exact cT.Iz i q fp o t (λbn=>oS (bn ▸ hi)) gR aO nJ e
   exact aG.2 bm t u bB ((jg i u t hi hm ah).mono bo)
  ·rw[TL A8 hm ag];rw[TM]at ah;exact aG.1 t ah
 ·intro t u d' aA;have bB:o.dst≠some t:=λe=>d' q (.inr rfl) (by rw[TM,e]);exact aG.2 bm t u bB ((adT t u (λi hi=>d' i (.inl hi)) aA).mono bo)
end
section
variable{X:cD}{G:GT}{pr:j3}{D0:bp}{n0:Nat}{a:Act}{w:World}
def Mi{fP:List Nat}:∀ {es:List Nat},GW fP es=true->∀ (p q:Nat) (x y:Nat),p<q->es[p]?=some x->es[q]?=some y->(fP.getD y 0).testBit x=true
 |[],_,p,q,x,y,_,ab,_=>by simp at ab
 |e::es,h,p,q,x,y,pP,ab,aN=>by
  simp only[GW,b3]at h;cases q with
  |zero=>omega
  |succ q=>
   have vC:es[q]?=some y:=by simpa using aN
   cases p with
   |zero=>simp at ab;subst ab;exact gi.1 h.1 y (xq vC)| succ p=>exact Mi h.2 p q x y (by omega) (by simpa using ab) vC
def adU:e∈vg E ops ↔ e<ops.length/\yT E ops e=2:=by
 unfold vg;rw[Bt,l3];constructor
 ·rintro⟨U,aa⟩;exact⟨U,cf aa⟩
 ·rintro⟨U,aa⟩;exact⟨U,by rw[aa];rfl⟩
def TN{i:Nat}{o:Oper}(h:ops[i]?=some o):yT E ops i=jP E o.op:=by unfold yT;rw[w3,h];rfl
def ff.same{x:c6}{u v:ak}(h:ff D x u)(ap:AT u v=true):ff D x v:=by
 rcases h with⟨y,rfl,h⟩ | ⟨q,rfl,rfl⟩
 ·exact .val (TK ap h)
 ·have:v=.b q:=by
   cases v<;>simp only[AT,jw]at ap
   rw[eq_of_beq ap]
  exact .inr ⟨q,this,rfl⟩
def adV(aE:cE X.P X.E)(iL:∀ d,d<X.n->X.fH.contains d=true)(kJ:DS (dg X G pr) call){id:Nat}{DX:Array Oper}(iE:X.P.follows .mixedOrders=true)(ax:vH X.n DX=true)
  {aj fL:a8 ak} {m fv:bi} (h:LC (dg X G pr) call DX.toList aj m=some (fL,fv)) (rF:∀ a w,jR X G pr D0 n0 fL fv a w->Q .normal a w) (ap:jR X G pr D0 n0 aj m a w) :
  (Code.region id DX true).wpIn (fN X) 0 X.P Q a w:=by
 refine wpIn_region_any iE ?_;generalize sR:DX.toList=ops at h;have adW:DX=ops.toArray:=by apply fM;simpa using sR
 subst adW;have fz:∀ o∈ops,∀ d,o.dst=some d->d<X.n:=by simpa using EL ax
 unfold LC at h;obtain⟨j2,h⟩:=fF h;unfold SZ at j2;simp only[b3]at j2;obtain⟨adX,iT,TO,q3⟩:=j2;have cT:sS ops:=N7 adX;have TP:((Dy X.E ops).filter λr=>Nat.beq r.2 2).map (·.1)=vg X.E ops:=by simpa using q3
 clear q3;generalize kf:vg X.E ops=es at *;have Mj:∀ e,e∈es ↔ e<ops.length/\yT X.E ops e=2:=λe=>by rw[<-kf];exact adU
 generalize aiI:Dy X.E ops=row at *;cases nm:mF (dg X G pr) call ops row aj m [] []with
 |none=>rw[nm]at h;cases h| some adY=>
 obtain⟨adZ,ad0,kw,lz⟩:=adY;rw[nm]at h;have a':bR (lz.all (LB (dg X G pr) es (jD ops) kw.reverse)) (some (adZ,ad0)) none=some (fL,fv):=h;clear h;obtain⟨TQ,a'⟩:=fF a';cases a';obtain⟨vs,S,A,Hm,TR,ad1,-⟩:=DW aE iL fz kJ row nm;rw[dF]at TR;subst TR;rw[List.reverse_reverse]at TQ;have TS:∀ y∈A,LB (dg X G pr) es (jD ops) S y=true:=λy aN=>gi.1 TQ y (ad1 y aN);have nL:(row.map (·.1)).Nodup:=adP iT;obtain⟨aiJ,aiK,aiL,aiM,aiN,aiO,aiP,hK,kI,me,iu,ad2,aiQ,ad3,ad4,aiR⟩:=j5.split row (a2:=[]) (by rw[dF];exact Hm);have ad5:(row.filter λr=>Nat.beq r.2 2).length=es.length:=by rw[<-TP,eX]
 cases ad2;rw[dF]at hK;subst hK;have A8:(vs.map (·.1)).Nodup:=by rw[kI];exact nL
 have ad6:=Hm.Hj;have ad7:∀ (a6:List (Nat×Nat)) (a2:List (Nat×Nat)),row=a6++a2->xJ ops (λi=>i∈a6.map (·.1)):=λa6 a2 k0 j e an he=>by
  obtain⟨⟨x,c⟩,ab,Mg⟩:=ej.1 an;have Mh:x=j:=Mg;subst Mh;obtain⟨m3,o5,aw⟩:=sm ab;rcases(Hk iT m3 x c (o5++a2) (by rw[k0,aw];simp)).2.2.2 e he with h | h;·simp at h
  ·show e∈a6.map (·.1);rw[aw,gX];exact eb.2 (.inl h)
 let J:=A7 X G pr D0 n0 ops es aj vs S A
 have key:=adL (X:=X) (ops:=ops) (Q:=Q) cT.lt J ?step ?fin ops.length (Array.replicate ops.length false) a { w with drawn:=w.drawn+1 } (by simp) (by unfold todo;exact jx (Er _ _) (by simp)) ?cl ?start
 case cl=>
  intro j e an;exfalso;by_cases hi:j<ops.length<;>simp[mL,hi]at an
 case start=>
  obtain⟨D,F,C,I,M,⟨β,a1⟩,cr,kv,ab,lH⟩:=ap;obtain⟨m2,vn,ad8,aA⟩:=Hm.head;have c7:∀ i,¬ (Array.replicate ops.length false).getD i false=true:=λi=>by
   by_cases hi:i<ops.length<;>simp[mL,hi]
  refine⟨D,F,C,I,M,0,m2,⟨β,a1.world rfl⟩,λq e _=>⟨λh=>(c7 e h).elim,λh=>by omega⟩,bq _,by rw[ad8];rfl,kv.grow aA,λi v t hi=>(c7 i hi).elim,λt v _ aA=>cr t v aA,λi c l T o4 _=>?_,ab⟩;have:=(ad6.2 i c l T o4).1;cases DY:D c with
  |none=>rfl| some b=>have:=kv.h' _ _ DY;omega
 case fin=>
  rintro a w⟨D,F,C,I,M,j,pF,a1,tO,an,sv,kv,y4,y5,fD,ab⟩;have fU:j=es.length:=by
   refine Nat.le_antisymm an ?_;by_cases ao:es.length=0;·omega
   ·have aK:es.length-1<es.length:=by omega
    have U:=(tO (es.length-1) es[es.length-1] (g0 aK)).1 ((Mj _).1 (dK aK)).1;omega
  have ad9:pF=fv:=by rw[fU,me,mS (by omega),iu,ad5]at sv;simpa using sv.symm
  subst ad9;refine rF a w ⟨D,F,C,I,M,a1,λt v aA=>?_,kv,ab,?_⟩
  ·rcases ad4 t v aA with⟨i,U,aa⟩ | ⟨U,aa⟩
   ·obtain⟨fp,gR,_⟩:=BR aa;exact y4 i v t (iI.1 gR).1 U aa
   ·refine y5 t v (λi hi=>?_) aa;rcases Mf iT i hi with af | af
    ·simp at af
    ·exact U i af
  ·obtain⟨bm,dE,C',I',M',_,_,_,_,lH⟩:=ap;exact jx lH ad3
 case step=>
  rintro L a w q o⟨D,F,C,I,M,j,pF,⟨β,a1⟩,tO,an,sv,kv,y4,y5,fD,ab⟩e3 Mk aO oS Hn;have e5:q<ops.length:=(iI.1 aO).1;have oU:=fz o (xq aO);obtain⟨⟨eR,k⟩,GA,Ml⟩:=ej.1 ((Mf iT q e5).resolve_left (by simp));have aea:eR=q:=Ml;subst aea;obtain⟨a6,post,b0⟩:=sm GA;obtain⟨-,-,TT,aeb⟩:=Hk iT a6 eR k post b0;have aec:∀ e,kE ops eR e->e∈a6.map (·.1):=λe he=>(aeb e he).resolve_left (by simp);have Mm:=ad7 a6 ((eR,k)::post) b0;have TU:=Hm;rw[b0]at TU;obtain⟨tM,vm,eI,c8,su,vn,tN,aw,aB,bD,dH,gJ,kp,mB,nk,xh⟩:=j5.split a6 TU;have aiS:=gJ.Hj;have H:∀ t∈looks ops o,∀ v,eI.get t=some v->ff D (F t) v:=λt av v ag=>by
   rcases nk t v ag with⟨i,U,aa⟩ | ⟨U,aa⟩
   ·obtain⟨fp,gR,nJ⟩:=BR aa;have TV:i∈a6.map (·.1):=by rw[<-aB];exact ej.2 ⟨_,U,rfl⟩
    have bB:i≠eR:=λe=>TT (e ▸ TV);rcases cT.ord i eR fp o t bB gR aO nJ av with ai | ai;·exact y4 i v t (ai.mem e3 Hn) (by rw[aw];exact eb.2 (.inl U)) aa
    ·exact(TT (ai.mem Mm λe he=>Mm i e TV he)).elim
   ·refine y5 t v (λi hi ke=>?_) aa;obtain⟨fp,gR,nJ⟩:=BR ke;have bB:i≠eR:=λe=>oS (e ▸ hi);rcases cT.ord i eR fp o t bB gR aO nJ av with ai | ai
    ·exact U i (ai.mem Mm aec) ke
    ·exact oS (ai.mem e3 λe he=>e3 i e hi he)
  have qj:hD D F eI o.op.operands.toList:=adR H;have ev:AS es (jD ops) eR<=j:=filter_le λp e aG ai=>by exact(tO p e aG).1 ((vN ai).mem e3 Hn)
  have e2:j<=yC es (jD ops) eR:=le_filter an λp e aG DZ=>by
   cases ai:((jD ops).getD e 0).testBit eR with
   |false=>rfl| true=>have aed:L e:=(tO p e DZ).2 aG;exact(oS ((vN ai).mem e3 λd ah=>e3 e d aed ah)).elim
  have TW:jP X.E o.op≠2->∀ p e,es[p]?=some e->((L e\/e=eR) ↔ p<j):=λae p e aG=>by
   have bB:e≠eR:=λhe=>ae (by
    have:=((Mj e).1 (xq aG)).2;rw[he,TN aO]at this;exact this)
   exact⟨λbA=>(tO p e aG).1 (bA.resolve_right bB),λbA=>.inl ((tO p e aG).2 bA)⟩
  have Mn:jP X.E o.op=2->es[j]?=some eR/\j+1<=es.length/\∀ p e,es[p]?=some e->((L e\/e=eR) ↔ p<j+1):=λae=>by
   have Ml:eR∈es:=(Mj eR).2 ⟨e5,by rw[TN aO];exact ae⟩;obtain⟨rk,hv⟩:=Gt Ml;have aiT:=(iI.1 hv).1;have U:¬ rk<j:=λbA=>oS ((tO rk eR hv).2 bA);have aa:¬ j<rk:=λbA=>by
    have fU:j<es.length:=by omega
    have D1:=Mi TO j rk es[j] eR bA (g0 fU) hv;have:=(tO j es[j] (g0 fU)).1 ((vN D1).mem e3 Hn);omega
   have af:rk=j:=by omega
   subst af;refine⟨hv,by omega,λp e aG=>⟨λbA=>?_,λbA=>?_⟩⟩
   ·rcases bA with bA | rfl
    ·have:=(tO p e aG).1 bA;omega
    ·refine zo λax=>?_;have D1:=Mi TO rk p e e (by omega) hv aG;exact oS ((vN D1).mem e3 Hn)
   ·by_cases pO:p<rk
    ·exact .inl ((tO p e aG).2 pO)
    ·have:p=rk:=by omega
     subst this;rw[hv]at aG;exact .inr (mH aG).symm
  have plain:∀ {v:ak} {dE:Fr} {C':c2} {bS:Act} {w':World},(eR,v)∈vs->jP X.E o.op≠2->(∀ l T c,oi.made eR c l T ∉ A\/True)->Rel X bS w' dE C' I M->ss o.dst v D F dE->J (λj=>L j\/j=eR) bS w':=fun {v dE C' bS w'} ag ae _ qG aG=>by obtain⟨f1,f2⟩:=A7.aj cT aO oS A8 ag (bp.le_refl D) aG y4 y5;exact⟨D,dE,C',I,M,j,pF,qG,TW ae,an,sv,kv,f1,f2,λi c l T hm d'=>fD i c l T hm λhi=>d' (.inl hi),ab⟩
  have D2:∀ {v:ak} {a2:List (Nat×ak)},vm=(eR,v)::a2->(eR,v)∈vs:=fun {v a2} he=>by rw[aw,he];exact eb.2 (.inr (by simp))
  have aee:n0<=c8.n:=by obtain⟨bm,dE,C',I',M',_,_,_,_,lH⟩:=ap;exact jx lH mB
  have TX:∀ {k:Nat},k=2->row=a6++(eR,k)::post->jP X.E o.op=2->su.length=j:=fun {k} fC aef ae=>by
   obtain⟨Mo,fU,_⟩:=Mn ae;have aeg:es=(a6.filter λr=>Nat.beq r.2 2).map (·.1)++eR::((post.filter λr=>Nat.beq r.2 2).map (·.1)):=by rw[<-TP,aef,LR,gX,Ev];subst fC;simp
   have cJ:es.Nodup:=by rw[<-kf];exact List.nodup_range.sublist List.filter_sublist
   have U:es[su.length]?=some eR:=by rw[aeg,mS (by rw[eX,dH];exact cC _),eX,dH,q1];rfl
   have xT:=(iI.1 U).1;exact(List.getElem?_inj xT cJ).1 (by rw[U,Mo])
  cases gJ with
  | @q i o' a2 kY vo v cF qx Mp Mq lq l1 aq ae y6 ag aG t=>
   have y7:o'=o:=mH (aq.symm.trans aO);subst y7;have hw:=Hl y6 a1.aj H;refine⟨λ_=>?_,λaz=>by rw[hw]at az;cases az⟩;obtain⟨u,hu,aeh⟩:∃ u,sh X.P X.E G pF.t o'.op eI=some u/\∀ x,ff D x u->ff D x v:=by
    cases ar:nG o'.op with
    |false=>exact⟨v,by rw[adS ar (m2:=c8.t)];exact ag,λ_ h=>h⟩
    |true=>
     have gF:oi.load eR o' eI v∈A:=kp _ (by rw[ar];simp);have U:=TS _ gF;have aa:=TJ (show AU S (AS es (jD ops) eR) (yC es (jD ops) eR) (Lz (dg X G pr) o' eI v)=true from U) ev e2 sv;unfold Lz at aa;split at aa;·rename_i u hu;exact⟨u,hu,λx ab=>ab.same aa⟩
     ·cases aa
   refine qm (λbS w'=>?_) (zy aE oU ⟨β,a1⟩ (TF (K:=λdE C' I' M'=>I'=I/\M'=M/\ss o'.dst v D F dE) aE oU ae hu qj kv λx ab=>⟨rfl,rfl,.put F (aeh x ab)⟩));rintro⟨dE,C',I',M',gj,rfl,rfl,Md⟩;exact plain (D2 rfl) (by rw[ae];decide) (λ_ _ _=>.inr trivial) gj Md
  | @a i o' d a2 kY vo m' l T c mk cF qx Mp Mq lq l1 aq ae y6 ah ag aei aG t=>
   have y7:o'=o:=mH (aq.symm.trans aO);subst y7;have hw:=Hl y6 a1.aj H;refine⟨λ_=>?_,λaz=>by rw[hw]at az;cases az⟩;have gF:oi.made eR c8.n l T∈A:=kp _ (by simp);have U:=TS _ gF;have aa:=TJ (show AU S (AS es (jD ops) eR) (yC es (jD ops) eR) (LA c8.n l T)=true from U) ev e2 sv;unfold LA at aa;rw[b3]at aa;obtain⟨aej,aa⟩:=aa;have aek:c8.n<pF.n:=bJ aej;split at aa
   ·rename_i cs k3 eQ nB;simp only[b3]at aa;obtain⟨b6,w9,aa⟩:=aa;have BB:=cf b6;subst BB;have Tz:=cf w9;subst Tz;split at aa
    ·rename_i c4 oJ;obtain⟨kV,eE,eL,h3⟩:=a8.AW cs l.length 0 _ _ oJ;have uL:kV=c4:=mH h3;subst uL;have DY:D c8.n=none:=fD eR c8.n l k3 gF oS;refine qm (λbS w'=>?_) (zy aE oU ⟨β,a1⟩ (Tk (K:=λdE C' I' M'=>∃ b us u,I'=I/\M'=⟨b,.cells us.toArray k3 (0,0)⟩::M/\I b=none/\(∀ x∈M,x.num≠b)/\bx D l us/\(∀ i,X.E k3=some i->us.length=c*i.size)/\c<=maxLen /\ (∀ (bm:bp) id,bm id=some ⟨b,0,c⟩->aI bm (mk id) u)/\w8 o'.dst u F dE) aE iL oU ag (by rw[ah];rfl) qj λb us u dE C' aT aU bG fk mX FY Ms=>⟨b,us,u,rfl,rfl,aT,aU,bG,fk,mX,FY,Ms⟩));rintro⟨dE,C',I',M',gj,b,us,u,rfl,rfl,aT,aU,bG,fk,mX,FY,Ms⟩;have bo:D.le (D.set c8.n ⟨b,0,c⟩):=bp.w7 _ DY;have Ho:ss o'.dst (mk c8.n) (D.set c8.n ⟨b,0,c⟩) F dE:=Ms.v (FY _ _ (bp.pC _ _ _));obtain⟨f1,f2⟩:=A7.aj cT aO oS A8 (D2 rfl) bo Ho y4 y5;have ml:=A6 aa bG;have fj:∀ id,id≠c8.n->(D.set c8.n ⟨b,0,c⟩) id=D id:=λid j4=>by unfold bp.set;rw[cA j4]
     have DQ:∀ id e hX,pF.t.get id=some e->D id=some hX->hX.b≠b:=λid e hX hi hI u7=>by obtain⟨x,yZ,A9⟩:=kv.aY hi hI;exact aU x yZ (A9.trans u7)
     refine⟨D.set c8.n ⟨b,0,c⟩,dE,C',I',_,j,pF,gj,TW (by rw[ae];decide),an,sv,?_,f1,f2,?_,λi hi=>?_⟩
     ·refine⟨λid e hX hi hI=>?_,λid g4 e bn bI cx hi cw U aa u7=>?_,λid hX hI=>?_,kv.oj⟩
      ·by_cases j4:id=c8.n
       ·subst j4;rw[bp.pC]at hI;cases hI;rw[nB]at hi;cases hi;refine .cells us.toArray rfl (by simp) (by simp[bG.len]) (λi v hi ag=>?_) (λi hi=>by simpa using fk i hi) mX;have kB:kV[i]?=some v:=by have:=eL i hi;rw[dk,ag]at this;exact this.symm
        obtain⟨x,yZ,A9⟩:=ml.get kB;exact⟨x,by simpa using yZ,A9.mono bo⟩
       ·rw[fj id j4]at hI;exact(kv.hg id e hX hi hI).mono bo λx ab _=>lZ _ ab
      ·by_cases j4:id=c8.n
       ·by_cases D3:g4=c8.n
        ·rw[j4,D3]
        ·rw[fj g4 D3]at aa;rw[j4,bp.pC]at U;cases U;exact(DQ g4 bn cx cw aa u7.symm).elim
       ·rw[fj id j4]at U;by_cases D3:g4=c8.n
        ·rw[D3,bp.pC]at aa;cases aa;exact(DQ id e bI hi U u7).elim
        ·rw[fj g4 D3]at aa;exact kv.inj id g4 e bn bI cx hi cw U aa u7
      ·by_cases j4:id=c8.n
       ·rw[j4];exact aek
       ·rw[fj id j4]at hI;exact kv.h' _ _ hI
     ·intro i c' c4 yb o4 d';have Mt:c'≠c8.n:=λe=>by
       rcases xh i c' c4 yb o4 with h | h
       ·rcases eg.1 h with h | h
        ·cases h;exact d' (.inr rfl)
        ·have:=(t.Hj.2 i c' c4 yb h).1;have:=aei.1;omega
       ·omega
      rw[fj c' Mt];exact fD i c' c4 yb o4 λhi=>d' (.inl hi)
     ·rw[fj i (by omega)];exact ab i hi
    ·cases aa
   ·cases aa
  | @e i o' a2 kY vo m' v cF qx Mp Mq lq l1 aq ae y6 DU aG t=>
   have y7:o'=o:=mH (aq.symm.trans aO);subst y7;have hw:=Hl y6 a1.aj H;refine⟨λ_=>?_,λaz=>by rw[hw]at az;cases az⟩;obtain⟨Mo,fU,Mu⟩:=Mn ae;have D4:=TX rfl b0 ae;have Mv:pF=c8:=by rw[bD,mS (by omega),D4,q1]at sv;simpa using sv.symm
   subst Mv;obtain⟨m2,ael,Mw,Mx⟩:=t.head;refine qm (λbS w'=>?_) (zy aE oU ⟨β,a1⟩ (DU.2 D F C I M (λdE C' I' M'=>∃ bm,D.ext bm pF.n/\ss o'.dst v bm F dE/\cR (dg X G pr) bm m' I' M') qj kv λbm dE C' I' M' aT aU bG=>⟨bm,aT,aU,bG⟩));rintro⟨dE,C',I',M',gj,bm,aT,aU,bG⟩;have bo:=kv.le aT;obtain⟨f1,f2⟩:=A7.aj cT aO oS A8 (D2 rfl) bo aU y4 y5;refine⟨bm,dE,C',I',M',j+1,m2,gj,Mu,fU,?_,bG.grow Mx,f1,f2,λi c l T o4 d'=>?_,bp.TH ab aT aee⟩;·rw[bD,mS (by omega),D4,show j+1-j=0+1 by omega,Eo,Mw];rfl
   ·rcases xh i c l T o4 with h | h
    ·have:=(t.Hj.2 i c l T h).1;cases DY:bm c with
     |none=>rfl| some b=>have:=bG.h' _ _ DY;omega
    ·rw[aT c h];exact fD i c l T o4 λhi=>d' (.inl hi)
  | @skip i dq o' a2 kY vo cF qx Mp Mq lq l1 aq ae y6 aG t=>
   have y7:o'=o:=mH (aq.symm.trans aO);subst y7;have hw:=Hl y6 a1.aj H;refine⟨λaz=>(by rw[hw]at az;cases az),λ_=>?_⟩;have qG:Rel X (a.put o'.dst undef) w (put o'.dst (.val undef) F) C I M:=⟨β,a1.put (x:=.val undef) oU rfl⟩;have Ho:ss o'.dst (.t []) D F (put o'.dst (.val undef) F):=.put F (.val .undef);by_cases fC:k=2
   ·subst fC;obtain⟨Mo,fU,Mu⟩:=Mn ae;have D4:=TX rfl b0 ae;have Mv:pF=c8:=by rw[bD,mS (by omega),D4,q1]at sv;simpa using sv.symm
    subst Mv;obtain⟨m2,ael,Mw,Mx⟩:=t.head;obtain⟨f1,f2⟩:=A7.aj cT aO oS A8 (D2 rfl) (bp.le_refl D) Ho y4 y5;refine⟨D,_,C,I,M,j+1,m2,qG,Mu,fU,?_,kv.grow Mx,f1,f2,λi c l T o4 d'=>fD i c l T o4 λhi=>d' (.inl hi),ab⟩;rw[bD,mS (by omega),D4,show j+1-j=0+1 by omega];show(pF::lq)[0+1]?=some m2;rw[Eo,Mw];rfl
   ·exact plain (D2 rfl) (by rw[ae];exact fC) (λ_ _ _=>.inr trivial) qG Ho
 simpa using key
end
def y8{n:Nat}:∀ {c:Code},gM n c=true->codeOk n c=true
 | .seq x y,h=>by simp only[gM,codeOk,b3]at h |-;exact⟨y8 h.1,y8 h.2⟩
 | .block _ c,h=>by simp only[gM,codeOk]at h |-;exact y8 h
 | .cond _ x y,h=>by simp only[gM,codeOk,b3]at h |-;exact⟨y8 h.1,y8 h.2⟩
 | .loop c,h=>by simp only[gM,codeOk]at h |-;exact y8 h
 | .region _ ops _,h=>h| .scope c,h=>rfl| .rangeFunc ..,h=>rfl| .skip,h | .exit _,h | .label _,h | .goto _,h | .ret,h | .refuse _,h=>rfl
def My{n:Nat}:∀ {c:Code} {l:Nat} {r:Code},gM n c=true->findLabel c l=some r->gM n r=true
 | .seq x y,l,r,h,ar=>by
  simp only[gM,b3]at h;simp only[findLabel]at ar;split at ar;·rename_i a2 al;cases ar;simp only[gM,b3];exact⟨My h.1 al,h.2⟩
  ·exact My h.2 ar
 | .label c4,l,r,h,ar=>by
  simp only[findLabel]at ar;split at ar;·cases ar;rfl
  ·cases ar
 | .skip,_,_,_,ar | .exit _,_,_,_,ar | .goto _,_,_,_,ar | .ret,_,_,_,ar | .refuse _,_,_,_,ar | .block _ _,_,_,_,ar | .cond _ _ _,_,_,_,ar | .loop _,_,_,_,ar | .scope _,_,_,_,ar | .region _ _ _,_,_,_,ar | .rangeFunc _ _ _ _,_,_,_,ar=>by simp[findLabel]at ar
def tP(P:Program):Prop:=∀ (g:Nat) (fn:Func) (c:Code),P.funcs[g]?=some fn->fn.body=some c->gM fn.ntmps c=true/\(fn.name == "runtime.NumGoroutine")=false
def aem(P:Program):Bool:=P.funcs.toList.all λfn=>match fn.body with
 |some c=>gM fn.ntmps c && !(fn.name == "runtime.NumGoroutine")
 |none=>true
def aen(h:aem P=true):tP P:=λg fn c az ai=>by have U:=gi.1 h fn (by rw[<-Array.mem_def];exact Array.mem_of_getElem? az);simp only[ai,b3,nw]at U;exact U
def vp(Y:fE):Prop:=∀ g vs m v m',Y.pr g vs m=some (v,m')->∀ (D:bp) (I:aS) (M:List ay) (us:List Value),bx D vs us->cR Y D m I M->Spec Y.P g us I M λr I' M'=>∃ bm,D.ext bm m.n/\aI bm v r/\cR Y bm m' I' M'
def xi:qB->Exit
 | .normal=>.normal| .exit id=>.exit id| .goto l=>.goto l| .ret=>.ret
def ia(Y:fE)(n B:Nat)(ao:World)(dj:aS)(bW:List Nat)(ro:Option Nat):cD:=⟨Y.P,Y.E,List.range n,n,B,ao,dj,bW,ro⟩
def ia.fH{Y:fE}{n B:Nat}{ao:World}{dj:aS}{bW:List Nat}{ro:Option Nat}:∀ d,d<(ia Y n B ao dj bW ro).n->(ia Y n B ao dj bW ro).fH.contains d=true:=λd ah=>by have gZ:d<n:=ah;show(List.range n).contains d=true;simpa using gZ
def y9(Y:fE)(f:Nat):Prop:=∀ hf n c aj m ex cF m',h9 Y f hf n c aj m=some (ex,cF,m')->gM n c=true->∀ B ao dj bW ro D0 n0 a w,(hf=true->ro=none)->jR (ia Y n B ao dj bW ro) Y.G Y.pr D0 n0 aj m a w -> c.wpIn (fN (ia Y n B ao dj bW ro)) 0 Y.P (λe a w=>e=xi ex/\jR (ia Y n B ao dj bW ro) Y.G Y.pr D0 n0 cF m' a w) a w
def Mz{α:Type}:∀ (n k:Nat),(a8.bare n:a8 α).get k=none
 |0,k=>rfl
 |n+1,k=>by
  rw[a8.bare,a8.DB];cases Nat.beq k 0 with
  |true=>rfl
  |false=>
   cases Nat.beq (k%2) 1 with
   |true=>exact Mz n _| false=>exact Mz n _
section
variable{X:cD}{G:GT}{pr:j3}{D:bp}{m:bi}{F:Fr}{aj:a8 ak}{C:c2}{I:aS}{M:List ay}
def MA(cr:om D F aj)(hm:cR (dg X G pr) D m I M):∀ {bd:List ResultVar} {vs:List ak} {K:List Value->Prop},wZ (dg X G pr) aj m.t bd=some vs->(∀ us,bx D vs us->K us)->mP X F C I M bd K
 |[],vs,K,h,ae=>by simp only[wZ]at h;cases h;exact ae [] .nil
 | .tmp t::l,vs,K,h,ae=>by
  simp only[wZ]at h;split at h;·rename_i v qx U aa;cases h;obtain⟨u,aw,aT⟩:=(show ff D (c0 F (.tmp t)) v from cr t v U).di;unfold mP;rw[aw];exact MA cr hm aa λus e'=>ae _ (.cons aT e')
  ·cases h
 | .cell t ty::l,vs,K,h,ae=>by
  simp only[wZ]at h;split at h
  ·rename_i x i qx U aa af;split at h
   ·rename_i v ag;cases h;have vi:∀ q,x≠.b q:=λq e=>by subst e;cases ag
    obtain⟨u,aw,aT⟩:=ff.tJ (cr t x U:ff D (c0 F (.tmp t)) x) vi;obtain⟨ad,c4,A',rfl,bs,ar,aG⟩:=w4 hm aT ag;have nX:X.E ty=some i:=aa;have dA:c0 F (.tmp t)=.val (.pointer (some ad)):=aw;unfold mP;rw[dA,nX];exact⟨A',bs,MA cr hm af λus e'=>ae _ (.cons (G9 aG ar) e')⟩
   ·cases h
  ·cases h
end
def TY(aE:cE Y.P Y.E)(cr:tP Y.P)(k0:vp Y)(aL:y9 Y f){args:List ak}{m:bi}{v:ak}{fn:Func}{c:Code}(az:Y.P.funcs[g]?=some fn)(ai:fn.body=some c)(bo:args.length<=fn.ntmps){aj cF:a8 ak}(rD:∀ t w,aj.get t=some w->args[t]?=some w){ex:qB}{c8:bi}(hex:ex=.normal\/ex=.ret)(h:h9 Y f true fn.ntmps c aj m=some (ex,cF,c8)){vs:List ak}(al:wZ Y cF c8.t fn.results.toList=some vs)
  (ag:v=S0 vs) (hu:bx D args us) (hm:cR Y D m I M):uh Y.P g us I M λr I' M'=>∃ bm,D.ext bm m.n/\aI bm v r/\cR Y bm c8 I' M':=by
 obtain⟨bf,uq⟩:=cr g fn c az ai;refine Is (List.range fn.ntmps) aE az ai uq ?_ λB ao a w a1=>?_
 ·rw[b3];exact⟨y8 bf,yo (by rw[hu.len];exact bo)⟩
 ·have aeo:om D (uu us) aj:=λt w hw=>by obtain⟨x,U,aa⟩:=hu.get (rD t w hw);refine .inl ⟨x,?_,aa⟩;simp only[uu,U]
  have dw:jR (ia Y fn.ntmps B ao I (M.map (·.num)) none) Y.G Y.pr D m.n aj m a w:=⟨D,_,_,I,M,a1,aeo,hm,bp.mJ,cC _⟩;refine wpIn_mono (aL _ _ _ _ _ _ _ _ h bf B ao I (M.map (·.num)) none D m.n a w (λ_=>rfl) dw) ?_;rintro e bS w'⟨rfl,bm,dE,C',I',M',qG,EF,pQ,ab,ax⟩;have CB:∀ y2,y2=.normal\/y2=.ret->sO (ia Y fn.ntmps B ao I (M.map (·.num)) none) fn.results.toList (λr I' M'=>∃ bm,D.ext bm m.n/\aI bm v r/\cR Y bm c8 I' M') y2 dE C' I' M':=λy2 he=>by
   have aep:=MA (X:=ia Y fn.ntmps B ao I (M.map (·.num)) none) (G:=Y.G) (pr:=Y.pr) (C:=C') EF pQ al (K:=λvs=>match vs with
    |[pB]=>sN (M.map (·.num)) I' M' ((λr I' M'=>∃ bm,D.ext bm m.n/\aI bm v r/\cR Y bm c8 I' M') pB)
    |vs=>sN (M.map (·.num)) I' M' ((λr I' M'=>∃ bm,D.ext bm m.n/\aI bm v r/\cR Y bm c8 I' M') (.tuple vs.toArray))) λA' e'=>by
     clear al
     match vs,A',e',ag with
     |[],A',e',ag=>rw[e'.ly];refine⟨I',M',.refl,bm,ab,?_,pQ⟩;rw[ag];exact .G8 .nil| [v1],A',e',ag=>obtain⟨x,xs,U,aa,rfl⟩:=e'.iW;rw[aa.ly];refine⟨I',M',.refl,bm,ab,?_,pQ⟩;rw[ag];exact U
     |v1::v2::vs,A',e',ag=>obtain⟨x,xs,U,aa,rfl⟩:=e'.iW;obtain⟨y,jo,af,aR,rfl⟩:=aa.iW;refine⟨I',M',.refl,bm,ab,?_,pQ⟩;rw[ag];exact .G8 e'
   rcases he with rfl | rfl<;>exact aep
  rcases hex with rfl | rfl;·exact⟨dE,C',I',M',qG,CB _ (.inl rfl)⟩
  ·exact⟨dE,C',I',M',qG,CB _ (.inr rfl)⟩
def Spec.xj{args:List Value}{p q:Value->aS->List ay->Prop}(h:Spec P f args I M p)(ae:∀ v I' M',p v I' M'->q v I' M'):Spec P f args I M q:=by
 rcases h with⟨U,aa⟩ | h
 ·refine .inl ⟨U,λw hw=>?_⟩;refine(aa w hw).mono ?_;rintro e w'⟨v,I',M',aw,aB,bD,dH⟩;exact⟨v,I',M',aw,ae _ _ _ aB,bD,dH⟩
 ·refine .inr λw hw=>?_;obtain⟨v,w',I',M',aw,aB,bD,dH⟩:=h w hw;exact⟨v,w',I',M',aw,ae _ _ _ aB,bD,dH⟩
section
variable{Y:fE}{D:bp}{m m':bi}{I:aS}{M:List ay}
def TZ(aE:cE Y.P Y.E)(cr:tP Y.P)(k0:vp Y)(aL:y9 Y f){args:List ak}{v:ak}(h:GY Y (h9 Y f) g args m=some (v,m'))(hu:bx D args us)(hm:cR Y D m I M) :
  uh Y.P g us I M λr I' M'=>∃ bm,D.ext bm m.n/\aI bm v r/\cR Y bm m' I' M':=by
 unfold GY at h;obtain⟨fn,az,U⟩:=ck h;obtain⟨c,ai,aa⟩:=ck U;obtain⟨bo,af⟩:=fF aa;obtain⟨aj,aT,aU⟩:=a8.vh args (a8.bare 12) 0;rw[aT]at af;have rD:∀ t w,aj.get t=some w->args[t]?=some w:=λt w hw=>by
  rcases aU t w hw with⟨_,h⟩ | ⟨_,h⟩;·simpa using h
  ·rw[Mz]at h;cases h
 unfold S1 at af;split at af
 ·rename_i cF c8 ab;unfold GX at af;obtain⟨vs,al,aR⟩:=ck af;cases aR;exact TY aE cr k0 aL az ai (bJ bo) rD (.inl rfl) ab al rfl hu hm
 ·rename_i cF c8 ab;unfold GX at af;obtain⟨vs,al,aR⟩:=ck af;cases aR;exact TY aE cr k0 aL az ai (bJ bo) rD (.inr rfl) ab al rfl hu hm
 ·cases af
def T0(aE:cE Y.P Y.E)(cr:tP Y.P)(k0:vp Y)(aL:y9 Y f){args:List ak}{v:ak}(h:qg Y (h9 Y f) g args m=some (v,m'))(hu:bx D args us)(hm:cR Y D m I M) :
  Spec Y.P g us I M λr I' M'=>∃ bm,D.ext bm m.n/\aI bm v r/\cR Y bm m' I' M':=by
 unfold qg at h;cases aG:Y.pr g args m with
 |none=>rw[aG]at h;exact .inl (TZ aE cr k0 aL h hu hm)| some p=>rw[aG]at h;have a':some p=some (v,m'):=h;cases a';exact k0 g args m v m' aG D I M us hu hm
def cp.kept{a:Act}{w W:World}{C:c2}{dj I':aS}{M0 M':List ay}(h:cp X β a w F C I' M')(U:X.ao=W)(aa:X.B=W.heap.size)(af:X.dj=dj)(aR:X.bW=M0.map (·.num)):Kept dj M0 W I' M' w where
 le:=by rw[<-af];exact h.gP
 sF b o ai:=by
  rcases h.gu b o ai with bC | bC;·exact .inl (by rw[<-af];exact bC)
  ·exact .inr (by rw[<-aa];exact bC)
 ug x ab:=by
  rcases h.own x ab with bC | bC;·rw[aR]at bC;obtain⟨y,aN,e⟩:=ej.1 bC;exact .inl ⟨y,aN,e⟩
  ·exact .inr (by rw[<-aa];exact bC)
 c3 b ai ax:=by rw[<-U];refine h.c3 b (by rw[aa];exact ai) λhm=>?_;rw[aR]at hm;obtain⟨y,aN,e⟩:=ej.1 hm;exact ax y aN e
 out:=by rw[<-U];exact h.out
 sz:=by rw[<-aa];exact h.sz
def T1{R:Type}:∀ {ps:List Nat} {args:List ak} {kY:a8 ak} {K:a8 ak->Option R} {r:R} {us:List Value} {tmps:Array Value},AV ps args kY K=some r->bx D args us->(∀ t∈ps,t<tmps.size)->(∀ t v,kY.get t=some v->aI D v (tmps.getD t undef)) -> ∃ eI,K eI=some r/\us.length=ps.length/\((ps.zip us).foldl (λ(tmps:Array Value) (p:Nat×Value)=>tmps.setIfInBounds p.1 p.2) tmps).size=tmps.size /\ ∀ t v,eI.get t=some v->aI D v (((ps.zip us).foldl (λ(tmps:Array Value) (p:Nat×Value)=>tmps.setIfInBounds p.1 p.2) tmps).getD t undef)
 |[],[],kY,K,r,us,tmps,h,hu,aG,ao=>by have:=hu.ly;subst this;exact⟨kY,h,rfl,rfl,ao⟩
 |[],_::_,kY,K,r,us,tmps,h,hu,aG,ao=>by simp[AV]at h
 |_::_,[],kY,K,r,us,tmps,h,hu,aG,ao=>by simp[AV]at h
 |t0::ps,tQ::args,kY,K,r,us,tmps,h,hu,aG,ao=>by
  obtain⟨x,xs,aT,aU,rfl⟩:=hu.iW;simp only[AV]at h;obtain⟨eI,U,aa⟩:=a8.mG (some tQ) kY t0;rw[U]at h;have aK:=aG t0 (by simp);obtain⟨sw,af,aR,bC,bO⟩:=T1 (tmps:=tmps.setIfInBounds t0 x) h aU (λt av=>by simpa using aG t (by simp[av])) λt v av=>by
   rw[mL,zn];rcases aa t v av with⟨rfl,e⟩ | ⟨bB,aA⟩;·have:=(mH e);subst this;simp only[qp,aK];exact aT
   ·rw[cA (qo bB),<-mL];exact ao t v aA
  exact⟨sw,af,by simp[aR],by simpa using bC,bO⟩
def jQ.Hp{n:Nat}{aj:a8 ak}(h:jQ D E M a (.loop b n aj ps eC body)):∃ L,(⟨a.b,.loop L⟩:ay)∈M/\Ta D b n aj ps eC body L:=by
 cases h with
 |loop L U aa=>exact⟨L,U,aa⟩
def jQ.aeq{c:Code}{n:Nat}{aj:a8 ak}(h:jQ D E M a (.done c n aj ps eC body)):∃ L,(⟨a.b,.loop L⟩:ay)∈M/\L.state=.done/\L.pending=some c:=by
 cases h with
 |done L U aa af=>exact⟨L,U,aa,af⟩
def cR.swap(h:cR Y D m I M){l:Nat}{aw:fe}{gd:Loc}{o o':Obj}{Mr:List ay}(aA:m.t.get l=some cv)(aC:D l=some gd)(a4:M.Perm (⟨gd.b,o⟩::Mr))(av:∀ id e,eS.get id=some e->(id=l/\some aw=some e)\/(id≠l/\m.t.get id=some e))
  (he:jQ D Y.E (⟨gd.b,o'⟩::Mr) gd aw):cR Y D ⟨eS,m.n⟩ I (⟨gd.b,o'⟩::Mr):=by
 refine h.step (λid e hi=>(av id e hi).imp (λq=>⟨q.1,mH q.2⟩) λq=>q) aC (bp.le_refl D) (λ_ _=>rfl) h.h' (λ_ _ h=>h) (λid e bS bB hi ot x ab ax=>?_) he λid e bS bB hi ot ai=>bB (h.inj _ _ _ _ _ _ hi aA ot aC ai);rcases eg.1 (a4.mem_iff.1 ab)with rfl | ab
 ·exact(bB (h.inj _ _ _ _ _ _ hi aA ot aC ax.symm)).elim
 ·exact lZ _ ab
end
end Go.V
