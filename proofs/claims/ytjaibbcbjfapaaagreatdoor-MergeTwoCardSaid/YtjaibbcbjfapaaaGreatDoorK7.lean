/- Part 7 of what the proofs of this seat share: the executor, data in memory, walks.
-/
import Derived.Test.YtjaibbcbjfapaaaGreatDoorK3
import Derived.Test.YtjaibbcbjfapaaaGreatDoorK6
import Derived.Test.YtjaibbcbjfapaaaGreatDoorK4
import Derived.Test.YtjaibbcbjfapaaaGreatDoorK5
import Derived.Lib.TrailingZeros
set_option linter.all false
set_option maxHeartbeats 8000000
set_option maxRecDepth 100000
namespace Go.V
open Go Go.Proofs
def AN:=@List.map_flatMap
def Fz:=@List.mem_of_mem_drop
def SW:=@List.idxOf_append
def SX:=@List.mem_reverse
variable{I:aI}{M N M0:List aD}{w:World}{f b e n size node IX:Nat}{s:ec}{aB:List Int}{g:cR}{os:aO}{l fJ:List Nat}{F:List a0}{xs vs:List Value}{t:bf}{A:Nat->List Nat}{x:Int}{u:Value}{r:Int×Int}{text:List UInt8}{a bX:Option Addr}{α:Type}{L:List ak}{fZ:List (List ak)}
def abV(nm:ByteArray):∀ (ds:List a4) (i:Nat),eT nm ds i=bif decide (eT nm ds 0<0)then -1 else eT nm ds 0+i
 |[],i=>rfl
 |d::ds,i=>by
  unfold eT;cases h:decide (d.name=nm)with
  |true=>
   have:decide ((((0:Nat):Int))<0)=false:=by decide
   simp[this]
  |false=>
   rw[cw,cw,abV nm ds (i+1),abV nm ds (0+1)];have ag:eT nm ds 0<0\/0<=eT nm ds 0:=by omega
   rcases ag with ag | ag;·rw[hM ag];rfl
   ·have e:decide (eT nm ds 0<0)=false:=fb Z;rw[e,cw,cw];have bc:decide (eT nm ds 0+((0+1:Nat):Int)<0)=false:=fb Z;rw[bc,cw];omega
def abW(nm:ByteArray)(aw cE:List a4):eT nm (aw++cE) 0=bif decide (eT nm aw 0<0)then eT nm cE aw.length else eT nm aw 0:=by
 have key:∀ (aw:List a4) (i:Nat),eT nm (aw++cE) i=bif decide (eT nm aw i<0)then eT nm cE (i+aw.length)else eT nm aw i:=by
  intro aw
  induction aw with
  |nil=>intro i;simp[eT]
  |cons d aw aX=>
   intro i;rw[pP,eT,eT];cases decide (d.name=nm)with
   |true=>have:decide ((i:Int)<0)=false:=fb Z;rw[cD,cD,this,cw]| false=>rw[cw,cw,aX (i+1),ey];rw[show i+1+aw.length=i+(aw.length+1)from by omega]
 have:=key aw 0;rwa [dg]at this
structure FA(aw:List a4)(a7:List (ByteArray×Int)):Prop where
 look:∀ nm,(eU nm a7).isSome=decide (0<=eT nm aw 0)
def abX(nm:ByteArray)(p:ByteArray×Int):∀ a7:List (ByteArray×Int),(eU nm (a7++[p])).isSome=((eU nm a7).isSome||decide (nm=p.1))
 |[]=>by
  show(bif decide (nm=p.1)then some p.2 else none:Option Int).isSome=_;cases decide (nm=p.1)<;>rfl
 |q::a7=>by
  rw[pP,eU,eU];cases decide (nm=q.1)with
  |true=>rfl| false=>rw[cw,cw,abX nm p a7]
def FA.snoc{aw:List a4}{a7:List (ByteArray×Int)}(h:FA aw a7)(d:a4)(v:Int):FA (aw++[d]) (a7++[(d.name,v)]):=by
 refine⟨λnm=>?_⟩;rw[abX,h.look,abW];by_cases ag:eT nm aw 0<0
 ·rw[hM ag,cD,fb (by omega:¬ 0<=eT nm aw 0),zg];unfold eT;have:decide (d.name=nm)=decide (nm=d.name):=decide_eq_decide.2 ⟨Eq.symm,Eq.symm⟩;rw[this];cases decide (nm=d.name)with
  |true=>simp| false=>rw[cw];rfl
 ·rw[fb ag,cw,hM (by omega:0<=eT nm aw 0),Bool.true_or]
def p'(ds:List a4)(i:Nat):Bool:=match ds[i]? with
 |some d=>decide (eT d.name ds 0=i)| none=>true
def aoI(d:a4)(cE:List a4)(i:Nat):eT d.name (d::cE) i=i:=by rw[eT,hM rfl];rfl
def aoJ(cE:List a4):∀ (aw:List a4) (a7:List (ByteArray×Int)),FA aw a7->(∀ i,i<aw.length->p' (aw++cE) i=true) ->
  match l' a7 aw.length cE with
  |none=>∃ i,i<(aw++cE).length/\p' (aw++cE) i=false/\∀ k,k<i->p' (aw++cE) k=true| some r=>FA (aw++cE) r/\∀ i,i<(aw++cE).length->p' (aw++cE) i=true:=by
 induction cE with
 |nil=>intro aw a7 h aC;rw[dE]at *;exact⟨h,aC⟩
 |cons d cE aX=>
  intro aw a7 h aC;have fa:(aw++d::cE)[aw.length]?=some d:=by simp
  have sq:p' (aw++d::cE) aw.length=!(eU d.name a7).isSome:=by
   unfold p';rw[fa,h.look];simp only;rw[abW];by_cases ag:eT d.name aw 0<0;·rw[hM ag,cD,aoI];simp;omega
   ·rw[fb ag,cw];have aV:eT d.name aw 0<aw.length:=by
     have:∀ (aw:List a4) (i:Nat),0<=eT d.name aw i->eT d.name aw i<i+aw.length:=by
      intro aw
      induction aw with
      |nil=>intro i h;simp[eT]at h
      |cons e aw SY=>
       intro i h;unfold eT at h |-;cases ar:decide (e.name=d.name)with
       |true=>simp;omega| false=>rw[ar,cw]at h;rw[cw];have:=SY (i+1) h;simp;omega
     have:=this aw 0 Z;omega
    have aN:decide (eT d.name aw 0=(aw.length:Int))=false:=fb Z;have bc:decide (0<=eT d.name aw 0)=true:=hM Z;rw[aN,bc];rfl
  rw[l'];cases ay:(eU d.name a7).isSome with
  |true=>rw[ay]at sq;exact⟨aw.length,am,sq,aC⟩
  |false=>
   rw[ay]at sq;have:=aX (aw++[d]) (a7++[(d.name,(aw.length:Int))]) (h.snoc d _) (λi hi=>by
    rw[ej];simp at hi;rcases Nat.lt_or_eq_of_le (Nat.lt_succ_iff.1 (by omega:i<aw.length+1))with aa | aa;·exact aC i aa
    ·rw[aa];exact sq)
   rw[ct,ej]at this;exact this
def aoK:FA [] []:=⟨λnm=>by simp[eU,eT]⟩
def yP(ds:List a4)(n:ak):Bool:=!decide (n.k=3)||decide (0<=eT n.t ds 0)
def abY(p:ak->Bool):∀ (ds:List a4) (i:Nat),((qI i ds).all λx=>p x.2)=ds.all λd=>d.t.ns.all p
 |[],i=>rfl| d::ds,i=>by rw[qI,He,xD,abY p ds (i+1),Lh];rfl
def MB(aB:List Int)(g:cR):Int:=
 bif decide ((g.n:Int)=0)then 4 else bif !om g.ds then 4 else bif pZ aB g then 40 else
 bif !(List.range g.ds.length).all (p' g.ds)then 6 else bif g.ds.all λd=>d.t.ns.all (yP g.ds)then 0 else 41
def abZ(aB:List Int)(g:cR):MB aB g=ea aB g:=by
 unfold MB ea;have h:=aoJ g.ds [] [] aoK (λi hi=>by simp at hi);simp only[hl,hW]at h;cases aj:l' [] 0 g.ds with
 |none=>
  rw[aj]at h;obtain⟨i,aa,ab,_⟩:=h;have:(List.range g.ds.length).all (p' g.ds)=false:=by rw[Bool.eq_false_iff];intro eG;rw[fV]at eG;have:=eG i (kx.2 aa);rw[ab]at this;cases this
  rw[this];rfl
 |some a7=>
  rw[aj]at h;obtain⟨aa,ab⟩:=h;have al:(List.range g.ds.length).all (p' g.ds)=true:=by rw[fV];intro i hi;exact ab i (kx.1 hi)
  rw[al];have aL:(g.ds.all λd=>d.t.ns.all (yP g.ds))=rI a7 g.ds:=by unfold rI;rw[abY];congr 1;funext d;congr 1;funext n;unfold z2 yP;rw[aa.look]
  rw[aL];rfl
def ab0(nm:ByteArray):∀ (ds:List a4) (i:Nat),yp nm ds i=bif decide (eT nm ds i<0)then none else some (eT nm ds i)
 |[],i=>rfl
 |d::ds,i=>by
  unfold yp eT;rw[show decide (nm=d.name)=decide (d.name=nm) by rw[my];simp[eq_comm]];cases decide (d.name=nm)with
  |true=>rw[cD,cD,fb Z];rfl| false=>rw[cw,cw];exact ab0 nm ds (i+1)
def aoL(nm:ByteArray)(ds:List a4):eU nm (bL ds)=bif decide (eT nm ds 0<0)then none else some (eT nm ds 0):=by rw[Qy,ab0]
def ab1{nm:ByteArray}{ds:List a4}(h:(eU nm (bL ds)).isSome=true):∃ q:Nat,eT nm ds 0=q/\q<ds.length/\((eU nm (bL ds)).getD 0).toNat=q:=by
 have lD:=aoL nm ds;cases aj:decide (eT nm ds 0<0)with
 |true=>rw[aj,cD]at lD;rw[lD]at h;cases h| false=>rw[aj,cw]at lD;have aL:¬ eT nm ds 0<0:=db aj;obtain⟨q,aM⟩:=dZ (by omega:0<=eT nm ds 0);have ab2:=lD;rw[Qy]at ab2;obtain⟨j,KI,tu⟩:=Qz ab2;refine⟨q,aM,Z,?_⟩;rw[lD,aM];rfl
def ec.marks(s:ec)(i:Nat)(l:List Nat):ec:=l.foldl (λs k=>s.mark i k) s
def ec.ab3(s:ec)(i:Nat)(l m:List Nat):s.marks i (l++m)=(s.marks i l).marks i m:=sL
def ec.FB:∀ (l:List Nat) (s:ec) (i:Nat),(s.marks i l).m.length=s.m.length
 |[],s,i=>rfl| k::l,s,i=>by have:=ec.FB l (s.mark i k) i;unfold ec.marks at this |-;rw[kw,this];simp[ec.mark]
def SZ(b1 b6 b7:Nat):Value:=.func (.func 265) #[] #[ptr b1,ptr b6,ptr b7]
def ab4{I:aI}{g:cR}(az:g.ok I)(lT:g.n<=64){t:bf}(au:t.ok I)(iv:vp t)(ag:right t=true)(eV:wX (bL g.ds) t.ns=true){F:List a0}{M1:List aD}{b1 b6 b7 i:Nat}(hi:i<64)(aa:(⟨b1,.cells #[.slice g.a g.n g.c] 28 (0,0)⟩:aD)∈M1)(eB:(⟨b7,.cells #[.int .i64 i] 3 (0,0)⟩:aD)∈M1){xa:Option Addr}{xc:Nat}(ae:mb I M1 xa t.n (eD (bL g.ds) F t.ns [])) : ∀ (m j:Nat),j<m->∀ (ai:j<t.ns.length) (s:ec) (aw:s.m.length=64),Spec Tryz.prog 264 [t.val,.slice xa t.n xc,.int .i64 j,SZ b1 b6 b7] I (kR b6 s::M1) λv I' M'=>I'=I/\M'=kR b6 (s.marks i (gF (bL g.ds) F t.ns j).2)::M1
 |0,j,h,_,_,_=>absurd h (mO _)
 |m+1,j,ab5,ai,s,aw=>by
  have aX:=ab4 (b6:=b6) (xc:=xc) az lT au iv ag eV hi aa eB ae m;have gu:=au.n;have ib:=az.n;have gr:=bD ai;have aj:=au.ns _ gr;have eF:=aj.aA;have S0:=iv _ gr;have ir:=D' ag ai;have S1:=abU aj.k.1 ir;have gp:=jX ag j ai;have kY:=fV.1 eV _ gr;have bo:=QS (pl:=bL g.ds) (F:=F) ag ai;have kk:=HP (bL g.ds) F t.ns [];simp only[hl,dg]at kk;obtain⟨ad,bt,bj⟩:=au.a'.row ak.cq (show j<t.n by omega) ai;have wH:(gF (bL g.ds) F t.ns j).2=lM (bL g.ds) t.ns[j] (t.ns[j].ao.map (gF (bL g.ds) F t.ns)):=by rw[bo];rfl
  rw[wH];clear bo wH;have AO:∀ q (h:q<t.ns[j].ao.length),∃ k:Nat,t.ns[j].ao[q]=k/\k<j:=λq h=>by have:=gp _ (bD h);exact⟨t.ns[j].ao[q].toNat,Z,Z⟩
  generalize t.ns[j]=d at *;refine bR [] aT Tryz.func264 rfl rfl rfl ?_;intro B ax;refine bi.mk ad j bt rfl Z ?_;refine aJ.mk _ (bj _) ?_;refine aS.mk (λe=>?_) (λcy=>?_);·have e:d.k=3:=cv e;obtain⟨q,HQ,tQ,S2⟩:=ab1 (nm:=d.t) (ds:=g.ds) (by simpa[e]using kY);refine a9.whole _ (aoq az HQ Z hi aw aa eB) ?_;rintro v J N -⟨a6,hp⟩;subst J;subst N;refine⟨_,_,.refl,rfl,?_⟩;rw[lM,hM e,cD,S2];rfl
  have cy:¬ d.k=3:=db cy;refine aS.mk (λe=>?_) (λdX=>?_)
  ·have e:d.k=4:=cv e;have Db:lM (bL g.ds) d (d.ao.map (gF (bL g.ds) F t.ns))=kp (d.ao.map (gF (bL g.ds) F t.ns)):=by rw[lM,fb cy,hM e];rfl
   rw[Db];refine c2.inv (ι:=Nat×ec) (λx=>{ bn:=[(1,.val (.slice xa t.n xc)),(3,.val (SZ b1 b6 b7)),(4,.ref 4 0),(42,.val (.slice d.bX d.aA d.b5)),(43,.val (.int .i64 d.aA)),(44,.val (.int .i64 x.1))],cl:=[(4,t.cells)],cm:=I,cK:=kR b6 x.2::M1 }) (λx=>x.1<=d.aA/\x.2.m.length=64/\s.marks i (kp (d.ao.map (gF (bL g.ds) F t.ns)))=x.2.marks i (kp ((d.ao.drop x.1).map (gF (bL g.ds) F t.ns)))) (λx=>d.aA-x.1) ?_ ?_;·exact⟨(0,s),⟨dh _,aw,rfl⟩,.refl,uF,.cons rfl (.nil)⟩
   rintro⟨q,cr⟩⟨aM,oO,fy⟩;simp only at aM oO fy;refine aS.mk (λh=>?_) (λh=>?_)
   rotate_left
   ·have cM:d.ao.length<=q:=by have:¬ (q:Int)<(d.aA:Int):=db h;omega
    rw[sT cM]at fy;refine⟨_,_,.refl,rfl,?_⟩;rw[fy];rfl
   have aV:q<d.aA:=by have:(q:Int)<(d.aA:Int):=cv h;omega
   have cF:q<d.ao.length:=by omega
   obtain⟨fq,eN,eL⟩:=aj.a'.one aV cF;obtain⟨k,af,IY⟩:=AO q cF;rw[af]at eL;have ab6:k<(eD (bL g.ds) F t.ns []).length:=by omega
   obtain⟨SR,SS,nv⟩:=ae.rd k ab6;have lp:(d.ao.drop q).map (gF (bL g.ds) F t.ns)=gF (bL g.ds) F t.ns k::(d.ao.drop (q+1)).map (gF (bL g.ds) F t.ns):=by rw[e9 cF,ch,af]
   have ma:(gF (bL g.ds) F t.ns k).1=(eD (bL g.ds) F t.ns [])[k]:=by rw[QT];simp[bP,ab6]
   rw[lp,kp,ma,ec.ab3]at fy;refine bi.mk fq q eN rfl aV ?_;refine aJ.mk _ (eL _) ?_;refine a9.whole _ (aX k Z Z cr oO) ?_;rintro v J N -⟨a6,hp⟩;subst J;subst N;refine bi.mk SR k SS rfl Z ?_;refine aJ.mk _ ((nv.sub λx ae=>.tail _ ae).part (k:=0) (m:=1) bv) ?_;refine aS.mk (λbg=>?_) (λbg=>?_)
   ·have gU:(eD (bL g.ds) F t.ns [])[k].z=false:=by simpa using bg
    rw[gU]at fy;refine⟨_,_,.refl,rfl,?_⟩;rw[fy];rfl
   ·have gU:(eD (bL g.ds) F t.ns [])[k].z=true:=by simpa using bg
    rw[gU]at fy;refine a3.mk _ (cC (i:=q) Z) ?_;exact⟨(q+1,cr.marks i (gF (bL g.ds) F t.ns k).2),⟨⟨aV,by rw[ec.FB];exact oO,fy⟩,ce⟩,.refl,uF,.cons rfl (.nil)⟩
  have dX:¬ d.k=4:=db dX;refine aS.mk (λe=>?_) (λmg=>?_)
  ·have e:d.k=6:=cv e;have aoM:=S1.one Z;have jH:0<d.ao.length:=by omega
   refine aS.mk (λcU=>?_) (λcU=>?_)
   ·have Bt:decide (d.hi=0)=false:=by have Bs:(!decide (d.hi=0))=true:=cU;simpa using Bs
    obtain⟨fq,eN,eL⟩:=aj.a'.one (j:=0) Z jH;obtain⟨k,af,IY⟩:=AO 0 jH;rw[af]at eL;have Db:lM (bL g.ds) d (d.ao.map (gF (bL g.ds) F t.ns))=(gF (bL g.ds) F t.ns k).2:=by
     have eR:d.ao=[(k:Int)]:=by
      match ae:d.ao,jH,aoM,af with
      |[a],_,_,af=>simp only[tp]at af;rw[af]| _::_::_,_,h,_=>simp at h;omega
     rw[lM,fb cy,fb dX,Bt,eR];simp
    rw[Db];refine cN.draw aT rfl rfl rfl ?_;refine bi.mk fq 0 eN rfl Z ?_;refine aJ.mk _ (eL _) ?_;refine a9.whole _ (aX k Z Z s aw) ?_;rintro v J N -⟨a6,hp⟩;subst J;subst N;exact⟨_,_,.refl,rfl,rfl⟩
   ·have Bt:decide (d.hi=0)=true:=by have Bs:(!decide (d.hi=0))=false:=cU;simpa using Bs
    have Db:lM (bL g.ds) d (d.ao.map (gF (bL g.ds) F t.ns))=[]:=by rw[lM,fb cy,fb dX,hM e,Bt];rfl
    rw[Db];exact⟨_,_,.refl,rfl,rfl⟩
  have mg:¬ d.k=6:=db mg;have Db:lM (bL g.ds) d (d.ao.map (gF (bL g.ds) F t.ns))=(d.ao.map (gF (bL g.ds) F t.ns)).flatMap (·.2):=by rw[lM,fb cy,fb dX,fb mg];rfl
  rw[Db];refine c2.inv (ι:=Nat×ec) (λx=>{ bn:=[(1,.val (.slice xa t.n xc)),(3,.val (SZ b1 b6 b7)),(4,.ref 4 0),(21,.val (.slice d.bX d.aA d.b5)),(22,.val (.int .i64 d.aA)),(23,.val (.int .i64 x.1))],cl:=[(4,t.cells)],cm:=I,cK:=kR b6 x.2::M1 }) (λx=>x.1<=d.aA/\x.2.m.length=64/\s.marks i ((d.ao.map (gF (bL g.ds) F t.ns)).flatMap (·.2))=x.2.marks i (((d.ao.drop x.1).map (gF (bL g.ds) F t.ns)).flatMap (·.2))) (λx=>d.aA-x.1) ?_ ?_;·exact⟨(0,s),⟨dh _,aw,rfl⟩,.refl,uF,.cons rfl (.nil)⟩
  rintro⟨q,cr⟩⟨aM,oO,fy⟩;simp only at aM oO fy;refine aS.mk (λh=>?_) (λh=>?_)
  rotate_left
  ·have cM:d.ao.length<=q:=by have:¬ (q:Int)<(d.aA:Int):=db h;omega
   rw[sT cM]at fy;refine⟨_,_,.refl,rfl,?_⟩;rw[fy];rfl
  have aV:q<d.aA:=by have:(q:Int)<(d.aA:Int):=cv h;omega
  have cF:q<d.ao.length:=by omega
  obtain⟨fq,eN,eL⟩:=aj.a'.one aV cF;obtain⟨k,af,IY⟩:=AO q cF;rw[af]at eL;rw[e9 cF,ch,af,iS,ec.ab3]at fy;refine bi.mk fq q eN rfl aV ?_;refine aJ.mk _ (eL _) ?_;refine a9.whole _ (aX k Z Z cr oO) ?_;rintro v J N -⟨a6,hp⟩;subst J;subst N;refine a3.mk _ (cC (i:=q) Z) ?_;exact⟨(q+1,cr.marks i (gF (bL g.ds) F t.ns k).2),⟨⟨aV,by rw[ec.FB];exact oO,fy⟩,ce⟩,.refl,uF,.cons rfl (.nil)⟩
def eJ.yQ(h:eJ I M w)(aK:M.Perm N):eJ I N w:=
 ⟨h.i,λx ae=>h.m x (aK.mem_iff.2 ae),λx ae=>h.d x (aK.mem_iff.2 ae),((aK.map (·.num)).nodup_iff).1 h.bO⟩
def Kept.yQ{I':aI}{M' qV:List aD}{w':World}(h:Kept I M w I' M' w')(aK:M.Perm N)(u':M'.Perm qV):Kept I N w I' qV w':=
 ⟨h.le,h.uB,λx ae=>by
  rcases h.vY x (u'.mem_iff.2 ae)with⟨y,aF,e⟩ | aa;·exact .inl ⟨y,aK.mem_iff.1 aF,e⟩
  ·exact .inr aa,λb ah aF=>h.dR b ah λy ti=>aF y (aK.mem_iff.1 ti),h.out,h.sz⟩
def Spec.yQ{P:Program}{args:List Value}{p q:Value->aI->List aD->Prop}(aK:M.Perm N)(aM:∀ v I' M',p v I' M'->∃ qV,M'.Perm qV/\q v I' qV)(h:Spec P f args I M p):Spec P f args I N q:=by
 rcases h with⟨aa,ab⟩ | ab
 ·refine .inl ⟨aa,λw hw=>(ab w (hw.yQ aK.symm)).mono ?_⟩;rintro e w'⟨v,I',M',al,aL,bB,cA⟩;obtain⟨qV,eB,e6⟩:=aM _ _ _ aL;exact⟨v,I',qV,al,e6,bB.yQ eB,cA.yQ aK eB⟩
 ·refine .inr λw hw=>?_;obtain⟨v,w',I',M',al,aL,bB,cA⟩:=ab w (hw.yQ aK.symm);obtain⟨qV,eB,e6⟩:=aM _ _ _ aL;exact⟨v,w',I',qV,al,e6,bB.yQ eB,cA.yQ aK eB⟩
def ec.loop(s:ec)(i:Nat):ec:=⟨s.n,s.m,s.w ||| lN i⟩
def qW(pl:List (ByteArray×Int))(F:List a0)(s:ec)(i:Nat)(d:a4):ec:=
 bif oy d.t.ns (eD pl F d.t.ns [])then(s.marks i (gF pl F d.t.ns d.t.bp).2).loop i else s.marks i (gF pl F d.t.ns d.t.bp).2
def kS(n:Nat):ec:=⟨n,List.replicate 64 0,0⟩
def j5(pl:List (ByteArray×Int))(F:List a0):Nat->List a4->ec->ec
 |_,[],s=>s| i,d::ds,s=>j5 pl F (i+1) ds (qW pl F s i d)
def qX(ds:List a4)(F:List a0):ec:=j5 (bL ds) F 0 ds (kS ds.length)
def ab7(pl:List (ByteArray×Int))(F:List a0)(s:ec)(i:Nat)(d:a4):(qW pl F s i d).m.length=s.m.length:=by
 unfold qW;cases oy d.t.ns (eD pl F d.t.ns [])with
 |true=>exact ec.FB _ s i| false=>exact ec.FB _ s i
def ab8(pl:List (ByteArray×Int))(F:List a0):∀ (l:List a4) (i:Nat) (s:ec) (d:a4),j5 pl F i (l++[d]) s=qW pl F (j5 pl F i l s) (i+l.length) d
 |[],i,s,d=>rfl| a::l,i,s,d=>by rw[pP,j5,j5,ab8 pl F l];congr 1;simp;omega
def S3(pl:List (ByteArray×Int))(F:List a0):∀ (l:List a4) (i:Nat) (s:ec),(j5 pl F i l s).m.length=s.m.length
 |[],i,s=>rfl| d::l,i,s=>by rw[j5,S3 pl F l,ab7]
def ab9(bd:kR b s∈M):cG I M ((⟨b,0,none⟩:Addr).add 65) 1 [pq s.w]:=by rw[eK _ rfl];refine⟨rfl,_,_,_,.inr ⟨_,bd,rfl,rfl⟩,?_,rfl⟩;show(s.cells.drop (0+65)).take 1=_;rw[ec.cells,dg,H0,GW (ua _)];rfl
def aoN(s:ec)(i:Nat):cp s.cells (0+65) [pq (s.w ||| lN i)]=(s.loop i).cells:=by unfold ec.cells ec.loop cp;simp only[dg,ey,hl];rw[rr,sw (ua _),H0,sT (by simp[ua])];simp
def MC(bd:kR b s∈M):cG I M (⟨b,0,none⟩:Addr) 66 s.cells:=
 ⟨rfl,_,_,_,.inr ⟨_,bd,rfl,rfl⟩,by simp only[tq];exact fE (show s.cells.length<=66 by rw[ec.cq];exact cf _),ec.cq s⟩
def aoO(bm:fr I aB)(az:g.ok I)(iv:∀ d∈g.ds,vp d.t)(lT:ea aB g=0->g.n<=64):Spec Tryz.prog 191 [g.val] I [] λv I' M'=>(∀ b o,I b=some o->I' b=some o)/\M'=[] /\
  ((ea aB g≠0/\v=.tuple #[(kS 0).val,.int .i64 (ea aB g)])\/(ea aB g=0/\∃ F,iw g.ds F/\v=.tuple #[(qX g.ds F).val,.int .i64 0])):=by
 refine bR [1,2,6,7] aT Tryz.func191 rfl rfl rfl ?_;intro B ax;have ib:=az.n;have g8:=az.a'.cap;refine bN.mk λb1 iU HD=>?_;refine bN.mk λb8 iR K4=>?_;refine aJ.mk [.slice g.a g.n g.c] (dj (cs:=[.slice g.a g.n g.c]) (k:=0) (n:=1) (.tail _ (.head _)) am) ?_;refine a9.mk [] [kR b8 (kS 0),⟨b1,.cells #[.slice g.a g.n g.c] 28 (0,0)⟩] _ (.refl _) (akJ bm az) ?_;rintro v I1 N -⟨di,⟨hm,rfl,rfl⟩|⟨hm,tW,F,rfl,rfl,bC⟩⟩
 ·refine aS.mk (λ_=>?_) (λh=>absurd h (by simp[hm]));refine b'.nk [] _ _ _ rfl rfl rfl rfl (kS 0).cells rfl ?_;refine aJ.mk _ (MC (.head _)) ?_;exact⟨_,_,.sub (eY _) .refl,di,rfl,.inl ⟨hm,rfl⟩⟩
 refine aS.mk (λh=>absurd h am) (λ_=>?_);have bd:=Lo ib hm;have aca:F.length=g.n:=by rw[bC.len,ib]
 have aoP:=lT hm;refine aJ.mk [.slice g.a g.n g.c] (dj (cs:=[.slice g.a g.n g.c]) (k:=0) (n:=1) (.tail _ (.tail _ (.head _))) am) ?_;refine bN.mk λb6 Em Xq=>?_;refine b'.nk [] _ _ _ rfl rfl rfl rfl (kS g.n).cells rfl ?_;refine aJ.mk [.slice g.a g.n g.c] (dj (cs:=[.slice g.a g.n g.c]) (k:=0) (n:=1) (.tail _ (.tail _ (.tail _ (.head _)))) am) ?_;refine c2.inv (ι:=Nat×aI) (λx=>{ bn:=[(1,.val (ptr b1)),(2,.val (ptr b8)),(4,.val (.slice (some ⟨tW,0,none⟩) g.n g.n)),(6,.val (ptr b6)),(25,.val (.slice g.a g.n g.c)),(26,.val (.int .i64 g.n)),(27,.val (.int .i64 x.1))],cl:=[],cm:=x.2,cK:=[kR b6 (j5 (bL g.ds) F 0 (g.ds.take x.1) (kS g.n)),fU tW F,kR b8 (kS 0),⟨b1,.cells #[.slice g.a g.n g.c] 28 (0,0)⟩] }) (λx=>x.1<=g.n/\∀ b o,I b=some o->x.2 b=some o) (λx=>g.n-x.1) ?_ ?_
 ·exact⟨(0,I1),⟨dh _,di⟩,.refl,pJ,.nil⟩
 rintro⟨i,J⟩⟨hi,a6⟩;simp only at hi a6;refine aS.mk (λh=>?_) (λh=>?_)
 rotate_left
 ·have cM:i=g.n:=by have:¬ (i:Int)<(g.n:Int):=db h;omega
  refine aJ.mk _ (MC (.head _)) ?_;refine b'.nk [kR b6 (j5 (bL g.ds) F 0 (g.ds.take i) (kS g.n)),fU tW F] _ _ _ rfl rfl rfl rfl (j5 (bL g.ds) F 0 (g.ds.take i) (kS g.n)).cells ?_ ?_;·rfl
  refine aJ.mk _ (MC (.tail _ (.tail _ (.head _)))) ?_;refine⟨_,_,.sub (eY _) .refl,a6,rfl,.inr ⟨hm,F,bC,?_⟩⟩;rw[cM,fE (l:=g.ds) Z,qX,ib];rfl
 have aV:i<g.n:=by have:(i:Int)<(g.n:Int):=cv h;omega
 have cF:i<g.ds.length:=by omega
 have yR:=az.mono a6;have IZ:=bm.mono a6;obtain⟨ad,bt,bj⟩:=yR.a'.row a4.cq aV cF;have gr:=bD cF;have aj:=yR.ds _ gr;have ag:=bd.right _ gr;have eV:=bd.named _ gr;have S0:=iv _ gr;have mP:j5 (bL g.ds) F 0 (g.ds.take (i+1)) (kS g.n)=qW (bL g.ds) F (j5 (bL g.ds) F 0 (g.ds.take i) (kS g.n)) i g.ds[i]:=by rw[gi cF,ab8,Ly Z,dg]
 have gJ:(j5 (bL g.ds) F 0 (g.ds.take i) (kS g.n)).m.length=64:=by rw[S3];rfl
 generalize g.ds[i]=d at bj aj ag eV S0 mP;refine bi.mk ad i bt rfl aV ?_;refine aJ.mk _ (bj _) ?_;refine bN.mk λb7 Cz Lr=>?_;refine b'.nk [] _ _ _ rfl rfl rfl rfl [.int .i64 i] rfl ?_;refine aJ.mk [.slice g.a g.n g.c] (dj (cs:=[.slice g.a g.n g.c]) (k:=0) (n:=1) (.tail _ (.tail _ (.tail _ (.tail _ (.head _))))) am) ?_;generalize axg:j5 (bL g.ds) F 0 (g.ds.take i) (kS g.n)=s at gJ mP |-;have fa:∀ {M:List aD},fU tW F∈M->mb J M (some ⟨tW,0,none⟩) g.n F:=λyH=>by have:=Ln (I:=J) yH;rwa [aca]at this
 have acb:Ah g F d.t=some (eD (bL g.ds) F d.t.ns []):=by rw[Ah,ag,eV,hM aca];rfl
 refine a9.whole _ (akE (lc:=g.n) IZ yR aj.t (fa (.tail _ (.tail _ (.head _))))) ?_;rintro v cS dp -⟨c1,⟨aE,-,-⟩|⟨r,cx,aE,rfl,rfl⟩⟩
 ·rw[acb]at aE;cases aE
 rw[acb]at aE;obtain rfl:=eX aE;refine bZ.mk (λh=>?_) (λh=>?_)
 rotate_left
 ·cases h
 refine aS.mk (λh=>absurd h am) (λ_=>?_);have pS:=kh ag;have AA:=ab4 (b1:=b1) (b6:=b6) (b7:=b7) (i:=i) (xa:=some ⟨cx,0,none⟩) (xc:=d.t.n) (F:=F) (yR.mono c1) aoP (aj.t.mono c1) S0 ag eV Z (M1:=[fU cx (eD (bL g.ds) F d.t.ns []),⟨b7,.cells #[.int .i64 i] 3 (0,0)⟩,fU tW F,kR b8 (kS 0),⟨b1,.cells #[.slice g.a g.n g.c] 28 (0,0)⟩]) (.tail _ (.tail _ (.tail _ (.tail _ (.head _))))) (.tail _ (.head _)) (by
  have:=Ln (I:=cS) (M:=[fU cx (eD (bL g.ds) F d.t.ns []),⟨b7,.cells #[.int .i64 i] 3 (0,0)⟩,fU tW F,kR b8 (kS 0),⟨b1,.cells #[.slice g.a g.n g.c] 28 (0,0)⟩]) (b:=cx) (l:=eD (bL g.ds) F d.t.ns []) (.head _);rw[HP,aj.t.n]at this;simpa using this) d.t.ns.length d.t.bp.toNat Z Z s gJ
 rw[zy pS.1]at AA;have aoQ:=Spec.yQ (q:=λv I' M'=>I'=cS/\M'=kR b6 (s.marks i (gF (bL g.ds) F d.t.ns d.t.bp.toNat).2)::[fU cx (eD (bL g.ds) F d.t.ns []),⟨b7,.cells #[.int .i64 i] 3 (0,0)⟩,fU tW F,kR b8 (kS 0),⟨b1,.cells #[.slice g.a g.n g.c] 28 (0,0)⟩]) (lL (a:=kR b6 s) (l₁:=[fU cx (eD (bL g.ds) F d.t.ns []),⟨b7,.cells #[.int .i64 i] 3 (0,0)⟩]) (l₂:=[fU tW F,kR b8 (kS 0),⟨b1,.cells #[.slice g.a g.n g.c] 28 (0,0)⟩])).symm (λv I' M' h=>⟨M',.refl _,h⟩) AA;refine a9.whole _ aoQ ?_;rintro v mj N -⟨oz,hp⟩;subst mj;subst N;generalize gf:s.marks i (gF (bL g.ds) F d.t.ns d.t.bp.toNat).2=s1 at *;have axh:s1.m.length=64:=by rw[<-gf,ec.FB,gJ]
 refine a9.whole _ (aom (xs:=eD (bL g.ds) F d.t.ns []) (aj.t.mono c1) ag ?_) ?_
 ·have:=Ln (I:=cS) (M:=kR b6 s1::[fU cx (eD (bL g.ds) F d.t.ns []),⟨b7,.cells #[.int .i64 i] 3 (0,0)⟩,fU tW F,kR b8 (kS 0),⟨b1,.cells #[.slice g.a g.n g.c] 28 (0,0)⟩]) (b:=cx) (l:=eD (bL g.ds) F d.t.ns []) (.tail _ (.head _));rw[HP,aj.t.n]at this;simpa using this
 rintro v mj N -⟨an,oz,hp⟩;subst mj;subst N;subst v;have fB:(kR b6 (qW (bL g.ds) F s i d))=(kR b6 (bif oy d.t.ns (eD (bL g.ds) F d.t.ns [])then s1.loop i else s1)):=by rw[qW,<-gf];rfl
 refine aS.mk (λhe=>?_) (λhe=>?_)
 rotate_left
 ·have ub:oy d.t.ns (eD (bL g.ds) F d.t.ns [])=false:=he;refine a3.mk _ (cC (i:=i) Z) ?_;refine⟨(i+1,cS),⟨⟨aV,λb o h=>c1 _ _ (a6 _ _ h)⟩,ce⟩,.sub (.cons_cons _ (.cons _ (.cons _ (.refl _)))) (.mc ?_),pJ,.nil⟩;simp only;rw[mP,fB,ub];rfl
 have ub:oy d.t.ns (eD (bL g.ds) F d.t.ns [])=true:=he;refine cN.draw aT rfl rfl rfl ?_;refine aJ.mk _ (ab9 (.head _)) ?_;refine aJ.mk [.int .i64 i] (dj (cs:=[.int .i64 i]) (k:=0) (n:=1) (.tail _ (.tail _ (.head _))) am) ?_;refine sk.mk i rfl ?_;refine a3.mk _ (RP Z) ?_;refine b'.iC [] _ s1.cells _ rfl ?_ rfl (s1.loop i).cells ?_ ?_
 ·rw[ec.cq];rfl
 ·show cp s1.cells (0+65) [Value.int .u64 (lj s1.w.toNat (lN i).toNat)]=_;rw[t'];exact aoN s1 i
 refine a3.mk _ (cC (i:=i) Z) ?_;refine⟨(i+1,cS),⟨⟨aV,λb o h=>c1 _ _ (a6 _ _ h)⟩,ce⟩,.sub (.cons_cons _ (.cons _ (.cons _ (.refl _)))) (.mc ?_),pJ,.nil⟩;simp only;rw[mP,fB,ub];rfl
def FC(l:List Nat):List Value:=l.map λn:Nat=>Value.int .i64 n
def AP(s:ec):List Nat:=bitsOf s.w 64
open Classical in
noncomputable def xl(s:ec):List Nat:=(List.range 64).filter λi=>decide (qM s.m i i)
def aoR{b:ef}(h:∀ i,i<64->(b.getLsbD i=true ↔ qM s.m i i)):bitsOf b 64=xl s:=by
 unfold bitsOf xl;apply Gm;intro i hi;have:=h i i7;by_cases ar:qM s.m i i
 ·simp[ar,this.2 ar]
 ·have:b.getLsbD i=false:=by
   cases ah:b.getLsbD i with
   |false=>rfl| true=>exact absurd (this.1 ah) ar
  simp[ar,this]
def acc(pl:List (ByteArray×Int))(F:List a0):∀ (l:List a4) (i:Nat) (s:ec),(j5 pl F i l s).n=s.n
 |[],i,s=>rfl
 |d::l,i,s=>by
  rw[j5,acc pl F l];have hm:∀ (q:List Nat) (s:ec),(s.marks i q).n=s.n:=λq=>by
   induction q with
   |nil=>exact λs=>rfl
   |cons k q aX=>exact λs=>aX (s.mark i k)
  unfold qW;cases oy d.t.ns (eD pl F d.t.ns [])with
  |true=>exact hm _ s| false=>exact hm _ s
def aoS(ds:List a4)(F:List a0):(qX ds F).n=ds.length:=acc _ _ _ _ _
def aoT(ds:List a4)(F:List a0):(qX ds F).m.length=64:=by rw[qX,S3];rfl
noncomputable def I0(e:Int)(s:ec):Int×Int:=
 if e≠0 then(0,e)else if 0<(xl s).length then(((xl s).headD 0:Nat),42)else if 0<(AP s).length then(((AP s).headD 0:Nat),43)else(0,0)
def aO.pos(h:os.ok 1 (FC l)):l.length=os.n:=by have:=h.len;simpa[FC]using this
def acd(h:os.ok 1 (FC l))(ay:0<l.length)(bd:os.aq e++M0=M):∃ ad,os.a.map (λg=>(⟨g,0,none⟩:Addr))=some ad/\cG I M (ad.add (0*1)) 1 [.int .i64 (l.headD 0:Nat)]:=by
 have aK:=aO.pos h;cases a8:os.a with
 |none=>have:=(h.nil a8).1;omega
 |some b=>
  obtain⟨aa,ab,al,aL⟩:=h.cap b a8;refine⟨⟨b,0,none⟩,rfl,?_⟩;subst bd;cases l with
  |nil=>simp at ay
  |cons a l=>
   cases ar:os.aR with
   |nil=>rw[ar]at aL;simp[FC]at aL
   |cons x xs=>
    rw[ar]at aL;have aE:os.n*1=(os.n-1)+1:=by omega
    rw[aE,rr]at aL;have ae:x=.int .i64 a:=(List.cons.inj aL).1;refine⟨rfl,_,_,_,.inr ⟨⟨b,.cells os.aR.toArray e (0,0)⟩,?_,rfl,rfl⟩,?_,rfl⟩;·unfold aO.aq;rw[a8];exact .head _
    ·rw[ar,ae];rfl
def aoU(bm:fr I aB)(az:g.ok I)(iv:∀ d∈g.ds,vp d.t)(lT:ea aB g=0->g.n<=64):Spec Tryz.prog 110 [g.val] I [] λv I' M'=>(∀ b o,I b=some o->I' b=some o)/\M'=[] /\
  ∃ r:Int×Int,v=.tuple #[.int .i64 r.1,.int .i64 r.2]/\((ea aB g≠0/\r=(0,ea aB g))\/(ea aB g=0/\∃ F,iw g.ds F/\r=I0 0 (qX g.ds F))):=by
 refine bR [4] aT Tryz.func110 rfl rfl rfl ?_;intro B ax;have ib:=az.n;refine a9.mk [] [] _ (.refl _) (aoO bm az iv lT) ?_;rintro v I1 N -⟨di,rfl,⟨hm,rfl⟩|⟨hm,F,bC,rfl⟩⟩
 ·refine bN.mk λeb Cb K5=>?_;refine b'.nk [] _ _ _ rfl rfl rfl rfl (kS 0).cells rfl ?_;refine aS.mk (λh=>?_) (λh=>absurd h (by simp[hm]));exact⟨_,_,.sub (eY _) .refl,di,rfl,(0,ea aB g),rfl,.inl ⟨hm,rfl⟩⟩
 refine bN.mk λeb Cb K5=>?_;refine b'.nk [] _ _ _ rfl rfl rfl rfl (qX g.ds F).cells rfl ?_;have mP:=aoS g.ds F;have gJ:=aoT g.ds F;have aE:=lT hm;generalize aw:qX g.ds F=s at mP gJ;refine aS.mk (λh=>absurd h am) (λ_=>?_);refine aJ.mk _ (MC (.head _)) ?_;refine a9.whole _ (alZ s ⟨gJ,Z⟩) ?_;rintro v J N -⟨rfl,rfl,b,rfl,ah⟩;refine a9.whole _ (aag b) ?_;rintro v J N -⟨rfl,os,bV,rfl,rfl⟩;have bV:os.ok 1 (FC (xl s)):=by rw[<-aoR ah];exact bV
 have aK:=aO.pos bV;refine aS.mk (λh=>?_) (λh=>?_)
 ·have bu:0<(xl s).length:=by have:(0:Int)<(os.n:Int):=cv h;omega
  obtain⟨ad,bt,bj⟩:=acd (I:=J) bV bu rfl;refine bi.mk ad 0 bt rfl Z ?_;refine aJ.mk _ bj ?_;exact⟨_,_,.sub (eY _) .refl,di,rfl,(((xl s).headD 0:Nat),42),rfl,.inr ⟨hm,F,bC,by rw[aw,I0,bK am,bY bu]⟩⟩
 have bu:¬ 0<(xl s).length:=by have:¬ (0:Int)<(os.n:Int):=db h;omega
 refine aJ.mk _ (ab9 (sf _ (.head _))) ?_;refine a9.whole _ (aag s.w) ?_;rintro v cS N -⟨rfl,S4,MD,rfl,rfl⟩;have MD:S4.ok 1 (FC (AP s)):=MD;have iH:=aO.pos MD;refine aS.mk (λh=>?_) (λh=>?_)
 ·have ab:0<(AP s).length:=by have:(0:Int)<(S4.n:Int):=cv h;omega
  obtain⟨ad,bt,bj⟩:=acd (I:=cS) MD ab rfl;refine bi.mk ad 0 bt rfl Z ?_;refine aJ.mk _ bj ?_;exact⟨_,_,.sub (eY _) .refl,di,rfl,(((AP s).headD 0:Nat),43),rfl,.inr ⟨hm,F,bC,by rw[aw,I0,bK am,bK bu,bY ab]⟩⟩
 have ab:¬ 0<(AP s).length:=by have:¬ (0:Int)<(S4.n:Int):=db h;omega
 exact⟨_,_,.sub (eY _) .refl,di,rfl,(0,0),rfl,.inr ⟨hm,F,bC,by rw[aw,I0,bK am,bK bu,bK ab]⟩⟩
def ME(l:List Nat)(w:ef):ef:=l.foldl (λw k=>w ||| lN k) w
def aoV(l:List Nat)(w:ef){i:Nat}(hi:i<64):(ME l w).getLsbD i=(w.getLsbD i||l.contains i):=ale l w hi
def p8(m:List ef)(i:Nat):m.set i (m.getD i 0)=m:=by
 apply zB;intro j;rw[iq];by_cases h:i=j
 ·subst h;by_cases ay:i<m.length
  ·simp[ay,bP]
  ·simp[ay]
 ·simp[h]
def ace(i:Nat):∀ (l:List Nat) (s:ec),i<s.m.length->(s.marks i l).m=s.m.set i (ME l (s.m.getD i 0))
 |[],s,h=>(p8 s.m i).symm| k::l,s,h=>by have aX:=ace i l (s.mark i k) (by simpa[ec.mark]using h);show((s.mark i k).marks i l).m=_;rw[aX,ec.mark];simp only;rw[GY,RQ i9];rfl
def S5(i:Nat):∀ (l:List Nat) (s:ec),(s.marks i l).w=s.w
 |[],s=>rfl| k::l,s=>S5 i l (s.mark i k)
def acf(pl:List (ByteArray×Int))(F:List a0)(s:ec)(i:Nat)(d:a4)(h:i<s.m.length):(qW pl F s i d).m=s.m.set i (ME (gF pl F d.t.ns d.t.bp).2 (s.m.getD i 0)):=by
 unfold qW;rw[<-ace i _ s h];cases oy d.t.ns (eD pl F d.t.ns [])<;>rfl
def acg(pl:List (ByteArray×Int))(F:List a0)(s:ec)(i:Nat)(d:a4):(qW pl F s i d).w=bif oy d.t.ns (eD pl F d.t.ns [])then s.w ||| lN i else s.w:=by
 unfold qW;cases oy d.t.ns (eD pl F d.t.ns [])
 ·exact S5 i _ s
 ·show(s.marks i _).w ||| lN i=_
  rw[S5];rfl
def S6(pl:List (ByteArray×Int))(F:List a0):∀ (l:List a4) (i:Nat) (s:ec),s.m.length=64->i+l.length<=64 -> (∀ j,j<i\/i+l.length<=j->(j5 pl F i l s).m.getD j 0=s.m.getD j 0) /\ (∀ q (h:q<l.length),(j5 pl F i l s).m.getD (i+q) 0=ME (gF pl F l[q].t.ns l[q].t.bp).2 (s.m.getD (i+q) 0)) /\ (∀ j,j<64->j<i\/i+l.length<=j->(j5 pl F i l s).w.getLsbD j=s.w.getLsbD j) /\ (∀ q (h:q<l.length),(j5 pl F i l s).w.getLsbD (i+q)=(s.w.getLsbD (i+q)||oy l[q].t.ns (eD pl F l[q].t.ns [])))
 |[],i,s,_,_=>⟨λ_ _=>rfl,λ_ h=>absurd h am,λ_ _ _=>rfl,λ_ h=>absurd h am⟩
 |d::l,i,s,aw,ay=>by
  rw[ey]at ay;obtain⟨aa,ab,al,aL⟩:=S6 pl F l (i+1) (qW pl F s i d) (by rw[ab7,aw]) Z;have hm:∀ j,j≠i->(qW pl F s i d).m.getD j 0=s.m.getD j 0:=λj ai=>by rw[acf pl F s i d Z];simp[bP,iq,sh ai]
  have hw:∀ j,j<64->j≠i->(qW pl F s i d).w.getLsbD j=s.w.getLsbD j:=λj ai bH=>by
   rw[acg];cases oy d.t.ns (eD pl F d.t.ns []);·rfl
   ·rw[cD,z8,Lw ai];simp[bH]
  refine⟨λj ai=>?_,λq h=>?_,λj ai tu=>?_,λq h=>?_⟩;·rw[ey]at ai;rw[j5,aa j Z,hm j Z]
  ·cases q with
   |zero=>rw[j5,aa _ Z,acf pl F s i d Z];rw[pF,RQ Z];rfl| succ q=>have:=ab q i9;rw[show i+1+q=i+(q+1) by omega]at this;rw[j5,this,hm _ Z];rfl
  ·rw[ey]at tu;rw[j5,al j ai Z,hw j ai Z]
  ·cases q with
   |zero=>
    rw[j5,al _ Z Z,acg,pF,tp];cases he:oy d.t.ns (eD pl F d.t.ns []);·simp
    ·rw[cD,z8,Lw Z];simp
   |succ q=>
    have aM:q<l.length:=by simpa using h
    have:=aL q aM;rw[show i+1+q=i+(q+1) by omega]at this;rw[j5,this,hw _ Z Z];rfl
def ml(ds:List a4)(F:List a0)(i:Nat):List Nat:=match ds[i]? with
 |some d=>(gF (bL ds) F d.t.ns d.t.bp).2| none=>[]
def I2(ds:List a4)(F:List a0)(i:Nat):Bool:=match ds[i]? with
 |some d=>oy d.t.ns (eD (bL ds) F d.t.ns [])| none=>false
def MF{ds:List a4}(aE:ds.length<=64){i k:Nat}(af:k<64):((qX ds F).m.getD i 0).getLsbD k=(ml ds F i).contains k:=by
 obtain⟨aa,ab,-,-⟩:=S6 (bL ds) F ds 0 (kS ds.length) (by rfl) Z;have ax:∀ j,(kS ds.length).m.getD j 0=0#64:=λj=>by
  simp only[kS,bP,List.getElem?_replicate];by_cases h:j<64<;>simp[h]
 unfold ml qX;by_cases h:i<ds.length
 ·have:=ab i h;rw[dg]at this;rw[this,ax,aoV _ _ af,du h];simp
 ·rw[aa i Z,ax,rp Z];simp
def ach{ds:List a4}(aE:ds.length<=64){i:Nat}(hi:i<64):(qX ds F).w.getLsbD i=I2 ds F i:=by
 obtain⟨-,-,aa,ab⟩:=S6 (bL ds) F ds 0 (kS ds.length) (by rfl) Z;unfold I2 qX;by_cases h:i<ds.length
 ·have:=ab i h;rw[dg]at this;rw[this,du h];simp[kS]
 ·rw[aa i hi Z,rp Z];simp[kS]
section
end
section
end
def S7(a b c d:Int):ak:=⟨1,a,b,c,d,⟨#[]⟩,0,0,none,0,0,[]⟩
def aci{a b c d:Int}(a8:eC a)(ah:eC b)(ar:eC c)(aj:eC d):Spec Tryz.prog 36 [.agg #[.int .u64 a,.int .u64 b,.int .u64 c,.int .u64 d]] I [] λv I' M'=>(∀ b o,I b=some o->I' b=some o)/\∃ t:bf,v=t.val/\t.ok I'/\t.ns=[S7 a b c d]/\t.bp=0/\M'=[]:=by refine bR [] aT Tryz.func36 rfl rfl rfl ?_;intro B ax;have bl:(S7 a b c d).ok I:=⟨⟨by show(0:Int)<=1;decide,by show(1:Int)<256;decide⟩,a8,ah,ar,aj,by show(0:Nat)<=_;decide,i0,i0,⟨rfl,⟨cf _,by show 0*8<=_;omega⟩,.inl rfl⟩,λx ae=>wt⟩;have ay:=X4 (I:=I) bl;have an:(S7 a b c d).val=.agg #[.int .u8 1,.int .u64 a,.int .u64 b,.int .u64 c,.int .u64 d,.string ⟨#[]⟩,.int .i64 0,.int .i64 0,.slice none 0 0]:=rfl;rw[an]at ay;refine a9.mk [] [] _ (.refl _) ay ?_;rintro v I' M' -⟨bG,t,rfl,au,aa,ab,rfl⟩;exact⟨_,_,.refl,bG,t,rfl,au,aa,ab,rfl⟩
def aoW(b:Nat)(ts:List bf):aD:=⟨b,.cells (ts.flatMap bf.cells).toArray 24 (0,0)⟩
def aoX{ts:List bf}(bd:aoW b ts∈M):∀ j (h:j<ts.length),∃ ad,some (⟨b,0,none⟩:Addr)=some ad/\cG I M (ad.add (j*2)) 2 ts[j].cells:=λj ai=>by refine⟨_,rfl,?_⟩;have ay:=gz bf.cells 2 (λ_=>rfl) ts;have h:=dj (I:=I) (cs:=ts.flatMap bf.cells) (k:=j*2) (n:=2) bd (by rw[ay];omega);rwa [BQ bf.cells 2 (λ_=>rfl) ts j ai]at h
structure aoY(t:bf):Prop where
 n:t.n<2500
 ns:∀ bO∈t.ns,P0 bO
structure jN(L:List bf)(n0:Nat)(x:Nat×Nat):Prop where
 i:x.2<=L.length
 n:x.1<=6000
 ge:n0<=x.1
 small:x.1<2500->x.2<=x.1/\∀ j (h:j<L.length),j<x.2->aoY L[j]
def MG{ds:List a4}{f:a4->a0}{i:Nat}(h:i<ds.length):(ds.map f).getD i cn=f ds[i]:=by simp[bP,h]
def ph.all{ds:List a4}{l:List a0}(h:ph ds l):ph ds (ds.map (iZ (bL ds) l))/\dY l (ds.map (iZ (bL ds) l)):=by
 have bo:dY l (ds.map (iZ (bL ds) l)):=dY.of (by simp[h.len]) λi hi=>by rw[MG (by rw[<-h.len];exact hi)];exact h.up i _
 refine⟨⟨am,λi hi=>?_,λm hm ar=>dY.of (by simp[hm]) λi hi=>?_⟩,bo⟩
 ·rw[MG hi];exact HS bo _
 ·have ck:i<ds.length:=by simpa using hi
  rw[MG ck];exact(HS (h.least m hm ar) _).trans (ar i ck)
def AQ(b:Bool)(xs:List (a0×List Nat)):List Nat:=bif b then kp xs else xs.flatMap (·.2)
def aoZ(b:Bool):AQ b []=[]:=by cases b<;>rfl
def ao0(b:Bool)(x:a0×List Nat)(xs:List (a0×List Nat)):AQ b (x::xs)=x.2++bif b && !x.1.z then []else AQ b xs:=by
 cases b with
 |true=>
  cases bg:x.1.z<;>simp[AQ,kp,bg]
 |false=>simp[AQ]
def ao1{pl:List (ByteArray×Int)}{d:ak}{xs:List (a0×List Nat)}(al:¬ d.k=3)(cA:¬ (d.k=6/\d.hi=0)):lM pl d xs=AQ (decide (d.k=4)) xs:=by
 unfold lM AQ;rw[fb al,cw];cases aL:decide (d.k=4)with
 |true=>rfl
 |false=>
  rw[cw,cw];by_cases a:d.k=6;·have b:¬ d.hi=0:=λe=>cA ⟨a,e⟩;rw[hM a,fb b];rfl
  ·rw[fb a];rfl
def yS(pl:List (ByteArray×Int))(F:List a0)(d:ak)(xs:List ((a0×List Nat)×Bool)):Bool:=xs.any λx=>(decide (d.k=6)&&(decide (d.hi=-1)&&x.1.1.z))||x.2
def hZ(pl:List (ByteArray×Int))(F:List a0)(d:ak)(xs:List ((a0×List Nat)×Bool)):(a0×List Nat)×Bool:=(rP pl F d (xs.map (·.1)),yS pl F d xs)
def px(pl:List (ByteArray×Int))(F:List a0)(ns:List ak)(j:Int):(a0×List Nat)×Bool:=mH ((cn,[]),false) (λd g=>hZ pl F d (d.ao.map g)) ns j
def acj{pl:List (ByteArray×Int)}(ag:right t=true){j:Nat}(ai:j<t.ns.length):px pl F t.ns j=hZ pl F t.ns[j] (t.ns[j].ao.map (px pl F t.ns)):=
 D9 (λd g et h=>by rw[fX h]) ag ai
def MH{pl:List (ByteArray×Int)}{F:List a0}{t:bf}(ag:right t=true):∀ (m j:Nat),j<m->j<t.ns.length->(px pl F t.ns j).1=gF pl F t.ns j
 |0,j,h,_=>absurd h (mO _)
 |m+1,j,hm,ai=>by
  rw[acj ag ai,QS ag ai];have:(t.ns[j].ao.map (px pl F t.ns)).map (·.1)=t.ns[j].ao.map (gF pl F t.ns):=by rw[gE];refine fX λk af=>?_;obtain⟨aa,ab⟩:=jX ag j ai k af;obtain⟨q,rfl⟩:=dZ aa;exact MH ag m q Z Z
  show rP pl F t.ns[j] _=_;rw[this]
def ao2(pl:List (ByteArray×Int))(F:List a0)(ns:List ak)(j:Int):px pl F (ns.map ak.aW) j=px pl F ns j:=by unfold px mH;rw[HW (f:=λd g=>hZ pl F d (d.ao.map g)) (g:=λd g=>hZ pl F d (d.ao.map g)) (λd q=>rfl)]
def qa(ds:List a4)(F:List a0)(i:Nat):List Nat:=(List.range ds.length).filter λk=>(ml ds F i).contains k
def xm(ds:List a4)(F:List a0)(i:Nat):Bool:=match ds[i]? with
 |some d=>(px (bL ds) F d.t.ns d.t.bp).2| none=>false
def qb(ds:List a4)(F:List a0):List Nat:=(List.range ds.length).filter (xm ds F)
inductive mR(A:Nat->List Nat):Nat->Nat->Prop
 |one{i k}(h:k∈A i):mR A i k| step {i j k} (h:j∈A i) (t:mR A j k):mR A i k
def mR.snoc{i j k:Nat}(h:mR A i j)(af:k∈A j):mR A i k:=by
 induction h with
 |one h=>exact .step h (.one af)| step h t aX=>exact .step h (aX af)
def vB:List Nat->List Nat->List Nat
 |[],l=>l| x::r,l=>vB r (bif l.contains x then l else l++[x])
def FD:∀ (r l:List Nat) (x:Nat),x∈vB r l ↔ x∈l\/x∈r
 |[],l,x=>by simp[vB]
 |y::r,l,x=>by
  rw[vB,FD r];cases h:l.contains y with
  |true=>
   have aF:y∈l:=by simpa using h
   rw[cD];constructor
   ·rintro(a | a)
    ·exact .inl a
    ·exact .inr (.tail _ a)
   ·rintro(a | a)
    ·exact .inl a
    ·rcases ez.1 a with rfl | a
     ·exact .inl aF
     ·exact .inr a
  |false=>
   rw[cw];rw[cW,ep,ez];constructor
   ·rintro((a | a) | a)
    ·exact .inl a
    ·exact .inr (.inl a)
    ·exact .inr (.inr a)
   ·rintro(a | a | a)
    ·exact .inl (.inl a)
    ·exact .inl (.inr a)
    ·exact .inr a
def ack:∀ (r l:List Nat),∃ s,vB r l=l++s
 |[],l=>⟨[],by simp[vB]⟩
 |y::r,l=>by
  obtain⟨s,aw⟩:=ack r (bif l.contains y then l else l++[y]);rw[vB,aw];cases l.contains y with
  |true=>exact⟨s,rfl⟩| false=>exact⟨[y]++s,am⟩
def acm:∀ (r l:List Nat),l.Nodup->(vB r l).Nodup
 |[],l,h=>h
 |y::r,l,h=>by
  rw[vB];apply acm r;cases ar:l.contains y with
  |true=>exact h
  |false=>
   have aF:y ∉ l:=by simpa using ar
   rw[cw,uw];refine⟨h,am,λa a8 b ah e=>?_⟩;have:b=y:=by simpa using ah
   subst this;subst e;exact aF a8
def acn:∀ (n:Nat) (l:List Nat),l.Nodup->(∀ x∈l,x<n)->l.length<=n
 |0,[],_,_=>cf _| 0,a::l,_,h=>absurd (h a (.head _)) (mO _)
 |n+1,l,aj,h=>by
  have aa:=acn n (l.erase n) (aj.erase n) λx ae=>by have ab:=h x (List.mem_of_mem_erase ae);have al:x≠n:=(aj.mem_erase_iff.1 ae).1;omega
  have aL:=List.length_erase (a:=n) (l:=l);split at aL<;>omega
def FE(A:Nat->List Nat):Nat->Nat->List Nat->List Nat
 |0,_,l=>l
 |f+1,k,l=>match l[k]? with
  |some x=>FE A f (k+1) (vB (A x) l)| none=>l
structure ue(A:Nat->List Nat)(n k:Nat)(fJ l:List Nat):Prop where
 bO:l.Nodup
 lt:∀ x∈l,x<n
 sub:∀ x∈fJ,x∈l
 src:∀ x∈l,x∈fJ\/∃ y∈fJ,mR A y x
 I3:∀ j x,j<k->l[j]?=some x->∀ y∈A x,y∈l
 k:k<=l.length
def ue.len{k:Nat}(h:ue A n k fJ l):l.length<=n:=acn n l h.bO h.lt
def ue.next{k:Nat}(dz:∀ x,∀ y∈A x,y<n)(h:ue A n k fJ l){x:Nat}(ae:l[k]?=some x):ue A n (k+1) fJ (vB (A x) l):=by
 obtain⟨s,aw⟩:=ack (A x) l;have af:k<l.length:=by
  rcases Nat.lt_or_ge k l.length with aa | aa;·exact aa
  ·rw[rp aa]at ae;cases ae
 have kk:x∈l:=sg ae;refine⟨acm _ _ h.bO,λz bg=>?_,λz bg=>(FD _ _ _).2 (.inl (h.sub z bg)),λz bg=>?_,λj z ai bg y aF=>?_,by rw[aw];simp;omega⟩
 ·rcases(FD _ _ _).1 bg with a | a
  ·exact h.lt z a
  ·exact dz x z a
 ·rcases(FD _ _ _).1 bg with a | a
  ·exact h.src z a
  ·rcases h.src x kk with b | ⟨w,hw,b⟩
   ·exact .inr ⟨x,b,.one a⟩
   ·exact .inr ⟨w,hw,b.snoc a⟩
 ·have gU:l[j]?=some z:=by rw[aw,sv Z]at bg;exact bg
  by_cases e:j=k;·subst e;rw[ae]at gU;obtain rfl:=eX gU;exact(FD _ _ _).2 (.inr aF)
  ·exact(FD _ _ _).2 (.inl (h.I3 j z Z gU y aF))
def ue.done{i:Nat}(h:ue A n l.length (A i) l)(x:Nat):x∈l ↔ mR A i x:=by
 constructor
 ·intro ae;rcases h.src x ae with a | ⟨y,aF,a⟩
  ·exact .one a
  ·exact .step aF a
 ·have cl:∀ {y z:Nat},mR A y z->y∈l->z∈l:=fun {y z} ar=>by
   induction ar with
   |one af=>intro aF;obtain⟨j,ai,e⟩:=hL aF;exact h.I3 j _ ai (by rw[du ai,e]) _ af
   |step ai t aX=>intro aF;refine aX ?_;obtain⟨q,aM,e⟩:=hL aF;exact h.I3 q _ aM (by rw[du aM,e]) _ ai
  intro ar;cases ar with
  |one af=>exact h.sub x af| step ai t=>exact cl t (h.sub _ ai)
def S8{pl:List (ByteArray×Int)}(ag:right t=true){j:Nat}(ai:j<t.ns.length):(px pl F t.ns j).2=true ↔ ∃ k∈t.ns[j].ao,(t.ns[j].k=6/\t.ns[j].hi=-1/\(eD pl F t.ns []).getD k.toNat cn=(eD pl F t.ns []).getD k.toNat cn/\((eD pl F t.ns []).getD k.toNat cn).z=true)\/(px pl F t.ns k).2=true:=by
 have ma:∀ k∈t.ns[j].ao,(px pl F t.ns k).1.1=(eD pl F t.ns []).getD k.toNat cn:=λk af=>by obtain⟨aa,ab⟩:=jX ag j ai k af;obtain⟨q,rfl⟩:=dZ aa;rw[MH ag (q+1) q Z Z,QT]
 rw[acj ag ai];show yS pl F t.ns[j] _=true ↔ _;unfold yS;rw[Fm];constructor
 ·rintro⟨x,ae,h⟩;obtain⟨k,af,rfl⟩:=c6.1 ae;refine⟨k,af,?_⟩;rw[ma k af]at h;simp only[nD,cH,gN]at h;rcases h with⟨a,b,c⟩ | h
  ·exact .inl ⟨a,b,rfl,c⟩
  ·exact .inr h
 ·rintro⟨k,af,h⟩;refine⟨_,c6.2 ⟨k,af,rfl⟩,?_⟩;rw[ma k af];simp only[nD,cH,gN];rcases h with⟨a,b,-,c⟩ | h
  ·exact .inl ⟨a,b,c⟩
  ·exact .inr h
def aco{pl:List (ByteArray×Int)}{F:List a0}{t:bf}(ag:right t=true):∀ (m j:Nat),j<t.ns.length->t.ns.length-j<=m->(px pl F t.ns j).2=true->(px pl F t.ns t.bp).2=true
 |0,j,ai,hm,_=>by omega
 |m+1,j,ai,hm,h=>by
  by_cases e:(j:Int)=t.bp;·rw[<-e];exact h
  ·obtain⟨p,aK,af,aV⟩:=Yf ag ai e;exact aco ag m p aK Z ((S8 ag aK).2 ⟨_,af,.inr h⟩)
def ao3{l:List Int}{k:Int}(af:k∈l)(h:l.length=1):l.headD 0=k:=by
 match l,h with
 |[a],_=>exact(ep.1 af).symm
def acp{pl:List (ByteArray×Int)}{F:List a0}{t:bf}(ag:right t=true)(aa:∀ d∈t.ns,d.k=6->d.ao.length=1):∀ (m j:Nat),j<m->∀ (ai:j<t.ns.length),(px pl F t.ns j).2=true->oy t.ns (eD pl F t.ns [])=true
 |0,j,h,_,_=>absurd h (mO _)
 |m+1,j,hm,ai,h=>by
  obtain⟨k,af,⟨a,b,-,c⟩ | h⟩:=(S8 ag ai).1 h;·refine Fm.2 ⟨t.ns[j],bD ai,?_⟩;simp only[cH,gN];refine⟨a,b,?_⟩;rw[ao3 af (aa _ (bD ai) a)];exact c
  ·obtain⟨ab,al⟩:=jX ag j ai k af;obtain⟨q,rfl⟩:=dZ ab;exact acp ag aa m q Z Z h
def ao4{pl:List (ByteArray×Int)}(ag:right t=true)(aa:∀ d∈t.ns,d.k=6->d.ao.length=1):(px pl F t.ns t.bp).2=oy t.ns (eD pl F t.ns []):=by
 obtain⟨gH,fT⟩:=kh ag;obtain⟨r,dD⟩:=dZ gH;apply my.2;constructor
 ·intro h;rw[dD]at h;exact acp ag aa (r+1) r Z Z h
 ·intro h;obtain⟨d,aj,h⟩:=Fm.1 h;obtain⟨j,ai,rfl⟩:=hL aj;simp only[cH,gN]at h;obtain⟨a,b,c⟩:=h;have ay:=aa _ aj a;have af:t.ns[j].ao.headD 0∈t.ns[j].ao:=by
   match ae:t.ns[j].ao,ay with
   |[q],_=>simp
  exact aco ag t.ns.length j ai Z ((S8 ag ai).2 ⟨_,af,.inl ⟨a,b,rfl,c⟩⟩)
def acq{b:Bool}{x:Nat}:∀ {xs:List (a0×List Nat)},x∈AQ b xs->∃ y∈xs,x∈y.2
 |[],h=>by rw[aoZ]at h;cases h
 |y::xs,h=>by
  rw[ao0]at h;rcases cW.1 h with h | h;·exact⟨y,.head _,h⟩
  ·cases ah:b && !y.1.z with
   |true=>rw[ah]at h;cases h| false=>rw[ah]at h;obtain⟨z,bg,ae⟩:=acq (xs:=xs) h;exact⟨z,.tail _ bg,ae⟩
def acr{ds:List a4}{F:List a0}{t:bf}(ag:right t=true)(eV:wX (bL ds) t.ns=true):∀ (m j:Nat),j<m->j<t.ns.length->∀ x∈(gF (bL ds) F t.ns j).2,x<ds.length
 |0,j,h,_=>absurd h (mO _)
 |m+1,j,hm,ai=>by
  intro x ae;rw[QS ag ai]at ae;have ae:x∈lM (bL ds) t.ns[j] (t.ns[j].ao.map (gF (bL ds) F t.ns)):=ae;have kY:=fV.1 eV _ (bD ai);by_cases al:t.ns[j].k=3
  ·obtain⟨q,HQ,tQ,S2⟩:=ab1 (nm:=t.ns[j].t) (ds:=ds) (by simpa[al]using kY);rw[lM,hM al,cD,S2]at ae;have:x=q:=by simpa using ae
   omega
  by_cases cA:t.ns[j].k=6/\t.ns[j].hi=0;·rw[lM,fb al,cw,fb (show ¬ t.ns[j].k=4 by omega),cw,hM cA.1,hM cA.2]at ae;cases ae
  ·rw[ao1 al cA]at ae;obtain⟨y,aF,ao5⟩:=acq ae;obtain⟨k,af,rfl⟩:=c6.1 aF;obtain⟨aa,ab⟩:=jX ag j ai k af;obtain⟨q,rfl⟩:=dZ aa;exact acr ag eV m q Z Z x ao5
def S9(bd:wZ g)(i:Nat):∀ k∈ml g.ds F i,k<g.ds.length:=by
 intro k af;unfold ml at af;by_cases h:i<g.ds.length
 ·rw[du h]at af;have gr:=bD h;have ag:=bd.right _ gr;obtain⟨gH,fT⟩:=kh ag;obtain⟨r,dD⟩:=dZ gH;have af:k∈(gF (bL g.ds) F g.ds[i].t.ns g.ds[i].t.bp).2:=af;rw[dD]at af;exact acr ag (bd.named _ gr) (r+1) r Z Z k af
 ·rw[rp Z]at af;cases af
def acs(bd:wZ g)(lT:g.ds.length<=64){i k:Nat}(hi:i<64):qM (qX g.ds F).m i k ↔ mR (ml g.ds F) i k:=by
 constructor
 ·intro h
  induction h with
  |one af h=>rw[MF lT af]at h;exact .one i9| step h ai t aX=>rw[MF lT ai]at h;exact .step i9 (aX ai)
 ·intro h
  induction h with
  |one h=>have:=S9 bd _ _ h;exact .one Z (by rw[MF lT Z];simpa using h)| step h t aX=>have:=S9 bd _ _ h;exact .step (by rw[MF lT Z];simpa using h) Z (aX Z)
def acu(aE:n<=64)(p q:Nat->Bool)(aa:∀ k,k<n->p k=q k)(ab:∀ k,n<=k->k<64->p k=false):(List.range 64).filter p=(List.range n).filter q:=by
 have lT:(List.range 64)=List.range n++(List.range' n (64-n)):=by rw[DI,DI,show 64=n+(64-n) by omega,<-List.range'_append_1];simp
 have al:(List.range' n (64-n)).filter p=[]:=by rw[List.filter_eq_nil_iff];intro k af;rw[List.mem_range'_1]at af;rw[ab k Z Z];simp
 rw[lT,Ex,al,dE];apply Gm;intro k af;exact aa k (by simpa using af)
def ao6(az:g.ok I)(bd:wZ g)(F:List a0)(i:Nat):xm g.ds F i=I2 g.ds F i:=by
 unfold xm I2;by_cases h:i<g.ds.length
 ·rw[du h];have gr:=bD h;have ag:=bd.right _ gr;have au:=(az.ds _ gr).t;refine ao4 ag λd aj af=>?_;obtain⟨j,ai,rfl⟩:=hL aj;have bW:=au.ns _ aj;have:=(abU bW.k.1 (D' ag ai)).one Z;omega
 ·rw[rp Z]
def ao7(az:g.ok I)(bd:wZ g)(lT:g.ds.length<=64)(F:List a0):AP (qX g.ds F)=qb g.ds F:=by
 unfold AP qb bitsOf;refine acu lT _ _ (λk af=>?_) (λk af e4=>?_)
 ·rw[ach lT Z,ao6 az bd]
 ·rw[ach lT e4,I2,rp af]
open Classical in
noncomputable def rY(ds:List a4)(F:List a0):List Nat:=(List.range ds.length).filter λi=>decide (mR (ml ds F) i i)
def acv{ds:List a4}{i:Nat}(h:ds.length<=i):ml ds F i=[]:=by rw[ml,rp h]
open Classical in
def ao8(bd:wZ g)(lT:g.ds.length<=64)(F:List a0):xl (qX g.ds F)=rY g.ds F:=by
 unfold xl rY;refine acu lT _ _ (λk af=>?_) (λk af e4=>?_)
 ·exact decide_eq_decide.2 (acs bd lT Z)
 ·refine fb λar=>?_;have ar:=(acs bd lT e4).1 ar;have aE:=acv (F:=F) af;cases ar with
  |one h=>rw[aE]at h;cases h| step h t=>rw[aE]at h;cases h
structure S'(d:ak):Prop where
 aA:d.aA<400
 t:d.t.size<8020
structure sZ(t:bf):Prop where
 n:t.n<400
 ns:∀ bO∈t.ns,S' bO
structure acw(d:a4):Prop where
 name:d.name.size<8020
 t:sZ d.t
structure AR(g:cR):Prop where
 n:g.n<400
 ds:∀ d∈g.ds,acw d
def Cg.MI{d:ak}(h:Cg I d)(aw:S' d):d.ok I:=
 ⟨h.k,h.b0,h.s1,h.s2,h.cg,h.ts,h.lo,h.hi,h.a'.Hy (by have:=aw.aA;omega),h.ao⟩
def vb.MI(h:vb I t)(aw:sZ t):t.ok I:=
 ⟨h.a'.Hy (by have:=aw.n;omega),λbO bW=>(h.ns bO bW).MI (aw.ns bO bW),h.bp⟩
def Ta(h:ea aB g=0):g.n<=64:=by
 unfold ea at h;cases aa:decide ((g.n:Int)=0)with
 |true=>rw[aa]at h;simp at h
 |false=>
  rw[aa,cw]at h;cases ab:om g.ds with
  |false=>rw[ab]at h;simp at h
  |true=>
   rw[ab]at h;cases al:pZ aB g with
   |true=>rw[al]at h;simp at h| false=>unfold pZ at al;simp only[rq,pN]at al;omega
def acx{A:Nat->List Nat}{n:Nat}{fJ:List Nat}(dz:∀ x,∀ y∈A x,y<n):∀ (f k:Nat) (l:List Nat),ue A n k fJ l->n+1<=f+k->ue A n (FE A f k l).length fJ (FE A f k l)
 |0,k,l,h,aC=>by have:=h.len;have:=h.k;omega
 |f+1,k,l,h,aC=>by
  rw[FE];cases ae:l[k]? with
  |none=>
   have aa:k=l.length:=by have:=h.k;have:=List.getElem?_eq_none_iff.1 ae;omega
   subst aa;exact h
  |some x=>exact acx dz f (k+1) _ (h.next dz ae) Z
def mR.congr{B:Nat->List Nat}(h:∀ i k,k∈A i->k∈B i){i k:Nat}(ar:mR A i k):mR B i k:=by
 induction ar with
 |one aa=>exact .one (h _ _ aa)| step aa t aX=>exact .step (h _ _ aa) aX
def acy(bd:wZ g){i k:Nat}:k∈qa g.ds F i ↔ k∈ml g.ds F i:=by
 unfold qa;rw[n8];constructor
 ·rintro⟨-,h⟩;simpa using h
 ·intro h;exact⟨by simpa using S9 bd i k h,i9⟩
def ao9(bd:wZ g){i k:Nat}:mR (qa g.ds F) i k ↔ mR (ml g.ds F) i k:=
 ⟨mR.congr λ_ _ h=>(acy bd).1 h,mR.congr λ_ _ h=>(acy bd).2 h⟩
def acz{ds:List a4}{i k:Nat}(h:k∈qa ds F i):k<ds.length:=by unfold qa at h;simpa using(n8.1 h).1
def apa(ds:List a4)(F:List a0)(i:Nat):(qa ds F i).Nodup:=List.Nodup.sublist zz Fl
def ue.start{ds:List a4}(i:Nat):ue (qa ds F) ds.length 0 (qa ds F i) (qa ds F i):=
 ⟨apa ds F i,λx ae=>acz ae,λ_ h=>h,λ_ h=>.inl h,λj x ai=>absurd ai (mO _),dh _⟩
def Dc(ds:List a4)(F:List a0):List Nat:=(List.range ds.length).filter λi=>(FE (qa ds F) (ds.length+1) 0 (qa ds F i)).contains i
open Classical in
def apb(bd:wZ g)(F:List a0):Dc g.ds F=rY g.ds F:=by
 unfold Dc rY;refine Gm λi _=>?_;have aa:=acx (λx y aF=>acz aF) (g.ds.length+1) 0 _ (ue.start (ds:=g.ds) (F:=F) i) Z;have ab:=(aa.done i).trans (ao9 bd);cases ar:(FE (qa g.ds F) (g.ds.length+1) 0 (qa g.ds F i)).contains i with
 |true=>exact(hM (ab.1 (by simpa using ar))).symm| false=>refine(fb λh=>?_).symm;have:=ab.2 h;rw[<-List.contains_iff_mem,ar]at this;cases this
def vC:List Bool->Nat
 |[]=>0| b::r=>bif b then vC r+1 else vC r
open Classical in
noncomputable def MJ(ds:List a4):List a0:=if h:∃ F,iw ds F then h.choose else []
def Tb{ds:List a4}(h:iw ds F):MJ ds=F:=by have ae:∃ F,iw ds F:=⟨F,h⟩;unfold MJ;rw[dif_pos ae];exact ae.choose_spec.unique h
def py(aB:List Int)(g:cR)(r:Int×Int):Prop:=(ea aB g≠0/\r=(0,ea aB g))\/(ea aB g=0/\∃ F,iw g.ds F/\r=if 0<(rY g.ds F).length then((((rY g.ds F).headD 0:Nat):Int),42)else if 0<(qb g.ds F).length then((((qb g.ds F).headD 0:Nat):Int),43)else(0,0))
def py.eq{l m:Int×Int}(h:py aB g l)(bu:py aB g m):l=m:=by
 rcases h with⟨a,rfl⟩ | ⟨a,F,d,rfl⟩<;>rcases bu with⟨bT,rfl⟩ | ⟨bT,df,d',rfl⟩
 ·rfl
 ·exact absurd bT a
 ·exact absurd a bT
 ·rw[d.unique d']
def apc(bm:fr I aB)(az:g.ok I)(iv:∀ d∈g.ds,vp d.t):Spec Tryz.prog 110 [g.val] I [] λv I' M'=>(∀ b o,I b=some o->I' b=some o)/\M'=[] /\ ∃ r:Int×Int,v=.tuple #[.int .i64 r.1,.int .i64 r.2]/\py aB g r:=
 Spec.jy (aoU bm az iv Ta) λv I' M' h=>by
  obtain⟨aa,ab,r,al,bB⟩:=h;refine⟨aa,ab,r,al,?_⟩;rcases bB with bB | ⟨hm,F,c,d⟩;·exact .inl bB
  ·have bd:=Lo az.n hm;have lT:=Ta hm;have ib:=az.n;refine .inr ⟨hm,F,c,?_⟩;rw[d,I0,bK am,ao8 bd Z,ao7 az bd Z]
def acA(bm:fr I aB)(az:g.ok I)(iv:∀ d∈g.ds,vp d.t):Spec Tryz.prog 39 [g.val] I [] λv I' M'=>(∀ b o,I b=some o->I' b=some o)/\M'=[] /\
  ∃ r:Int×Int,v=.int .i64 r.2/\py aB g r:=by
 refine bR [] aT Tryz.func39 rfl rfl rfl ?_;intro B ax;refine a9.mk [] [] _ (.refl _) (apc bm az iv) ?_;rintro v I1 N -⟨di,rfl,r,rfl,h⟩;exact⟨_,_,.refl,di,rfl,r,rfl,h⟩
section
end
structure rZ where
 k:Int
 b0:Int
 s1:Int
 s2:Int
 cg:Int
 t:List UInt8
 lo:Int
 hi:Int
 ao:List Int
def rZ.bO(c:rZ)(a:Option Addr)(n k:Nat):ak:=⟨c.k,c.b0,c.s1,c.s2,c.cg,⟨c.t.toArray⟩,c.lo,c.hi,a,n,k,c.ao⟩
inductive yT:List rZ->List ak->Prop
 |nil:yT [] []| cons {c cs ns} (a:Option Addr) (n k:Nat) (t:yT cs ns):yT (c::cs) (c.bO a n k::ns)
structure nw where
 ns:List rZ
 bp:Int
structure FF(c:nw)(t:bf):Prop where
 ns:yT c.ns t.ns
 bp:t.bp=c.bp
structure kt where
 name:List UInt8
 t:nw
inductive qc:List kt->List a4->Prop
 |nil:qc [] []| cons {c cs ds} {t:bf} (h:FF c.t t) (k:qc cs ds):qc (c::cs) (⟨⟨c.name.toArray⟩,t⟩::ds)
def acB:Int->Bool
 | .ofNat k=>Nat.ble k 9223372036854775807| .negSucc k=>Nat.ble k 9223372036854775807
def acC:Int->Bool
 | .ofNat k=>Nat.ble k 18446744073709551615| .negSucc _=>false
def okB:Int->Bool
 | .ofNat k=>Nat.ble k 255| .negSucc _=>false
def apd(h:acB x=true):hy x:=by
 cases x with
 |ofNat k=>have:=bJ h;exact⟨by simp only[B0];omega,by simp only[B0];omega⟩| negSucc k=>have:=bJ h;exact⟨Z,Z⟩
def ape(h:acC x=true):eC x:=by
 cases x with
 |ofNat k=>have:=bJ h;exact⟨am,d7⟩| negSucc k=>cases h
def apf(h:okB x=true):0<=x/\x<256:=by
 cases x with
 |ofNat k=>have:=bJ h;exact⟨am,d7⟩| negSucc k=>cases h
noncomputable def Tc:av->Option Int
 | .i .u8 n=>cc (okB n) (some n) none| _=>none
noncomputable def FG:av->Option Int
 | .i .u64 n=>cc (acC n) (some n) none| _=>none
noncomputable def FH:av->Option Int
 | .i .i64 n=>cc (acB n) (some n) none| _=>none
noncomputable def MK:av->Option (List UInt8)
 | .s l=>cc (Nat.ble l.length 140737488355328) (some l) none| _=>none
section
variable{D:bU}{v:av}{u:Value}
def apg{n:Int}(h:Tc v=some n)(an:aY D v u):u=.int .u8 n/\0<=n/\n<256:=by
 unfold Tc at h;split at h
 ·obtain⟨aa,ab⟩:=f' h;cases ab;simp only[aY]at an;exact⟨an,apf aa⟩
 ·cases h
def ML{n:Int}(h:FG v=some n)(an:aY D v u):u=.int .u64 n/\eC n:=by
 unfold FG at h;split at h
 ·obtain⟨aa,ab⟩:=f' h;cases ab;simp only[aY]at an;exact⟨an,ape aa⟩
 ·cases h
def MM{n:Int}(h:FH v=some n)(an:aY D v u):u=.int .i64 n/\hy n:=by
 unfold FH at h;split at h
 ·obtain⟨aa,ab⟩:=f' h;cases ab;simp only[aY]at an;exact⟨an,apd aa⟩
 ·cases h
def acD{l:List UInt8}(h:MK v=some l)(an:aY D v u):u=.string ⟨l.toArray⟩/\(⟨l.toArray⟩:ByteArray).size<=140737488355328:=by
 unfold MK at h;split at h
 ·obtain⟨aa,ab⟩:=f' h;cases ab;simp only[aY]at an;exact⟨an,bJ aa⟩
 ·cases h
end
noncomputable def I4{R:Type}(G:GT)(m:bk fD)(x:av)(size b:Nat)(K:List av->Option R):Option R:=match x with
 | .sn=>K []| .so=>K []| .sl id off n c=>cc (Nat.ble n c) (cc (Nat.ble (Nat.mul n b) 140737488355328) (tX G m (.p id off) (Nat.mul n size) K) none) none| .sx id off e n=>cc (Nat.ble (Nat.mul n b) 140737488355328) (tX G m (.p id off) (Nat.mul n size) K) none| _=>none
noncomputable def ints:List av->Option (List Int)
 |[]=>some []| v::l=>bw (FH v) none λn=>bw (ints l) none λr=>some (n::r)
noncomputable def MN(G:GT)(m:bk fD):List av->Option (List rZ)
 |[]=>some []
 |a::b::c::d::e::f::g::h::x::l=>bw (Tc a) none λa=>bw (FG b) none λb=>bw (FG c) none λc=>bw (FG d) none λd=>bw (FG e) none λe=>bw (MK f) none λf=>bw (FH g) none λg=>bw (FH h) none λh=>
  bw (I4 G m x 1 8 ints) none λks=>bw (MN G m l) none λns=>some (⟨a,b,c,d,e,f,g,h,ks⟩::ns)
 |_=>none
noncomputable def MO(G:GT)(m:bk fD)(x r:av):Option nw:=bw (I4 G m x 9 96 (MN G m)) none λns=>bw (FH r) none λr=>some ⟨ns,r⟩
noncomputable def MP(G:GT)(m:bk fD):List av->Option (List kt)
 |[]=>some []| a::x::r::l=>bw (MK a) none λa=>bw (MO G m x r) none λt=>bw (MP G m l) none λds=>some (⟨a,t⟩::ds)
 |_=>none
noncomputable def Td(G:GT)(m:bk fD):av->Option (List kt)
 | .a [x]=>I4 G m x 3 48 (MP G m)| _=>none
section
variable{Y:gX}{D:bU}{m:bx}{I J:aI}{M:List aD}
def Te{R:Type}(h:dq Y D m I M)(a6:ud I M J){x:av}(ae:aY D x u){K:List av->Option R}{r:R}(ag:I4 Y.G m.t x size b K=some r) :
  ∃ a n c l vs,u=.slice a n c/\cZ J a n c size b vs/\bQ D l vs/\K l=some r:=by
 unfold I4 at ag;split at ag
 ·simp only[aY]at ae;exact⟨none,0,0,[],[],ae,⟨am,⟨cf _,Z⟩,.inl rfl⟩,by simp[bQ],ag⟩
 ·simp only[aY]at ae;obtain⟨a,c,ae⟩:=ae;exact⟨some a,0,c,[],[],ae,⟨am,⟨dh _,Z⟩,.inl rfl⟩,by simp[bQ],ag⟩
 ·rename_i id off n c;obtain⟨aa,ag⟩:=f' ag;obtain⟨ab,ag⟩:=f' ag;simp only[aY]at ae;obtain⟨a,a8,ae⟩:=ae;obtain⟨ad,l,vs,aN,bc,cy,dX⟩:=w9 h (x:=.p id off) (u:=.pointer (some ⟨a.b,a.o+off,none⟩)) f7 ag;cases aN;obtain⟨bb,cs,T,f,bh,b2,gg⟩:=bc;exact⟨_,n,c,l,vs,ae,⟨gg,⟨bJ aa,bJ ab⟩,.inr ⟨_,rfl,rfl,cs,T,f,a6.aA _ _ bh,b2⟩⟩,cy,dX⟩
 ·rename_i id off e n;obtain⟨ab,ag⟩:=f' ag;simp only[aY]at ae;obtain⟨a,a8,ar,ae⟩:=ae;obtain⟨ad,l,vs,aN,bc,cy,dX⟩:=w9 h (x:=.p id off) (u:=.pointer (some ⟨a.b,a.o+off,none⟩)) f7 ag;cases aN;obtain⟨bb,cs,T,f,bh,b2,gg⟩:=bc;exact⟨_,n,a.c-e,l,vs,ae,⟨gg,⟨Z,bJ ab⟩,.inr ⟨_,rfl,rfl,cs,T,f,a6.aA _ _ bh,b2⟩⟩,cy,dX⟩
 ·cases ag
def acE:∀ {l:List av} {vs:List Value} {ks:List Int},ints l=some ks->bQ D l vs->vs=ks.map (Value.int .i64 ·)/\∀ x∈ks,hy x
 |[],vs,ks,h,an=>by cases h;simp only[bQ]at an;exact⟨an,am⟩
 |v::l,vs,ks,h,an=>by unfold ints at h;obtain⟨n,aa,h⟩:=cB h;obtain⟨r,ab,h⟩:=cB h;cases h;simp only[bQ]at an;obtain⟨x,xs,bb,bh,rfl⟩:=an;obtain⟨rfl,aN⟩:=MM aa bb;obtain⟨rfl,bc⟩:=acE ab bh;exact⟨rfl,λx ae=>(ez.1 ae).elim (λe=>e ▸ aN) (bc x)⟩
def acF(h:dq Y D m I M)(a6:ud I M J):∀ (l:List av) {vs:List Value} {cs:List rZ},MN Y.G m.t l=some cs->bQ D l vs->∃ ns:List ak,vs=ns.flatMap ak.cells/\yT cs ns/\∀ d∈ns,d.ok J
 |[],vs,cs,ag,an=>by cases ag;simp only[bQ]at an;exact⟨[],an,.nil,am⟩
 |a::b::c::d::e::f::g::i::x::l,vs,cs,ag,an=>by
  unfold MN at ag;obtain⟨bT,aa,ag⟩:=cB ag;obtain⟨il,ab,ag⟩:=cB ag;obtain⟨c',al,ag⟩:=cB ag;obtain⟨d',aL,ag⟩:=cB ag;obtain⟨cY,bB,ag⟩:=cB ag;obtain⟨sC,cA,ag⟩:=cB ag;obtain⟨et,eB,ag⟩:=cB ag;obtain⟨gZ,e6,ag⟩:=cB ag;obtain⟨ks,dW,ag⟩:=cB ag;obtain⟨jz,oZ,ag⟩:=cB ag;cases ag;simp only[bQ]at an;obtain⟨_,_,eW,⟨_,_,c8,⟨_,_,hJ,⟨_,_,nQ,⟨_,_,SJ,⟨_,_,aph,⟨_,_,api,⟨_,_,apj,⟨_,_,apk,apl,rfl⟩,rfl⟩,rfl⟩,rfl⟩,rfl⟩,rfl⟩,rfl⟩,rfl⟩,rfl⟩:=an;obtain⟨rfl,aN⟩:=apg aa eW;obtain⟨rfl,bc⟩:=ML ab c8;obtain⟨rfl,cy⟩:=ML al hJ;obtain⟨rfl,dX⟩:=ML aL nQ;obtain⟨rfl,k3⟩:=ML bB SJ;obtain⟨rfl,mg⟩:=acD cA aph;obtain⟨rfl,AH⟩:=MM eB api;obtain⟨rfl,mh⟩:=MM e6 apj;obtain⟨bX,aA,b5,li,axi,rfl,xh,apm,apn⟩:=Te h a6 apk dW;obtain⟨rfl,I5⟩:=acE apn apm;obtain⟨ns,rfl,Tf,apo⟩:=acF h a6 l oZ apl;refine⟨rZ.bO ⟨bT,il,c',d',cY,sC,et,gZ,ks⟩ bX aA b5::ns,rfl,.cons bX aA b5 Tf,λy aF=>?_⟩;rcases ez.1 aF with rfl | aF;·exact⟨aN,bc,cy,dX,k3,iO mg bv,AH,mh,xh,I5⟩
  ·exact apo y aF
def acG(h:dq Y D m I M)(a6:ud I M J){x r:av}{w:Value}{c:nw}(ag:MO Y.G m.t x r=some c)(ae:aY D x u)(hw:aY D r w):∃ t:bf,u=.slice t.a t.n t.c/\w=.int .i64 t.bp/\t.ok J/\FF c t:=by unfold MO at ag;obtain⟨ns,aa,ag⟩:=cB ag;obtain⟨k,ab,ag⟩:=cB ag;cases ag;obtain⟨rfl,aN⟩:=MM ab hw;obtain⟨a,n,c,l,vs,rfl,bc,cy,dX⟩:=Te h a6 ae aa;obtain⟨ds,rfl,k3,mg⟩:=acF h a6 l dX cy;exact⟨⟨ds,a,n,c,k⟩,rfl,rfl,⟨bc,mg,aN⟩,⟨k3,rfl⟩⟩
def acH(h:dq Y D m I M)(a6:ud I M J):∀ (l:List av) {vs:List Value} {cs:List kt},MP Y.G m.t l=some cs->bQ D l vs->∃ ds:List a4,vs=ds.flatMap a4.cells/\qc cs ds/\∀ d∈ds,d.ok J
 |[],vs,cs,ag,an=>by cases ag;simp only[bQ]at an;exact⟨[],an,.nil,am⟩
 |a::x::r::l,vs,cs,ag,an=>by
  unfold MP at ag;obtain⟨bT,aa,ag⟩:=cB ag;obtain⟨be,ab,ag⟩:=cB ag;obtain⟨ds',al,ag⟩:=cB ag;cases ag;simp only[bQ]at an;obtain⟨_,_,eW,⟨_,_,c8,⟨_,_,hJ,nQ,rfl⟩,rfl⟩,rfl⟩:=an;obtain⟨rfl,aN⟩:=acD aa eW;obtain⟨t,rfl,rfl,bc,cy⟩:=acG h a6 ab c8 hJ;obtain⟨ds,rfl,dX,k3⟩:=acH h a6 l al nQ;refine⟨⟨⟨bT.toArray⟩,t⟩::ds,rfl,.cons (c:=⟨bT,be⟩) cy dX,λy aF=>?_⟩;rcases ez.1 aF with rfl | aF;·exact⟨aN,bc⟩
  ·exact k3 y aF
def apq(h:dq Y D m I M)(a6:ud I M J){x:av}{cs:List kt}(ag:Td Y.G m.t x=some cs)(ae:aY D x u):∃ g:cR,u=g.val/\g.ok J/\qc cs g.ds:=by
 unfold Td at ag;split at ag
 ·simp only[aY,bQ]at ae;obtain⟨_,⟨y,_,ae,rfl,rfl⟩,rfl⟩:=ae;obtain⟨a,n,c,l,vs,rfl,bc,cy,dX⟩:=Te h a6 ae ag;obtain⟨ds,rfl,k3,mg⟩:=acH h a6 l dX cy;exact⟨⟨ds,a,n,c⟩,rfl,⟨bc,mg⟩,k3⟩
 ·cases ag
end
noncomputable def FI(f g:Nat)(text:List UInt8):Option (List kt×Int×IntKind×Int):=bw (yz vA (lQ vA f) g [.s text] ⟨.nil,0⟩) none λp=>match p.1 with
 | .t [x,.i .i64 a,.i k e]=>bw (Td IV p.2.t x) none λc=>some (c,a,k,e)
 |_=>none
noncomputable def xn(f g:Nat)(text:List UInt8):Option (nw×Int×IntKind×Int):=bw (yz vA (lQ vA f) g [.s text] ⟨.nil,0⟩) none λp=>match p.1 with
 | .t [.a [x,r],.i .i64 a,.i k e]=>bw (MO IV p.2.t x r) none λc=>some (c,a,k,e)
 |_=>none
def apr(bm:fr I kK){g:Nat}{c:List kt}{a:Int}{k:IntKind}{e:Int}(h:FI f g text=some (c,a,k,e)) :
  Spec Tryz.prog g [.string ⟨text.toArray⟩] I [] λr J k1=>k1=[]/\(∀ b o,I b=some o->J b=some o)/\∃ G:cR,r=.tuple #[G.val,.int .i64 a,.int k e]/\G.ok J/\qc c G.ds:=by
 unfold FI at h;obtain⟨⟨v,m'⟩,aa,h⟩:=cB h;refine Spec.jy (abS bm aa (us:=[.string ⟨text.toArray⟩]) (by simp[bQ,aY])) ?_;rintro r J k1⟨rfl,bo,I',M',bE,an,hm,a6⟩;refine⟨rfl,bo,?_⟩;simp only at h;split at h
 ·obtain⟨c',ab,h⟩:=cB h;cases h;simp only[aY,bQ]at an;obtain⟨_,⟨u,_,hu,⟨_,_,rfl,⟨_,_,rfl,rfl,rfl⟩,rfl⟩,rfl⟩,rfl⟩:=an;obtain⟨G,rfl,bb,bh⟩:=apq hm a6 ab hu;exact⟨G,rfl,bb,bh⟩
 ·cases h
def acI(bm:fr I kK){g:Nat}{c:nw}{a:Int}{k:IntKind}{e:Int}(h:xn f g text=some (c,a,k,e)) :
  Spec Tryz.prog g [.string ⟨text.toArray⟩] I [] λr J k1=>k1=[]/\(∀ b o,I b=some o->J b=some o)/\∃ t:bf,r=.tuple #[t.val,.int .i64 a,.int k e]/\t.ok J/\FF c t:=by
 unfold xn at h;obtain⟨⟨v,m'⟩,aa,h⟩:=cB h;refine Spec.jy (abS bm aa (us:=[.string ⟨text.toArray⟩]) (by simp[bQ,aY])) ?_;rintro r J k1⟨rfl,bo,I',M',bE,an,hm,a6⟩;refine⟨rfl,bo,?_⟩;simp only at h;split at h
 ·obtain⟨c',ab,h⟩:=cB h;cases h;simp only[aY,bQ]at an;obtain⟨_,⟨u,_,⟨_,⟨_,_,ae,⟨_,_,ag,rfl,rfl⟩,rfl⟩,rfl⟩,⟨_,_,rfl,⟨_,_,rfl,rfl,rfl⟩,rfl⟩,rfl⟩,rfl⟩:=an;obtain⟨t,rfl,rfl,bb,bh⟩:=acG hm a6 ab ae ag;exact⟨t,rfl,bb,bh⟩
 ·cases h
def rZ.pl(c:rZ):ak:=c.bO none 0 0
def nw.jO(c:nw):bf:=⟨c.ns.map rZ.pl,none,c.ns.length,0,c.bp⟩
def kt.I6(c:kt):a4:=⟨⟨c.name.toArray⟩,c.t.jO⟩
def qY(cs:List kt):cR:=⟨cs.map kt.I6,none,cs.length,0⟩
def yT.aW{cs:List rZ}{ns:List ak}(h:yT cs ns):ns.map ak.aW=cs.map rZ.pl:=by
 induction h with
 |nil=>rfl| cons a n k t aX=>rw[ch,ch,aX];rfl
def yT.len{cs:List rZ}{ns:List ak}(h:yT cs ns):ns.length=cs.length:=by
 induction h with
 |nil=>rfl| cons a n k t aX=>simp[aX]
def FF.aW{c:nw}(h:FF c t)(au:t.ok I):t.aW=c.jO:=by unfold bf.aW nw.jO;rw[h.ns.aW,h.bp,<-au.n,h.ns.len]
def qc.aW{cs:List kt}{ds:List a4}(h:qc cs ds)(aj:∀ d∈ds,d.ok I):ds.map a4.aW=cs.map kt.I6:=by
 induction h with
 |nil=>rfl| cons h k aX=>rw[ch,ch,aX λd fW=>aj d (.tail _ fW)];congr 1;unfold a4.aW kt.I6;rw[h.aW (aj _ (.head _)).t]
def qc.len{cs:List kt}{ds:List a4}(h:qc cs ds):ds.length=cs.length:=by
 induction h with
 |nil=>rfl| cons h k aX=>simp[aX]
def Tg{cs:List kt}(h:qc cs g.ds)(az:g.ok I):g.aW=qY cs:=by unfold cR.aW qY;rw[h.aW az.ds,<-az.n,h.len]
def aps(c:nw):Bool:=c.ns.all λn=>decide (n.ao.length<=1000)
def apt{c:nw}(h:FF c t)(au:t.ok I)(af:aps c=true):vp t:=λn aE=>by
 have aa:=(au.ns n aE).aA;have ab:n.aW∈c.ns.map rZ.pl:=by rw[<-h.ns.aW];exact c6.2 ⟨n,aE,rfl⟩
 obtain⟨x,ae,e⟩:=c6.1 ab;have al:=cv (fV.1 af x ae);have aL:x.ao=n.ao:=congrArg ak.ao e;rw[aL]at al;omega
def apu{cs:List kt}{ds:List a4}(h:qc cs ds)(aj:∀ d∈ds,d.ok I)(af:(cs.all λd=>d.t.ns.all λn=>decide (n.ao.length<=1000))=true):∀ d∈ds,vp d.t:=by
 induction h with
 |nil=>intro d aj;cases aj
 |cons h k aX=>
  simp only[xD,cH]at af;intro d hm;rcases ez.1 hm with rfl | hm;·exact apt h (aj _ (.head _)).t af.1
  ·exact aX (λd fW=>aj d (.tail _ fW)) (by simpa using af.2) d hm
def Th(ds:List a4)(F:List a0)(i:Nat):ml (ds.map a4.aW) F i=ml ds F i:=by
 unfold ml;rw[jJ,EJ];cases ds[i]? with
 |none=>rfl| some d=>show(gF (bL ds) F (d.t.ns.map ak.aW) d.t.bp).2=_;rw[ald]
def apv(ds:List a4)(F:List a0)(i:Nat):xm (ds.map a4.aW) F i=xm ds F i:=by
 unfold xm;rw[jJ,EJ];cases ds[i]? with
 |none=>rfl| some d=>show(px (bL ds) F (d.t.ns.map ak.aW) d.t.bp).2=_;rw[ao2]
def apw(ds:List a4)(F:List a0):qa (ds.map a4.aW) F=qa ds F:=by funext i;unfold qa;rw[bA,Th]
def Ti(ds:List a4)(F:List a0):qb (ds.map a4.aW) F=qb ds F:=by unfold qb;rw[bA];exact Gm λi _=>apv ds F i
def apx(ds:List a4)(F:List a0):Dc (ds.map a4.aW) F=Dc ds F:=by unfold Dc;rw[bA,apw]
def acJ{ds:List a4}{l:List a0}(h:iw (ds.map a4.aW) l):iw ds l:=by
 refine⟨by rw[h.len,bA],λi hi=>?_,λm hm ar=>?_⟩
 ·have:=h.fix i i7;rwa [EJ,gl,Ls]at this
 ·refine h.least m (by rw[hm,bA]) λi hi=>?_;rw[EJ,gl,Ls];exact ar i i7
def Tj(ds:List a4)(F:List a0):Int×Int:=bif decide (0<(Dc ds F).length)then((((Dc ds F).headD 0:Nat):Int),42)else bif decide (0<(qb ds F).length)then((((qb ds F).headD 0:Nat):Int),43)else(0,0)
structure I7(cs:List kt)(F:List a0):Prop where
 may:ea kK (qY cs)=0
 I8:iw (qY cs).ds F
 Qf:(cs.all λd=>d.t.ns.all λn=>decide (n.ao.length<=1000))=true
def I7.of{cs:List kt}(c7:I7 cs F)(az:g.ok I)(aZ:qc cs g.ds):ea kK g=0/\iw g.ds F/\(∀ d∈g.ds,vp d.t):=by
 have dI:=Tg aZ az;have e5:g.ds.map a4.aW=(qY cs).ds:=congrArg cR.ds dI;have hm:ea kK g=0:=by rw[<-CA,dI];exact c7.may
 refine⟨hm,?_,apu aZ az.ds c7.Qf⟩;have:=c7.I8;rw[<-e5]at this;exact acJ this
def apy{cs:List kt}(c7:I7 cs F)(az:g.ok I)(aZ:qc cs g.ds)(h:py kK g r):r=Tj (qY cs).ds F:=by
 obtain⟨hm,bC,-⟩:=c7.of az aZ;have e5:g.ds.map a4.aW=(qY cs).ds:=congrArg cR.ds (Tg aZ az);have bd:=Lo az.n hm;rcases h with⟨a,-⟩ | ⟨-,df,mY,rfl⟩
 ·exact absurd hm a
 ·obtain rfl:=bC.unique mY;rw[<-e5,Tj,apx,Ti,apb bd];by_cases aa:0<(rY g.ds F).length
  ·rw[bY aa,hM aa,cD]
  ·rw[bK aa,fb aa,cw];by_cases ab:0<(qb g.ds F).length
   ·rw[bY ab,hM ab,cD]
   ·rw[bK ab,fb ab,cw]
def I9(ds:List a4):Nat->List a0->List a0
 |0,L=>L| k+1,L=>I9 ds k (ds.map (iZ (bL ds) L))
def acK{ds:List a4}:∀ (k:Nat) {L:List a0},ph ds L->ds.map (iZ (bL ds) (I9 ds k L))=I9 ds k L->iw ds (I9 ds k L)
 |0,L,aK,h=>by refine⟨aK.len,λi hi=>?_,aK.least⟩;have:=MG (f:=iZ (bL ds) L) hi;have aa:ds.map (iZ (bL ds) L)=L:=h;rw[aa]at this;exact this
 |k+1,L,aK,h=>acK k aK.all.1 h
def MQ(cs:List kt)(k:Nat):List a0:=I9 (qY cs).ds k (List.replicate (qY cs).ds.length cn)
def Ja(cs:List kt)(F:List a0)(k:Nat):Bool:=decide (ea kK (qY cs)=0)&&(decide (MQ cs k=F)&&(decide ((qY cs).ds.map (iZ (bL (qY cs).ds) F)=F)&&cs.all λd=>d.t.ns.all λn=>decide (n.ao.length<=1000)))
def apz{cs:List kt}{k:Nat}(h:Ja cs F k=true):I7 cs F:=by simp only[Ja,cH,gN]at h;obtain⟨aa,ab,al,aL⟩:=h;refine⟨aa,?_,AC⟩;have:=acK k (ph.start (qY cs).ds);unfold MQ at ab;rw[ab]at this;exact this al
section
end
section
end
def sZ.fit(h:sZ t):Fit t 1000000:=by have aE:=h.n;exact⟨λbO bW=>by have:=(h.ns bO bW).aA;omega,Z,Z⟩
def py.get(hm:ea aB g=0)(h:py aB g r):r.2=0 ↔ (rY g.ds (MJ g.ds)).length=0/\(qb g.ds (MJ g.ds)).length=0:=by
 rcases h with⟨a,-⟩ | ⟨-,F,c,rfl⟩
 ·exact absurd hm a
 ·rw[Tb c];by_cases aa:0<(rY g.ds F).length
  ·rw[bY aa];simp only;omega
  ·rw[bK aa];by_cases ab:0<(qb g.ds F).length
   ·rw[bY ab];simp only;omega
   ·rw[bK ab];exact⟨λ_=>⟨Z,Z⟩,λ_=>rfl⟩
def aO.iI{J:aI}(bC:ud I M J)(h:os.ok size xs)(bd:∀ x∈os.aq e,x∈M)(ah:os.n*b<=140737488355328):cZ J (os.a.map λg=>⟨g,0,none⟩) os.n os.c size b xs:=by
 obtain⟨a,n,c,aR⟩:=os;cases a with
 |none=>obtain⟨aa,ab⟩:=h.nil rfl;exact⟨h.len,⟨at9,ah⟩,.inl aa⟩
 |some g=>obtain⟨aa,ab,al,aL⟩:=h.cap g rfl;exact⟨h.len,⟨ab,ah⟩,.inr ⟨⟨g,0,none⟩,rfl,rfl,aR.toArray,e,(0,0),bC.aA _ _ (.inr ⟨⟨g,.cells aR.toArray e (0,0)⟩,bd _ (.head _),rfl,rfl⟩),AC⟩⟩
def cZ.vD{c:Nat}(h:cZ I a n c size b vs)(M:List aD)(ax:0<n):∃ ad,a=some ad/\cG I M ad (n*size) vs:=by
 rcases h.rd with aa | ⟨ad,aa,ab,cs,T,ap,al,aL⟩
 ·omega
 ·exact⟨ad,aa,ab,cs,T,ap,.inl al,aL,h.len⟩
def Dd(l:List Int):fG (l.map (.int .i64 ·))=true:=fV.2 λv an=>by obtain⟨k,_,rfl⟩:=c6.1 an;rfl
def Jb{f:α->List Value}(h:∀ x,fG (f x)=true)(l:List α):fG (l.flatMap f)=true:=fV.2 λv an=>by obtain⟨x,_,ae⟩:=hB.1 an;exact fV.1 (h x) v ae
def ak.one(d:ak):fG d.cells=true:=rfl
def a4.one(d:a4):fG d.cells=true:=rfl
def apA{c:Nat}(h:cZ I a n c 1 8 vs)(aa:fG vs=true):Spec Tryz.prog 279 [.slice a n c] I M0 λv I' M'=>I'=I/\∃ os:aO,os.n=n/\os.ok 1 vs/\v=os.val/\M'=os.aq 3++M0:=by
 refine bR [] aT Tryz.func279 rfl rfl rfl ?_;intro B ax;have g8:=h.cap;refine fm.Sa aT rfl rfl ?_;refine aS.mk (λar=>?_) (λar=>?_)
 ·have aE:n=0:=by
   rcases h.rd with ab | ⟨ad,ab,_⟩;·exact ab
   ·rw[ab]at ar;cases ar
  subst aE;have al:vs=[]:=iB (by rw[h.len,zE]);subst al;exact⟨_,_,.refl,rfl,gV,rfl,jt 1,rfl,rfl⟩
 refine bN.mk λb ah uO=>?_;refine bz.w0 aT rfl am (e:=3) rfl rfl rfl ⟨some b,0,0,[]⟩ (xs:=[]) ⟨rfl,(λh=>ci),(λg h=>⟨rfl,cf _,dh _,rfl⟩)⟩ rfl (sa:=a) (m:=n) (c':=c) (cb:=vs) rfl h.len (h.vD _) aa [] M0 rfl ce (by show(0+n)*8<=_;omega) ?_;intro os aE bG bl;rw[hW]at bl;exact⟨_,_,.refl,rfl,os,aE.trans (dg n),bl,rfl,rfl⟩
def apB{c:Nat}(h:cZ I a n c 1 8 vs)(aa:fG vs=true):Spec Tryz.prog 279 [.slice a n c] I M0 λv I' M'=>(∀ b o,I b=some o->I' b=some o)/\M'=M0/\∃ bT c',v=.slice bT n c'/\cZ I' bT n c' 1 8 vs:=by refine Spec.jy (Spec.frame (Spec.iI (apA (M0:=[]) h aa))) ?_;rintro v J M⟨M',rfl,-,a6,rfl,-,I',M1,⟨rfl,os,rfl,bV,rfl,rfl⟩,bC⟩;have g8:=h.cap;exact⟨a6,rfl,_,_,rfl,aO.iI bC bV (λz bg=>iy _ bg) g8.2⟩
def apC{c:Nat}(h:cZ I a n c 9 96 vs)(aa:fG vs=true):Spec Tryz.prog 287 [.slice a n c] I M0 λv I' M'=>I'=I/\∃ os:aO,os.n=n/\os.ok 9 vs/\v=os.val/\M'=os.aq 88++M0:=by
 refine bR [] aT Tryz.func287 rfl rfl rfl ?_;intro B ax;have g8:=h.cap;refine fm.Sa aT rfl rfl ?_;refine aS.mk (λar=>?_) (λar=>?_)
 ·have aE:n=0:=by
   rcases h.rd with ab | ⟨ad,ab,_⟩;·exact ab
   ·rw[ab]at ar;cases ar
  subst aE;have al:vs=[]:=iB (by rw[h.len,zE]);subst al;exact⟨_,_,.refl,rfl,gV,rfl,jt 9,rfl,rfl⟩
 refine bN.mk λb ah uO=>?_;refine bz.w0 aT rfl am (e:=88) rfl rfl rfl ⟨some b,0,0,[]⟩ (xs:=[]) ⟨rfl,(λh=>ci),(λg h=>⟨rfl,cf _,dh _,rfl⟩)⟩ rfl (sa:=a) (m:=n) (c':=c) (cb:=vs) rfl h.len (h.vD _) aa [] M0 rfl ce (by show(0+n)*96<=_;omega) ?_;intro os aE bG bl;rw[hW]at bl;exact⟨_,_,.refl,rfl,os,aE.trans (dg n),bl,rfl,rfl⟩
def apD{c:Nat}(h:cZ I a n c 3 48 vs)(aa:fG vs=true):Spec Tryz.prog 286 [.slice a n c] I M0 λv I' M'=>I'=I/\∃ os:aO,os.n=n/\os.ok 3 vs/\v=os.val/\M'=os.aq 32++M0:=by
 refine bR [] aT Tryz.func286 rfl rfl rfl ?_;intro B ax;have g8:=h.cap;refine fm.Sa aT rfl rfl ?_;refine aS.mk (λar=>?_) (λar=>?_)
 ·have aE:n=0:=by
   rcases h.rd with ab | ⟨ad,ab,_⟩;·exact ab
   ·rw[ab]at ar;cases ar
  subst aE;have al:vs=[]:=iB (by rw[h.len,zE]);subst al;exact⟨_,_,.refl,rfl,gV,rfl,jt 3,rfl,rfl⟩
 refine bN.mk λb ah uO=>?_;refine bz.w0 aT rfl am (e:=32) rfl rfl rfl ⟨some b,0,0,[]⟩ (xs:=[]) ⟨rfl,(λh=>ci),(λg h=>⟨rfl,cf _,dh _,rfl⟩)⟩ rfl (sa:=a) (m:=n) (c':=c) (cb:=vs) rfl h.len (h.vD _) aa [] M0 rfl ce (by show(0+n)*48<=_;omega) ?_;intro os aE bG bl;rw[hW]at bl;exact⟨_,_,.refl,rfl,os,aE.trans (dg n),bl,rfl,rfl⟩
structure apE(I:aI)(t:bf)(os0:aO)(x:Nat×aO×List ak×aI):Prop where
 i:x.1<=t.n
 ok:x.2.1.ok 9 (x.2.2.1.flatMap ak.cells)
 aW:x.2.2.1.map ak.aW=t.ns.map ak.aW
 ns:∀ d∈x.2.2.1,d.ok x.2.2.2
 le:∀ b o,I b=some o->x.2.2.2 b=some o
 a:x.2.1.a=os0.a
 v:x.2.1.val=os0.val
def acL{i:Nat}(hi:i<L.length){d:ak}(h:d.aW=L[i].aW):(L.set i d).map ak.aW=L.map ak.aW:=by
 rw[qx,h];refine zB λj=>?_;rw[iq];split
 ·rename_i e;subst e;rw[bA,bY hi,jJ,du hi];rfl
 ·rfl
def xo{br:aO}(h:os.val=br.val):os.n=br.n/\os.c=br.c:=by
 unfold aO.val at h;injection h with aa ab al
 exact⟨ab,al⟩
def apF(au:t.ok I):Spec Tryz.prog 218 [t.val] I [] λv I' M'=>(∀ b o,I b=some o->I' b=some o)/\∃ (os:aO) (L:List ak),v=.agg #[os.val,.int .i64 t.bp]/\os.n=t.n/\os.ok 9 (L.flatMap ak.cells)/\M'=os.aq 88/\L.map ak.aW=t.ns.map ak.aW/\∀ d∈L,d.ok I':=by
 refine bR [] aT Tryz.func218 rfl rfl rfl ?_;intro B ax;have gu:=au.n;have g8:=au.a'.cap;refine a9.whole _ (apC au.a' (Jb ak.one _)) ?_;rintro v J N -⟨rfl,os0,apG,vE,rfl,hp⟩;subst N;refine c2.inv (ι:=Nat×aO×List ak×aI) (λx=>{ bn:=[(1,.ref 1 0),(2,.ref 2 0),(10,.val os0.val),(11,.val (.int .i64 os0.n)),(12,.val (.int .i64 x.1))],cl:=[(1,[os0.val,.int .i64 t.bp]),(2,[.slice none 0 0,.int .i64 0])],cm:=x.2.2.2,cK:=x.2.1.aq 88++[] }) (λx=>apE J t os0 x) (λx=>t.n-x.1) ?_ ?_
 ·exact⟨(0,os0,t.ns,J),⟨dh _,vE,rfl,au.ns,λ_ _ h=>h,rfl,rfl⟩,.refl,fh,.cons rfl (.cons rfl (.nil))⟩
 rintro⟨i,os,L,K⟩⟨hi,bV,dI,kT,bo,mi,jP⟩;simp only at hi bV dI kT bo mi jP;have FJ:L.length=t.ns.length:=by simpa using congrArg List.length dI
 obtain⟨gK,Tk⟩:=xo jP;refine aS.mk (λh=>?_) (λh=>?_)
 rotate_left
 ·exact⟨_,_,.refl,bo,os,L,by rw[jP];rfl,Z,bV,Do,dI,kT⟩
 have aV:i<t.n:=by have:(i:Int)<(os0.n:Int):=cv h;omega
 have lP:i<L.length:=by omega
 obtain⟨ad,bt,bj⟩:=aO.ok.row (I:=K) (M:=os.aq 88++[]) (e:=88) ak.cq bv bV (λz bg=>iy _ bg) lP;have h0:=kT _ (bD lP);have s0:=bt;rw[mi]at s0;refine bi.mk ad i s0 rfl Z ?_;refine aJ.mk _ bj ?_;refine cN.draw aT rfl rfl rfl ?_;refine er.whole _ (apB h0.a' (Dd _)) (λv I' M' h x ae=>ax') ?_;rintro v hE N -⟨uf,hp,bT,c',rfl,dM⟩;subst N;refine bi.mk ad i s0 rfl Z ?_;have e3:({ L[i]with bX:=bT,b5:=c' }:ak).ok hE:={ h0.mono uf with a':=dM };have yU:({ L[i]with bX:=bT,b5:=c' }:ak).aW=L[i].aW:=rfl;have gy:=acL lP yU;refine aO.CR (e:=88) ak.cells 9 ak.cq bV lP 8 (vs:=[.slice bT L[i].aA c']) (bJ rfl) rfl { L[i]with bX:=bT,b5:=c' } rfl [] [] am bt ?_;intro hD jg mm kQ h9;refine a3.mk _ (cC (i:=i) Z) ?_;refine⟨(i+1,hD,L.set i { L[i]with bX:=bT,b5:=c' },hE),⟨⟨aV,h9,gy.trans dI,λd aj=>?_,λb o h=>uf _ _ (bo _ _ h),mm.trans mi,jg.trans jP⟩,ce⟩,.refl,fh,.cons rfl (.cons rfl (.nil))⟩;rcases sD aj with aj | rfl
 ·exact(kT _ aj).mono uf
 ·exact e3
def acM(au:t.ok I):Spec Tryz.prog 218 [t.val] I M0 λv I' M'=>(∀ b o,I b=some o->I' b=some o)/\M'=M0/\∃ be:bf,v=be.val/\be.ok I'/\be.aW=t.aW:=by refine Spec.jy (Spec.frame (Spec.iI (apF au))) ?_;rintro v J M⟨M',rfl,-,a6,rfl,-,I',M1,⟨aa,os,L,rfl,aE,bV,rfl,dI,kT⟩,bC⟩;have g8:=au.a'.cap;refine⟨a6,rfl,⟨L,os.a.map λg=>⟨g,0,none⟩,os.n,os.c,t.bp⟩,rfl,⟨aO.iI bC bV (λ_ h=>h) Z,λd aj=>(kT d aj).mono bC.le,au.bp⟩,?_⟩;unfold bf.aW;rw[dI,aE]
structure apH(I:aI)(g:cR)(os0:aO)(x:Nat×aO×List a4×aI):Prop where
 i:x.1<=g.n
 ok:x.2.1.ok 3 (x.2.2.1.flatMap a4.cells)
 aW:x.2.2.1.map a4.aW=g.ds.map a4.aW
 ds:∀ d∈x.2.2.1,d.ok x.2.2.2
 le:∀ b o,I b=some o->x.2.2.2 b=some o
 a:x.2.1.a=os0.a
 v:x.2.1.val=os0.val
def apI{L:List a4}{i:Nat}(hi:i<L.length){d:a4}(h:d.aW=L[i].aW):(L.set i d).map a4.aW=L.map a4.aW:=by
 rw[qx,h];refine zB λj=>?_;rw[iq];split
 ·rename_i e;subst e;rw[bA,bY hi,jJ,du hi];rfl
 ·rfl
def apJ(az:g.ok I):Spec Tryz.prog 217 [g.val] I [] λv I' M'=>(∀ b o,I b=some o->I' b=some o)/\∃ (os:aO) (L:List a4),v=.agg #[os.val]/\os.n=g.n/\os.ok 3 (L.flatMap a4.cells)/\M'=os.aq 32/\L.map a4.aW=g.ds.map a4.aW/\∀ d∈L,d.ok I':=by
 refine bR [] aT Tryz.func217 rfl rfl rfl ?_;intro B ax;have ib:=az.n;have g8:=az.a'.cap;refine a9.whole _ (apD az.a' (Jb a4.one _)) ?_;rintro v J N -⟨rfl,os0,apG,vE,rfl,hp⟩;subst N;refine c2.inv (ι:=Nat×aO×List a4×aI) (λx=>{ bn:=[(1,.ref 1 0),(2,.ref 2 0),(10,.val os0.val),(11,.val (.int .i64 os0.n)),(12,.val (.int .i64 x.1))],cl:=[(1,[os0.val]),(2,[.slice none 0 0])],cm:=x.2.2.2,cK:=x.2.1.aq 32++[] }) (λx=>apH J g os0 x) (λx=>g.n-x.1) ?_ ?_
 ·exact⟨(0,os0,g.ds,J),⟨dh _,vE,rfl,az.ds,λ_ _ h=>h,rfl,rfl⟩,.refl,fh,.cons rfl (.cons rfl (.nil))⟩
 rintro⟨i,os,L,K⟩⟨hi,bV,dI,e5,bo,mi,jP⟩;simp only at hi bV dI e5 bo mi jP;have FJ:L.length=g.ds.length:=by simpa using congrArg List.length dI
 obtain⟨gK,Tk⟩:=xo jP;refine aS.mk (λh=>?_) (λh=>?_)
 rotate_left
 ·exact⟨_,_,.refl,bo,os,L,by rw[jP];rfl,Z,bV,Do,dI,e5⟩
 have aV:i<g.n:=by have:(i:Int)<(os0.n:Int):=cv h;omega
 have lP:i<L.length:=by omega
 obtain⟨ad,bt,bj⟩:=aO.ok.row (I:=K) (M:=os.aq 32++[]) (e:=32) a4.cq bv bV (λz bg=>iy _ bg) lP;have h0:=e5 _ (bD lP);have s0:=bt;rw[mi]at s0;refine bi.mk ad i s0 rfl Z ?_;refine aJ.mk _ bj ?_;refine cN.draw aT rfl rfl rfl ?_;refine er.whole _ (acM h0.t) (λv I' M' h x ae=>ax') ?_;rintro v hE N -⟨uf,hp,be,rfl,hR,Tl⟩;subst N;refine bi.mk ad i s0 rfl Z ?_;have e3:(⟨L[i].name,be⟩:a4).ok hE:=⟨h0.name,hR⟩;have yU:(⟨L[i].name,be⟩:a4).aW=L[i].aW:=by unfold a4.aW;rw[Tl]
 have gy:=apI lP yU;refine aO.CR (e:=32) a4.cells 3 a4.cq bV lP 1 (vs:=[.slice be.a be.n be.c,.int .i64 be.bp]) (bJ rfl) rfl ⟨L[i].name,be⟩ rfl [] [] am bt ?_;intro hD jg mm kQ h9;refine a3.mk _ (cC (i:=i) Z) ?_;refine⟨(i+1,hD,L.set i ⟨L[i].name,be⟩,hE),⟨⟨aV,h9,gy.trans dI,λd aj=>?_,λb o h=>uf _ _ (bo _ _ h),mm.trans mi,jg.trans jP⟩,ce⟩,.refl,fh,.cons rfl (.cons rfl (.nil))⟩;rcases sD aj with aj | rfl
 ·exact(e5 _ aj).mono uf
 ·exact e3
def apK(az:g.ok I):Spec Tryz.prog 217 [g.val] I M0 λv I' M'=>(∀ b o,I b=some o->I' b=some o)/\∃ (os:aO) (L:List a4),v=.agg #[os.val]/\os.n=g.n/\os.ok 3 (L.flatMap a4.cells)/\M'=os.aq 32++M0/\L.map a4.aW=g.ds.map a4.aW/\∀ d∈L,d.ok I':=by refine Spec.jy (Spec.frame (apJ az)) ?_;rintro v J M⟨M',rfl,-,a6,aa,os,L,rfl,aE,bV,rfl,dI,e5⟩;exact⟨a6,os,L,rfl,aE,bV,rfl,dI,e5⟩
def apL(f:α->List Value)(size:Nat)(aC:∀ x,(f x).length=size)(l:List α)(j:Nat):(l.drop j).flatMap f=(l.flatMap f).drop (j*size):=by
 by_cases h:j<=l.length
 ·have e:l.flatMap f=(l.take j).flatMap f++(l.drop j).flatMap f:=by rw[<-fL,pO]
  have ab:((l.take j).flatMap f).length=j*size:=by rw[gz f size aC,Ly h]
  rw[e,<-ab,Q3]
 ·have aa:l.length<=j:=by omega
  rw[sT aa,sT (by rw[gz f size aC];exact oJ _ aa)];rfl
def apM(az:g.ok I){u:Nat}(hu:u<g.ds.length)(aE:g.n<=1000000)(au:t.ok I):Spec Tryz.prog 143 [g.val,.int .i64 u,t.val] I [] λv I' M'=>(∀ b o,I b=some o->I' b=some o)/\∃ (os:aO) (L:List a4),v=.tuple #[.agg #[os.val],.bool true]/\os.n=g.n/\os.ok 3 (L.flatMap a4.cells)/\M'=os.aq 32/\L.map a4.aW=(g.ds.set u ⟨g.ds[u].name,t⟩).map a4.aW/\∀ d∈L,d.ok I':=by
 refine bR [] aT Tryz.func143 rfl rfl rfl ?_;intro B ax;have ib:=az.n;refine bZ.mk (λ_=>?_) (λh=>absurd h am);refine aS.mk (λh=>?_) (λ_=>?_)
 ·have:(g.n:Int)<=(u:Int):=cv h;omega
 refine a9.whole _ (apK az) ?_;rintro v J N -⟨a6,os,L,rfl,gK,bV,hp,dI,e5⟩;subst N;have FJ:L.length=g.ds.length:=by simpa using congrArg List.length dI
 have MR:u<L.length:=by omega
 refine cN.draw aT rfl rfl rfl ?_;refine er.whole _ (acM (au.mono a6)) (λv I' M' h x ae=>ax') ?_;rintro v hE N -⟨uf,hp,be,rfl,hR,Tl⟩;subst N;obtain⟨ad,bt,bj⟩:=aO.ok.row (I:=hE) (M:=os.aq 32++[]) (e:=32) a4.cq bv bV (λz bg=>iy _ bg) MR;have ob:L[u].aW=g.ds[u].aW:=by
  have aa:(L.map a4.aW)[u]?=(g.ds.map a4.aW)[u]?:=by rw[dI]
  rw[jJ,jJ,du MR,du hu]at aa;exact eX aa
 have kY:L[u].name=g.ds[u].name:=by have aa:L[u].aW.name=g.ds[u].aW.name:=congrArg a4.name ob;exact aa
 have e3:(⟨L[u].name,be⟩:a4).ok hE:=⟨(e5 _ (bD MR)).name,hR⟩;refine bi.mk ad u bt rfl (show u<os.n by omega) ?_;refine aO.CR (e:=32) a4.cells 3 a4.cq bV MR 1 (vs:=[.slice be.a be.n be.c,.int .i64 be.bp]) (bJ rfl) rfl ⟨L[u].name,be⟩ rfl [] [] am bt ?_;intro hD jg mm kQ h9;refine⟨_,_,.refl,λb o h=>uf _ _ (a6 _ _ h),hD,L.set u ⟨L[u].name,be⟩,by rw[jg];rfl,Z,h9,am,?_,λd aj=>?_⟩
 ·rw[qx,qx,dI];congr 1;unfold a4.aW;rw[Tl,kY]
 ·rcases sD aj with aj | rfl
  ·exact(e5 _ aj).mono uf
  ·exact e3
def apN(az:g.ok I){u:Nat}(hu:u<g.ds.length)(aE:g.n<=1000000)(au:t.ok I):Spec Tryz.prog 143 [g.val,.int .i64 u,t.val] I M0 λv I' M'=>(∀ b o,I b=some o->I' b=some o)/\M'=M0/\∃ h:cR,v=.tuple #[h.val,.bool true]/\h.ok I'/\h.n=g.n/\h.ds.map a4.aW=(g.ds.set u ⟨g.ds[u].name,t⟩).map a4.aW:=by refine Spec.jy (Spec.frame (Spec.iI (apM az hu aE au))) ?_;rintro v J M⟨M',rfl,-,a6,rfl,-,I',M1,⟨aa,os,L,rfl,gK,bV,rfl,dI,e5⟩,bC⟩;exact⟨a6,rfl,⟨L,os.a.map λg=>⟨g,0,none⟩,os.n,os.c⟩,rfl,⟨aO.iI bC bV (λ_ h=>h) Z,λd aj=>(e5 d aj).mono bC.le⟩,gK,dI⟩
def iK(z:Int):List Value:=[.int .i64 z]
def oA:∀ l:List Int,l.flatMap iK=l.map (.int .i64 ·)
 |[]=>rfl| z::l=>by rw[iS,oA l];rfl
structure apO(fJ:List Int)(I:aI)(os0:aO)(x:Nat×aO×List Int):Prop where
 i:2*x.1<=fJ.length+1
 ok:x.2.1.ok 1 (x.2.2.flatMap iK)
 len:x.2.2.length=fJ.length
 bF:∀ k,k<fJ.length->x.2.2[k]?=if k<x.1\/fJ.length<=k+x.1 then fJ[fJ.length-1-k]? else fJ[k]?
 a:x.2.1.a=os0.a
 v:x.2.1.val=os0.val
def acN{os0:aO}{fJ:List Int}(vE:os0.ok 1 (fJ.map (.int .i64 ·)))(ah:os0.n<=1099511627776):Spec Tryz.prog 228 [os0.val] I (os0.aq 3++M0) λv I' M'=>I'=I/\∃ br:aO,br.val=os0.val/\br.ok 1 (fJ.reverse.map (.int .i64 ·))/\M'=br.aq 3++M0:=by
 refine bR [] aT Tryz.func228 rfl rfl rfl ?_;intro B ax;have sR:=vE.nX;refine a3.mk ((fJ.length:Int)-1) (by show IntKind.i64.wrap ((os0.n:Int)-1)=_;rw[wrap_i64 ⟨Z,Z⟩,sR]) ?_;refine c2.inv (ι:=Nat×aO×List Int) (λx=>{ bn:=[(0,.val os0.val),(2,.val (.int .i64 x.1)),(3,.val (.int .i64 ((fJ.length:Int)-1-x.1)))],cl:=[],cm:=I,cK:=x.2.1.aq 3++M0 }) (λx=>apO fJ I os0 x) (λx=>fJ.length-x.1) ?_ ?_
 ·refine⟨(0,os0,fJ),⟨am,by rw[oA];exact vE,rfl,λk af=>?_,rfl,rfl⟩,.refl,.cons .refl (.cons .refl (.cons ?_ .nil)),.nil⟩
  ·simp only;rw[bK Z]
  ·simp only[Int.ofNat_zero,Int.sub_zero];exact .refl
 rintro⟨i,os,l⟩⟨hi,bV,c0,fa,mi,jP⟩;simp only at hi bV c0 fa mi jP;obtain⟨gK,Tk⟩:=xo jP;refine aS.mk (λh=>?_) (λh=>?_)
 rotate_left
 ·have cM:¬ (i:Int)<(fJ.length:Int)-1-i:=db h;refine⟨_,_,.refl,rfl,os,jP,?_,rfl⟩;have e:l=fJ.reverse:=by
   refine zB λk=>?_;by_cases af:k<fJ.length
   ·rw[fa k af,List.getElem?_reverse af];split
    ·rfl
    ·congr 1;omega
   ·rw[rp Z,rp (by rw[ve];omega)]
  rw[<-e,<-oA];exact bV
 have aV:(i:Int)<(fJ.length:Int)-1-i:=cv h;obtain⟨j,ai⟩:∃ j:Nat,(fJ.length:Int)-1-i=(j:Int):=⟨fJ.length-1-i,Z⟩;have dP:i<l.length:=by omega
 have fY:j<l.length:=by omega
 obtain⟨ad,bt,apP⟩:=aO.ok.row (I:=I) (M:=os.aq 3++M0) (e:=3) (f:=iK) (size:=1) (λ_=>rfl) bv bV (λz bg=>iy _ bg) fY;obtain⟨xp,vF,apQ⟩:=aO.ok.row (I:=I) (M:=os.aq 3++M0) (e:=3) (f:=iK) (size:=1) (λ_=>rfl) bv bV (λz bg=>iy _ bg) dP;obtain rfl:ad=xp:=eX (bt.symm.trans vF);have s0:=bt;rw[mi]at s0;have axj:l.length=os0.n:=by omega
 refine cN.draw aT rfl rfl rfl ?_;refine bi.mk ad j s0 ai Z ?_;refine aJ.mk _ apP ?_;refine bi.mk ad i s0 rfl Z ?_;refine aJ.mk _ apQ ?_;refine bi.mk ad i s0 rfl Z ?_;refine aO.Io iK 1 (λ_=>rfl) (e:=3) bV dP l[j] rfl [] M0 rfl bt ?_;intro hD jg mm kQ h9;refine bi.mk ad j s0 ai Z ?_;refine aO.Io iK 1 (λ_=>rfl) (e:=3) h9 (show j<(l.set i l[j]).length by rw[rL];exact fY) l[i] rfl [] M0 rfl (by rw[mm];exact bt) ?_;intro MS Hw vG De zG;refine a3.mk _ (cC (i:=i) Z) ?_;refine a3.mk ((fJ.length:Int)-1-((i+1:Nat):Int)) gc ?_;refine⟨(i+1,MS,(l.set i l[j]).set j l[i]),⟨⟨ce,zG,by simp only[rL];exact c0,λk af=>?_,(vG.trans mm).trans mi,(Hw.trans jg).trans jP⟩,ce⟩,.refl,e2,.nil⟩;have ot:=fa i Z;have IY:=fa j Z;rw[bK Z,du dP]at ot;rw[bK Z,du fY]at IY;simp only;rw[iq,iq,rL];by_cases aN:j=k
 ·subst aN;rw[bY rfl,bY fY,bY Z,ot];congr 1;omega
 ·rw[bK aN];by_cases bc:i=k
  ·subst bc;rw[bY rfl,bY dP,bY Z,IY];congr 1;omega
  ·rw[bK bc,fa k af];by_cases cy:k<i\/fJ.length<=k+i
   ·rw[bY cy,bY Z]
   ·rw[bK cy,bK Z]
def apR(au:t.ok I)(ag:right t=true)(aE:t.n<=1099511627776)(Cr:node<t.n) :
  Spec Tryz.prog 230 [t.val,.int .i64 node] I M0 λv I' M'=>I'=I/\∃ os:aO,os.ok 1 ((Ab t.ns node).reverse.map (.int .i64 ·))/\v=os.val/\os.n<=t.n/\valid t.ns.length (Ab t.ns node).reverse/\M'=os.aq 3++M0:=by
 refine bR [] aT Tryz.func230 rfl rfl rfl ?_;intro B ax;have gu:=au.n;have aj1:iF t.ns node<=t.ns.length:=Aa ag t.ns.length node Z Z;refine bN.mk λb1 iU HD=>?_;refine c2.inv (ι:=aO×List Int×aO×List Int×Nat) (λx=>{ bn:=[(2,.ref 2 0),(5,.val x.2.2.1.val),(6,.val x.1.val)],cl:=[(2,t.cells)],cm:=I,cK:=x.2.2.1.aq 3++(x.1.aq 3++M0) }) (Qd t node) (λx=>fC (iF t.ns) x.2.1) ?_ ?_
 ·refine⟨(⟨some b1,1,1,[.int .i64 node]⟩,[(node:Int)],gV,[],t.ns.length+1),⟨⟨rfl,(λh=>ci),λet jF=>⟨rfl,cf _,ayU,rfl⟩⟩,jt 1,λk af=>?_,(λk af=>aig),?_,?_,rfl⟩,.refl,e2,.cons rfl (.nil)⟩
  ·simp only[ep]at af;omega
  ·simp[fC]
  ·simp only[fC,ch,hd,hx,x5];omega
 rintro⟨todo,Cs,back,eu,f⟩⟨pb,oo,wQ,wR,vf,Ac,tz⟩;simp only at pb oo wQ wR vf Ac tz;have kf:=oo.nX;have u1:=pb.nX;refine aS.mk (λh=>?_) (λh=>?_)
 ·have Qg:0<todo.n:=by have:(0:Int)<(todo.n:Int):=cv h;omega
  obtain⟨gv,m,rfl⟩:∃ gv m,Cs=gv++[m]:=by
   rcases xS Cs with aa | ⟨r,p,aa⟩;·subst aa;simp at u1;omega
   ·exact⟨r,p,ol⟩
  have hm:=wQ m am;obtain⟨m,rfl⟩:=dZ hm.1;have gn:m<t.n:=by omega
  have kg:m<t.ns.length:=by omega
  have HJ:todo.n=gv.length+1:=by simpa using u1
  have HK:=z' ag kg;rw[wO]at vf Ac;have gf:fC (iF t.ns) [(m:Int)]=iF t.ns m:=by simp[fC]
  rw[gf,HK]at vf Ac;have aj2:gv.length<=fC (iF t.ns) gv:=Cq ag λk af=>wQ k ai';have aj3:t.ns[m].ao.length<=fC (iF t.ns) t.ns[m].ao:=Cq ag λk af=>by have:=jX ag m kg k af;omega
  have wS:gv.length+t.ns[m].ao.length<=t.ns.length:=by omega
  obtain⟨ad,bt,bj⟩:=aO.yf (I:=I) (e:=3) (M:=back.aq 3++(todo.aq 3++M0)) pb (λx ae=>f0) (j:=gv.length) am;rw[Le rfl]at bj;have k':=pb;rw[cJ]at k';have k':=aO.pop k';have he:todo.n-1=gv.length:=by omega
  rw[he]at k';have Jc:gv.length<=todo.c:=by
   cases AS:todo.a with
   |none=>have:=(pb.nil AS).1;omega| some yk=>have:=(pb.cap yk AS).2.1;omega
  obtain⟨k8,k9,hv⟩:=au.a'.row ak.cq gn kg;have aj:=au.ns _ (bD kg);have eF:=aj.aA;have mL:=aj.a'.cap;have gp:=jX ag m kg;refine a3.mk ((gv.length:Nat):Int) rg ?_;refine bi.mk ad gv.length bt rfl (show gv.length<todo.n by omega) ?_;refine aJ.mk _ bj ?_;refine cN.draw aT rfl rfl rfl ?_;refine a3.mk ((gv.length:Nat):Int) rg ?_;refine j7.mk 0 gv.length rfl rfl (dh _) Jc ?_;refine bi.mk k8 m k9 rfl gn ?_;refine aJ.mk _ ((hv _).part (k:=8) (m:=1) bv) ?_;have apS:∀ M,0<t.ns[m].aA->∃ ad,t.ns[m].bX=some ad/\cG I M ad (t.ns[m].aA*1) (t.ns[m].ao.map (.int .i64 ·)):=λM ax=>aj.a'.vD M ax;refine bz.w0 aT rfl am (e:=3) rfl rfl rfl ⟨todo.a,gv.length,todo.c,todo.aR⟩ k' rfl (sa:=t.ns[m].bX) (m:=t.ns[m].aA) (c':=t.ns[m].b5) (cb:=t.ns[m].ao.map (.int .i64 ·)) rfl (by rw[bA,eF];show _=t.ns[m].aA*1;omega) (apS _) (Dd _) (back.aq 3) M0 rfl ce (by show(gv.length+t.ns[m].aA)*8<=_;omega) ?_;intro pd acO acP iu;rw[<-cJ]at iu;refine bN.mk λb8 iR K4=>?_;refine bz.lh aT rfl am (e:=3) rfl rfl rfl back oo rfl (cs:=[.int .i64 m]) rfl rfl rfl [] (pd.aq 3++M0) rfl Z (by show(back.n+1)*8<=_;omega) ?_;intro acQ axk axl Jd;have Jd:acQ.ok 1 ((eu++[(m:Int)]).map (.int .i64 ·)):=by rw[cJ];exact Jd
  refine⟨(pd,gv++t.ns[m].ao,acQ,eu++[(m:Int)],f-1),⟨⟨iu,Jd,λk af=>?_,λk af=>?_,?_,?_,?_⟩,?_⟩,.refl,e2,.cons rfl (.nil)⟩
  ·rcases cW.1 af with af | af
   ·exact wQ k ai'
   ·have:=gp k af;omega
  ·rcases cW.1 af with af | af
   ·exact wR k af
   ·simp only[ep]at af;omega
  ·simp only[wO,ct,ey,hl];omega
  ·simp only[wO];omega
  ·obtain⟨sC,rfl⟩:∃ sC,f=sC+1:=⟨f-1,Z⟩;rw[tz,Qc,h2,fw kg];rfl
  ·simp only;rw[wO,wO,gf,HK];omega
 have Qh:Cs=[]:=by have:¬ (0:Int)<(todo.n:Int):=db h;exact iB Z
 subst Qh;rw[Qb]at tz;simp only[fC,hd,x5,dg]at vf;refine a9.whole _ (acN (os0:=back) oo Z) ?_;rintro v J N -⟨rfl,os,jP,bV,hp⟩;subst N;refine⟨_,os.aq 3++M0,.sub (.append (.refl _) (m4 _ _)) .refl,rfl,os,by rw[tz];exact bV,jP.symm,?_,λk af=>wR k (by rw[tz]at af;exact SX.1 af),rfl⟩;have:=(xo jP).1;omega
section
variable{X:c3}{β:Nat->Nat}{F:Fr}{C:dB}{I:aI}{M:List aD}{o:Oper}{K:gx}
def bz.Tm(aQ:cX X.P X.E){x y:Operand}{t:Nat}(aG:o.op=.call { callee:=.builtin .copy,args:=#[x,y],argTypes:=#[t,t] })(aj:∀ d,o.dst=some d->d<X.n)
 {dd aH:dV} (au:X.E t=some dd) (dA:dd.bM=.slice e) (he:X.E e=some aH)
 {g c:Nat} {aR:List Value} (ae:bI F x=.val (.slice (some ⟨g,0,none⟩) n c)) (ar:n*aH.size<=aR.length)
  {sa:Option Addr} {c':Nat} (aF:bI F y=.val (.slice sa n c')) {cb:List Value} (ay:cb.length=n*aH.size) (aE:0<n->∃ ad,sa=some ad/\cG I M ad (n*aH.size) cb) (aa:fG cb=true)
  (ba post:List aD) (bd:M=ba++⟨g,.cells aR.toArray e (0,0)⟩::post)
  (k:K (put o.dst (.val (.int .i64 n)) F) C I (ba++⟨g,.cells (cp aR 0 cb).toArray e (0,0)⟩::post)):bz X o F C I M K:=by
 refine⟨λa w Q ⟨β,aZ⟩=>?_⟩;have hu:=R' aQ au dA;obtain⟨inf,z,hi,fp,hs,h8,j'⟩:=(aQ _ _ he).inf;have az:w.heap[g]?=some (.cells aR.toArray e (0,0)):=aZ.holds.m ⟨g,.cells aR.toArray e (0,0)⟩ (by rw[bd];simp);have fB:=run_storeCells_at X.P g 0 e cb 0 aR.toArray w az (by rw[ay];simpa using ar) (zh aa);simp only[pF]at fB;have aC:(Builtin.firstCells aH.size n (.slice sa n c')).run X.P w=.ok cb.toArray w:=by
  by_cases ax:0<n
  ·obtain⟨ad,rfl,de,cs,T,ap,eF,an,ay⟩:=aE ax;refine run_firstCells_some (P:=X.P) w aH.size n ad n c' cb ay λj v ai=>?_;rw[eK _ de,th (eF.heap aZ.holds)];rw[<-an,lv]at ai;split at ai
   ·rw[nC]at ai;simpa using ai
   ·cases ai
  ·have ab:n=0:=by omega
   subst ab;have al:cb=[]:=iB (by rw[ay,zE]);subst al;cases sa with
   |none=>simp[Builtin.firstCells]| some ad=>exact run_firstCells_some (P:=X.P) w aH.size 0 ad 0 c' [] am λj v ai=>by simp at ai
 have ex:=dt aZ.ap ae;have nN:=dt aZ.ap aF;refine iQ f9 (v:=.int .i64 n) (w':=w.setRow g (cp aR 0 cb).toArray) ?_ ⟨_,_,_,_,⟨β,cT.put (x:=.val (.int .i64 n)) ?_ aj rfl⟩,k⟩
 ·have fk:(Builtin.copy_ #[t,t] o.type #[.slice (some ⟨g,0,none⟩) n c,.slice sa n c']).run X.P w=.ok (.int .i64 n) (w.setRow g (cp aR 0 cb).toArray):=by rw[<-fp]at aC;simp[Builtin.copy_,run_underlying hu,Builtin.lenOf,sizeOf,typeInfo,hi,aC,fB,cp,goInt]
  unfold execOp;simp only[aG,resolve,invoke,builtin,cz,dn,cd,rs,ch,hd,ex,nN,fk]
 ·exact aZ.xK bd
end
structure acR(d:ak)(dc:List Int)(y:Nat×aO×List Int):Prop where
 k:y.1<=d.aA
 ok:y.2.1.ok 1 (y.2.2.flatMap iK)
 n:y.2.1.n=d.aA
 eq:y.2.2=(d.ao.take y.1).map (λk=>dc.getD k.toNat 0)++d.ao.drop y.1
def apT(au:t.ok I)(ag:right t=true)(aE:t.n<=1099511627776)(Cr:node<t.n) :
  Spec Tryz.prog 154 [t.val,.int .i64 node] I [] λv I' M'=>(∀ b o,I b=some o->I' b=some o)/\M'=[]/\∃ be:bf,v=be.val/\be.ok I'/\lg t node be:=by
 refine wg [] aT Tryz.func154 rfl rfl rfl ?_;intro B ax;have gu:=au.n;have g8:=au.a'.cap;refine a9.mk [] [] _ (.refl _) (apR (M0:=[]) au ag aE Cr) ?_;rintro v Df N -⟨xN,back,oo,rfl,DV,wR,rfl⟩;subst Df;obtain⟨rb,mS⟩:∃ rb,(Ab t.ns node).reverse=rb:=⟨_,rfl⟩;rw[mS]at oo wR;have kf:=oo.nX;refine n9.mk t.n t.n rfl rfl (cf _) WP Z ?_;refine bN.mk λb9 kI x'=>?_;refine n9.mk 0 back.n rfl rfl (dh _) (by show 96*back.n<=_;omega) Z ?_;refine bN.mk λb7 Cz Lr=>?_;have xh:(rowOf [Value.int .i64 0] (t.n*1))=(List.replicate t.n (0:Int)).map (Value.int .i64):=by rw[xY,xT,gm]
 refine c2.rc (ι:=Nat×List Int×aO×List ak×aI) (λx=>{ bn:=[(2,.ref 2 0),(4,.ref 4 0),(5,.val back.val),(6,.val (.slice (some ⟨b9,0,none⟩) t.n t.n)),(7,.val x.2.2.1.val),(24,.val back.val),(25,.val (.int .i64 back.n)),(26,.val (.int .i64 x.1))],cl:=[(2,t.cells),(4,[.slice none 0 0,.int .i64 0])],cm:=x.2.2.2.2,cK:=cV b9 x.2.1::(x.2.2.1.aq 88++(back.aq 3++[])) }) (Qe I t rb) (λx=>rb.length-x.1) ?_ ?_
 ·intro _;refine⟨(0,List.replicate t.n 0,⟨some b7,0,back.n,rowOf [.int .u8 0,.int .u64 0,.int .u64 0,.int .u64 0,.int .u64 0,.string ⟨#[]⟩,.int .i64 0,.int .i64 0,.slice none 0 0] (back.n*9)⟩,[],I),⟨dh _,by simp[gu],⟨rfl,(λh=>ci),λet jF=>⟨by simp[td,madeCells],dh _,jp,am⟩⟩,rfl,(by rw[gu];rfl),(λd aj=>t7),λ_ _ h=>h,(λc ar=>by have:=Hd ar;omega),(λd aj=>t7)⟩,.perm (List.Perm.swap _ _ _) (.mc (by rw[xh];simp only[dE];rfl)),kd,.cons rfl (.cons rfl (.nil))⟩
 rintro⟨j,P,out,gh,J⟩⟨ai,tJ,nj,gK,pe,tN,a6,yl,iv⟩;simp only at ai tJ nj gK pe tN a6 yl iv;have sM:out.n=j:=by have:=nj.len;rw[gz _ 9 ak.cq,gK]at this;omega
 subst sM;refine aS.mk (λh=>?_) (λh=>?_)
 ·have vg:out.n<rb.length:=by have:(out.n:Int)<(back.n:Int):=cv h;omega
  have hm:=wR _ (bD vg);obtain⟨m,sN⟩:=dZ hm.1;rw[sN]at hm;have gn:m<t.n:=by omega
  have kg:m<t.ns.length:=by omega
  obtain⟨ad,bt,Ct⟩:=aO.yf (I:=J) (e:=3) (M:=cV b9 P::(out.aq 88++(back.aq 3++[]))) oo (λx ae=>f0) vg;rw[sN]at Ct;obtain⟨k8,k9,hv⟩:=(au.a'.mono a6).row ak.cq gn kg;have aj:=(au.ns _ (bD kg)).mono a6;have eF:=aj.aA;have mL:=aj.a'.cap;have gp:=jX ag m kg;have jL:nodeAt t.ns m=t.ns[m]:=fw kg;generalize eZ:t.ns[m]=d at aj eF mL gp hv jL;have gy:=nO P m Z (out.n:Int);generalize p0:P.set m (out.n:Int)=dc at gy;have EB:dc.length=t.ns.length:=by rw[<-p0];simpa using tJ
  have wT:∀ c∈dc,0<=c/\c<=rb.length:=λc ar=>by
   rw[<-p0]at ar;rcases sD ar with ar | rfl;·exact yl c ar
   ·omega
  refine bi.mk ad out.n bt rfl (show _<back.n by omega) ?_;refine aJ.mk _ Ct ?_;refine bi.mk ⟨b9,0,none⟩ m rfl rfl gn ?_;refine b'.iC [] (out.aq 88++(back.aq 3++[])) (P.map (Value.int .i64)) 3 rfl (by rw[nY,bA];show 0+m*1+1<=_;omega) rfl (dc.map (Value.int .i64)) (by rw[dg,gm];exact gy) ?_;refine bi.mk k8 m k9 rfl gn ?_;refine aJ.mk _ (hv _) ?_;have uO:(out.n+1)*96<=140737488355328:=by omega
  refine aS.mk (λaa=>?_) (λaa=>?_)
  ·have jH:0<d.aA:=by have:(0:Int)<(d.aA:Int):=cv aa;omega
   refine n9.mk d.aA d.aA rfl rfl (cf _) aq' Z ?_;refine bN.mk λacS axm axn=>?_;have bg:(rowOf [Value.int .i64 0] (d.aA*1)).length=d.aA:=by simp[td,madeCells]
   have de:cp (rowOf [Value.int .i64 0] (d.aA*1)) 0 (d.ao.map (.int .i64 ·))=d.ao.map (.int .i64 ·):=by unfold cp;rw[qw,hW,dg,sT (by rw[bg,bA];omega),dE]
   refine bz.Tm aT rfl am (e:=3) rfl rfl rfl (g:=acS) (n:=d.aA) (c:=d.aA) (aR:=rowOf [Value.int .i64 0] (d.aA*1)) rfl (by rw[bg];show d.aA*1<=_;omega) (sa:=d.bX) (c':=d.b5) rfl (cb:=d.ao.map (.int .i64 ·)) (by rw[bA];show _=d.aA*1;omega) (λax=>aj.a'.vD _ ax) (Dd _) [] (cV b9 dc::(out.aq 88++(back.aq 3++[]))) rfl ?_;rw[de];refine c2.inv (ι:=Nat×aO×List Int) (λy=>{ bn:=[(2,.ref 2 0),(4,.ref 4 0),(5,.val back.val),(6,.val (.slice (some ⟨b9,0,none⟩) t.n t.n)),(7,.val out.val),(8,.val (.int .i64 out.n)),(9,.val (.int .i64 m)),(10,.ref 10 0),(11,.val y.2.1.val),(24,.val back.val),(25,.val (.int .i64 back.n)),(26,.val (.int .i64 out.n)),(52,.val y.2.1.val),(53,.val (.int .i64 d.aA)),(54,.val (.int .i64 y.1))],cl:=[(2,t.cells),(4,[.slice none 0 0,.int .i64 0]),(10,d.cells)],cm:=J,cK:=y.2.1.aq 3++(cV b9 dc::(out.aq 88++(back.aq 3++[]))) }) (λy=>acR d dc y) (λy=>d.aA-y.1) ?_ ?_;·exact⟨(0,⟨some acS,d.aA,d.aA,d.ao.map (.int .i64 ·)⟩,d.ao),⟨dh _,⟨by rw[oA,bA];simp only;omega,(λh=>ci),λet jF=>⟨axz,cf _,jp,by rw[oA];exact fE qr⟩⟩,rfl,am⟩,.refl,ag7,.cons rfl (.cons rfl (.cons rfl (.nil)))⟩
   rintro⟨k,dk,ff⟩⟨af,hN,FK,cL⟩;simp only at af hN FK cL;have Tn:∀ x∈dk.aq 3,x∈dk.aq 3++(cV b9 dc::(out.aq 88++(back.aq 3++[]))):=λx ae=>iy _ ae;have HM:cV b9 dc∈dk.aq 3++(cV b9 dc::(out.aq 88++(back.aq 3++[]))):=by simp
   have EE:ff.length=d.ao.length:=by rw[cL,ct,bA,fF,oU];omega
   refine aS.mk (λab=>?_) (λab=>?_)
   ·have eR:k<d.aA:=by have:(k:Int)<(d.aA:Int):=cv ab;omega
    have h7:k<d.ao.length:=by omega
    have vH:k<ff.length:=by omega
    have an:=gp _ (bD h7);have rM:d.ao[k].toNat<dc.length:=by omega
    have yn:dc.getD d.ao[k].toNat 0=dc[d.ao[k].toNat]:=by simp[bP,rM]
    have Je:ff[k]=d.ao[k]:=by
     have al:ff[k]?=d.ao[k]?:=by rw[cL,l4 wp,bA,fF,pE Z,mK,nC,pF]
     rw[du vH,du h7]at al;exact eX al
    obtain⟨fq,eN,eL⟩:=aO.ok.row (I:=J) (M:=dk.aq 3++(cV b9 dc::(out.aq 88++(back.aq 3++[])))) (e:=3) (f:=iK) (size:=1) (λ_=>rfl) bv hN Tn vH;rw[Je]at eL;refine bi.mk fq k eN rfl (show k<dk.n by omega) ?_;refine aJ.mk _ eL ?_;refine bi.mk ⟨b9,0,none⟩ d.ao[k].toNat rfl Z Z ?_;refine aJ.mk _ (zM HM rM) ?_;refine bi.mk fq k eN rfl (show k<dk.n by omega) ?_;refine aO.Io iK 1 (λ_=>rfl) (e:=3) hN vH dc[d.ao[k].toNat] rfl [] (cV b9 dc::(out.aq 88++(back.aq 3++[]))) rfl eN ?_;intro pg jg mm kQ h9;refine a3.mk _ (cC (i:=k) Z) ?_;refine⟨(k+1,pg,ff.set k dc[d.ao[k].toNat]),⟨⟨eR,h9,kQ.trans FK,?_⟩,ce⟩,.refl,.cons .refl (.cons .refl (.cons .refl (.cons .refl (.cons .refl (.cons .refl (.cons .refl (.cons .refl (.cons ?_ (.cons .refl (.cons .refl (.cons .refl (.cons ?_ (tl))))))))))))),.cons rfl (.cons rfl (.cons rfl (.nil)))⟩;·simp only;rw[cL,gi h7,cJ,ch,hd,yn,Cm _ _ wp,bA,fF,pE Z,mK,e9 h7,Cn,ej];rfl
    ·simp only;rw[jg];exact .refl
    ·simp only;rw[jg];exact .refl
   have cM:k=d.aA:=by have:¬ (k:Int)<(d.aA:Int):=db ab;omega
   subst cM;rw[fE Z,sT Z,dE]at cL;rw[oA]at hN;refine bN.mk λAe Qk Ql=>?_;have bW:∃ bO:ak,bO=⟨d.k,d.b0,d.s1,d.s2,d.cg,d.t,d.lo,d.hi,dk.a.map λg=>⟨g,0,none⟩,dk.n,dk.c,ff⟩:=⟨_,rfl⟩;obtain⟨bO,bW⟩:=bW;have Cv:bO.cells=[.int .u8 d.k,.int .u64 d.b0,.int .u64 d.s1,.int .u64 d.s2,.int .u64 d.cg,.string d.t,.int .i64 d.lo,.int .i64 d.hi,.slice (dk.a.map λg=>⟨g,0,none⟩) dk.n dk.c]:=by rw[bW];rfl
   refine bz.lh aT rfl am (e:=88) rfl rfl rfl out nj rfl (cs:=[.int .u8 d.k,.int .u64 d.b0,.int .u64 d.s1,.int .u64 d.s2,.int .u64 d.cg,.string d.t,.int .i64 d.lo,.int .i64 d.hi,.slice (dk.a.map λg=>⟨g,0,none⟩) dk.n dk.c]) rfl rfl rfl (dk.aq 3++[cV b9 dc]) (back.aq 3++[]) (by simp;rfl) Z ww ?_;intro nx To acT AT;refine a3.mk _ (cC (i:=out.n) Z) ?_;have vh:∀ c∈ff,0<=c/\c<=rb.length:=λc ar=>by
    rw[cL]at ar;obtain⟨q,aM,rfl⟩:=c6.1 ar;have rJ:=gp q aM;have Cw:q.toNat<dc.length:=by omega
    exact wT (dc.getD q.toNat 0) wn
   intro ew;obtain⟨kM,hw,bo,dM⟩:=aO.Eo (I:=J) (b:=8) (e:=3) hN Z (λg az=>ew.d ⟨g,.cells dk.aR.toArray 3 (0,0)⟩ lm) (cV b9 dc::(nx.aq 88++(back.aq 3++[])));refine⟨(out.n+1,dc,nx,gh++[bO],kM),⟨⟨ce,EB,?_,by simp[gK],?_,?_,λb o h=>bo _ _ (a6 _ _ h),wT,?_⟩,ce⟩,?_,kd,.cons rfl (.cons rfl (.nil))⟩
   ·simp only;rw[fL];have:([bO].flatMap ak.cells)=bO.cells:=by simp
    rw[this,Cv];exact AT
   ·simp only;rw[gi vg,sL,pe,kw,Ez,sN];show(P.set m ((gh.map ak.aW).length:Int),gh.map ak.aW++[(nodeAt t.ns m).dJ ((nodeAt t.ns m).ao.map λk=>(P.set m ((gh.map ak.aW).length:Int)).getD k.toNat 0)])=_;rw[bA,gK,p0,jL,<-cL,cJ,bW];rfl
   ·simp only;intro x ae;rcases cW.1 ae with ae | ae
    ·exact(tN x ae).mono bo
    ·simp only[ep]at ae;rw[ae,bW];refine⟨aj.k,aj.b0,aj.s1,aj.s2,aj.cg,aj.t,aj.lo,aj.hi,dM,λc ar=>?_⟩;have:=vh c ar;exact⟨Z,Z⟩
   ·simp only;intro x ae;rcases cW.1 ae with ae | ae
    ·exact iv x ae
    ·simp only[ep]at ae;rw[ae,bW];exact vh
   ·simp only;refine .perm (M1:=dk.aq 3++(cV b9 dc::(nx.aq 88++(back.aq 3++[])))) ?_ hw;simp
  ·have jH:d.aA=0:=by have:¬ (0:Int)<(d.aA:Int):=db aa;omega
   have apU:d.ao=[]:=iB Z;refine c2.inv (ι:=Nat×aO×List Int) (λy=>{ bn:=[(2,.ref 2 0),(4,.ref 4 0),(5,.val back.val),(6,.val (.slice (some ⟨b9,0,none⟩) t.n t.n)),(7,.val out.val),(8,.val (.int .i64 out.n)),(9,.val (.int .i64 m)),(10,.ref 10 0),(11,.val y.2.1.val),(24,.val back.val),(25,.val (.int .i64 back.n)),(26,.val (.int .i64 out.n)),(52,.val y.2.1.val),(53,.val (.int .i64 d.aA)),(54,.val (.int .i64 y.1))],cl:=[(2,t.cells),(4,[.slice none 0 0,.int .i64 0]),(10,d.cells)],cm:=J,cK:=y.2.1.aq 3++(cV b9 dc::(out.aq 88++(back.aq 3++[]))) }) (λy=>acR d dc y) (λy=>d.aA-y.1) ?_ ?_;·refine⟨(0,gV,d.ao),⟨dh _,by rw[apU];exact jt 1,jH.symm,am⟩,.refl,.cons .refl (.cons .refl (.cons .refl (.cons .refl (.cons .refl (.cons .refl (.cons .refl (.cons .refl (.cons .refl (.cons .refl (.cons .refl (.cons .refl (.cons .refl (.cons ?_ (.cons .refl .nil)))))))))))))),.cons rfl (.cons rfl (.cons rfl (.nil)))⟩;simp only;rw[jH];exact .refl
   rintro⟨k,dk,ff⟩⟨af,hN,FK,cL⟩;simp only at af hN FK cL;have Tn:∀ x∈dk.aq 3,x∈dk.aq 3++(cV b9 dc::(out.aq 88++(back.aq 3++[]))):=λx ae=>iy _ ae;have HM:cV b9 dc∈dk.aq 3++(cV b9 dc::(out.aq 88++(back.aq 3++[]))):=by simp
   have EE:ff.length=d.ao.length:=by rw[cL,ct,bA,fF,oU];omega
   refine aS.mk (λab=>?_) (λab=>?_)
   ·have eR:k<d.aA:=by have:(k:Int)<(d.aA:Int):=cv ab;omega
    have h7:k<d.ao.length:=by omega
    have vH:k<ff.length:=by omega
    have an:=gp _ (bD h7);have rM:d.ao[k].toNat<dc.length:=by omega
    have yn:dc.getD d.ao[k].toNat 0=dc[d.ao[k].toNat]:=by simp[bP,rM]
    have Je:ff[k]=d.ao[k]:=by
     have al:ff[k]?=d.ao[k]?:=by rw[cL,l4 wp,bA,fF,pE Z,mK,nC,pF]
     rw[du vH,du h7]at al;exact eX al
    obtain⟨fq,eN,eL⟩:=aO.ok.row (I:=J) (M:=dk.aq 3++(cV b9 dc::(out.aq 88++(back.aq 3++[])))) (e:=3) (f:=iK) (size:=1) (λ_=>rfl) bv hN Tn vH;rw[Je]at eL;refine bi.mk fq k eN rfl (show k<dk.n by omega) ?_;refine aJ.mk _ eL ?_;refine bi.mk ⟨b9,0,none⟩ d.ao[k].toNat rfl Z Z ?_;refine aJ.mk _ (zM HM rM) ?_;refine bi.mk fq k eN rfl (show k<dk.n by omega) ?_;refine aO.Io iK 1 (λ_=>rfl) (e:=3) hN vH dc[d.ao[k].toNat] rfl [] (cV b9 dc::(out.aq 88++(back.aq 3++[]))) rfl eN ?_;intro pg jg mm kQ h9;refine a3.mk _ (cC (i:=k) Z) ?_;refine⟨(k+1,pg,ff.set k dc[d.ao[k].toNat]),⟨⟨eR,h9,kQ.trans FK,?_⟩,ce⟩,.refl,.cons .refl (.cons .refl (.cons .refl (.cons .refl (.cons .refl (.cons .refl (.cons .refl (.cons .refl (.cons ?_ (.cons .refl (.cons .refl (.cons .refl (.cons ?_ (tl))))))))))))),.cons rfl (.cons rfl (.cons rfl (.nil)))⟩;·simp only;rw[cL,gi h7,cJ,ch,hd,yn,Cm _ _ wp,bA,fF,pE Z,mK,e9 h7,Cn,ej];rfl
    ·simp only;rw[jg];exact .refl
    ·simp only;rw[jg];exact .refl
   have cM:k=d.aA:=by have:¬ (k:Int)<(d.aA:Int):=db ab;omega
   subst cM;rw[fE Z,sT Z,dE]at cL;rw[oA]at hN;refine bN.mk λAe Qk Ql=>?_;have bW:∃ bO:ak,bO=⟨d.k,d.b0,d.s1,d.s2,d.cg,d.t,d.lo,d.hi,dk.a.map λg=>⟨g,0,none⟩,dk.n,dk.c,ff⟩:=⟨_,rfl⟩;obtain⟨bO,bW⟩:=bW;have Cv:bO.cells=[.int .u8 d.k,.int .u64 d.b0,.int .u64 d.s1,.int .u64 d.s2,.int .u64 d.cg,.string d.t,.int .i64 d.lo,.int .i64 d.hi,.slice (dk.a.map λg=>⟨g,0,none⟩) dk.n dk.c]:=by rw[bW];rfl
   refine bz.lh aT rfl am (e:=88) rfl rfl rfl out nj rfl (cs:=[.int .u8 d.k,.int .u64 d.b0,.int .u64 d.s1,.int .u64 d.s2,.int .u64 d.cg,.string d.t,.int .i64 d.lo,.int .i64 d.hi,.slice (dk.a.map λg=>⟨g,0,none⟩) dk.n dk.c]) rfl rfl rfl (dk.aq 3++[cV b9 dc]) (back.aq 3++[]) (by simp;rfl) Z ww ?_;intro nx To acT AT;refine a3.mk _ (cC (i:=out.n) Z) ?_;have vh:∀ c∈ff,0<=c/\c<=rb.length:=λc ar=>by
    rw[cL]at ar;obtain⟨q,aM,rfl⟩:=c6.1 ar;have rJ:=gp q aM;have Cw:q.toNat<dc.length:=by omega
    exact wT (dc.getD q.toNat 0) wn
   intro ew;obtain⟨kM,hw,bo,dM⟩:=aO.Eo (I:=J) (b:=8) (e:=3) hN Z (λg az=>ew.d ⟨g,.cells dk.aR.toArray 3 (0,0)⟩ lm) (cV b9 dc::(nx.aq 88++(back.aq 3++[])));refine⟨(out.n+1,dc,nx,gh++[bO],kM),⟨⟨ce,EB,?_,by simp[gK],?_,?_,λb o h=>bo _ _ (a6 _ _ h),wT,?_⟩,ce⟩,?_,kd,.cons rfl (.cons rfl (.nil))⟩
   ·simp only;rw[fL];have:([bO].flatMap ak.cells)=bO.cells:=by simp
    rw[this,Cv];exact AT
   ·simp only;rw[gi vg,sL,pe,kw,Ez,sN];show(P.set m ((gh.map ak.aW).length:Int),gh.map ak.aW++[(nodeAt t.ns m).dJ ((nodeAt t.ns m).ao.map λk=>(P.set m ((gh.map ak.aW).length:Int)).getD k.toNat 0)])=_;rw[bA,gK,p0,jL,<-cL,cJ,bW];rfl
   ·simp only;intro x ae;rcases cW.1 ae with ae | ae
    ·exact(tN x ae).mono bo
    ·simp only[ep]at ae;rw[ae,bW];refine⟨aj.k,aj.b0,aj.s1,aj.s2,aj.cg,aj.t,aj.lo,aj.hi,dM,λc ar=>?_⟩;have:=vh c ar;exact⟨Z,Z⟩
   ·simp only;intro x ae;rcases cW.1 ae with ae | ae
    ·exact iv x ae
    ·simp only[ep]at ae;rw[ae,bW];exact vh
   ·simp only;refine .perm (M1:=dk.aq 3++(cV b9 dc::(nx.aq 88++(back.aq 3++[])))) ?_ hw;simp
 have cM:out.n=rb.length:=by have:¬ (out.n:Int)<(back.n:Int):=db h;omega
 refine a3.mk ((gh.length:Int)-1) t8 ?_;intro ew;obtain⟨kM,hw,bo,dM⟩:=aO.Eo (I:=J) (b:=96) (e:=88) nj Z (λg az=>ew.d ⟨g,.cells out.aR.toArray 88 (0,0)⟩ lm) [];refine⟨kM,[],.sub (M1:=out.aq 88++[]) (by rw[dE];exact .cons _ (tK _ _)) hw,λb o h=>bo _ _ (a6 _ _ h),rfl,⟨gh,out.a.map λg=>⟨g,0,none⟩,out.n,out.c,(gh.length:Int)-1⟩,rfl,⟨dM,λd aj=>(tN d aj).mono bo,⟨ce,ce⟩⟩,⟨?_,rfl⟩⟩;rw[fE Z]at pe;rw[tL,mS,<-gu]at *;rw[pe]
def Tp(au:t.ok I)(ag:right t=true)(aE:t.n<=1099511627776)(Cr:node<t.n) :
  Spec Tryz.prog 154 [t.val,.int .i64 node] I M0 λv I' M'=>(∀ b o,I b=some o->I' b=some o)/\M'=M0/\∃ be:bf,v=be.val/\be.ok I'/\lg t node be:=by
 refine Spec.jy (Spec.frame (apT au ag aE Cr)) ?_;rintro v J M⟨M',rfl,-,-,aa,rfl,be,rfl,ab,al⟩;exact⟨aa,rfl,be,rfl,ab,al⟩
def apV(bm:fr I aB)(au:t.ok I)(ag:right t=true)(aE:t.n<=1099511627776){r:Nat}(dD:t.bp=(r:Int)) :
  Spec Tryz.prog 140 [t.val] I M0 λv I' M'=>(∀ b o,I b=some o->I' b=some o)/\M'=M0/\∃ be:bf,v=be.val/\be.ok I'/\lg t r be:=by
 refine bR [] aT Tryz.func140 rfl rfl rfl ?_;intro B ax;have gu:=au.n;obtain⟨gH,fT⟩:=kh ag;refine a9.mk [] M0 _ (.refl _) (o0 bm.c au) ?_;rintro v J N -⟨rfl,a6,rfl⟩;subst J;refine aS.mk (λh=>absurd h (by simp[ag])) (λ_=>?_);have de:=Tp (M0:=M0) au ag aE (node:=r) Z;rw[<-dD]at de;refine a9.whole _ de ?_;rintro v J N -⟨a6,hp,be,rfl,hR,aw⟩;subst N;rw[dD]at aw;exact⟨_,_,.refl,a6,rfl,be,rfl,hR,aw⟩
def jQ(hh:Int)(d:ak):ak:=d.dJ (d.ao.map (·+hh))
structure apW(I:aI)(ds:List ak)(hh:Int)(os0:aO)(x:Nat×aO×List ak×aI):Prop where
 i:x.1<=ds.length
 ok:x.2.1.ok 9 (x.2.2.1.flatMap ak.cells)
 aW:x.2.2.1.map ak.aW=(ds.take x.1).map (jQ hh)++(ds.drop x.1).map ak.aW
 ns:∀ d∈x.2.2.1,d.ok x.2.2.2
 le:∀ b o,I b=some o->x.2.2.2 b=some o
 a:x.2.1.a=os0.a
 v:x.2.1.val=os0.val
structure apX(d:ak)(hh:Int)(os0:aO)(y:Nat×aO×List Int):Prop where
 k:y.1<=d.aA
 ok:y.2.1.ok 1 (y.2.2.flatMap iK)
 eq:y.2.2=(d.ao.take y.1).map (·+hh)++d.ao.drop y.1
 a:y.2.1.a=os0.a
 v:y.2.1.val=os0.val
def apY{ds:List ak}{hh:Int}{i:Nat}(hi:i<ds.length)(dI:L.map ak.aW=(ds.take i).map (jQ hh)++(ds.drop i).map ak.aW){d:ak}(aj:d.aW=jQ hh ds[i]):(L.set i d).map ak.aW=(ds.take (i+1)).map (jQ hh)++(ds.drop (i+1)).map ak.aW:=by rw[qx,dI,gi hi,cJ,e9 hi,ch,aj,Cm _ _ wp,bA,fF,pE Z,mK,Cn,ej];rfl
def apZ{ds:List ak}{hh:Int}{i:Nat}(hi:i<ds.length)(lP:i<L.length)(dI:L.map ak.aW=(ds.take i).map (jQ hh)++(ds.drop i).map ak.aW):L[i].aW=ds[i].aW:=by
 have aa:(L.map ak.aW)[i]?=some ds[i].aW:=by rw[dI,l4 wp,bA,fF,pE Z,mK,e9 hi,ch];rfl
 rw[jJ,du lP]at aa;exact eX aa
def acU{c:Nat}{ds:List ak}(h:cZ I a n c 9 96 (ds.flatMap ak.cells))(e5:∀ d∈ds,d.ok I)(hh:Int)(r0:∀ d∈ds,∀ k∈d.ao,hy (k+hh)) :
  Spec Tryz.prog 141 [.slice a n c,.int .i64 hh] I [] λv I' M'=>(∀ b o,I b=some o->I' b=some o)/\∃ (os:aO) (L:List ak),v=os.val/\os.n=n/\os.ok 9 (L.flatMap ak.cells)/\M'=os.aq 88/\L.map ak.aW=ds.map (jQ hh)/\∀ d∈L,d.ok I':=by
 refine wg [] aT Tryz.func141 rfl rfl rfl ?_;intro B ax;have g8:=h.cap;have c0:=h.len;rw[gz _ 9 ak.cq]at c0;have aE:ds.length=n:=by omega
 refine n9.mk n n rfl rfl (cf _) (by show 96*n<=_;omega) Z ?_;refine bN.mk λeb Cb K5=>?_;have bg:∀ z:List Value,z.length=9->(rowOf z (n*9)).length=n*9:=λz _=>by simp[td,madeCells]
 refine bz.Tm aT rfl am (e:=88) rfl rfl rfl (g:=eb) (n:=n) (c:=n) rfl (by rw[bg _ rfl];exact cf _) (sa:=a) (c':=c) rfl (cb:=ds.flatMap ak.cells) h.len (λax=>h.vD _ ax) (Jb ak.one _) [] [] rfl ?_;have de:∀ z:List Value,z.length=9->cp (rowOf z (n*9)) 0 (ds.flatMap ak.cells)=ds.flatMap ak.cells:=λz gU=>by unfold cp;rw[qw,hW,dg,sT (by rw[bg z gU,h.len];exact cf _),dE]
 have ma:(ds.flatMap ak.cells).length=n*9:=h.len;obtain⟨os0,Jf⟩:∃ os0:aO,os0=⟨some eb,n,n,cp (rowOf [.int .u8 0,.int .u64 0,.int .u64 0,.int .u64 0,.int .u64 0,.string ⟨#[]⟩,.int .i64 0,.int .i64 0,.slice none 0 0] (n*9)) 0 (ds.flatMap ak.cells)⟩:=⟨_,rfl⟩;have vE:os0.ok 9 (ds.flatMap ak.cells):=by
  rw[Jf];refine⟨ma,(λh=>ci),λet jF=>⟨?_,cf _,jp,?_⟩⟩;·simp only;rw[de _ rfl,ma]
  ·simp only;rw[de _ rfl];exact fE (by rw[ma];exact cf _)
 have IU:os0.val=.slice (some ⟨eb,0,none⟩) n n:=by rw[Jf];rfl
 have MT:os0.a=some eb:=by rw[Jf]
 have nL:os0.n=n:=by rw[Jf]
 refine c2.rc (ι:=Nat×aO×List ak×aI) (λx=>{ bn:=[(1,.val (.int .i64 hh)),(5,.val (.slice (some ⟨eb,0,none⟩) n n)),(16,.val (.slice (some ⟨eb,0,none⟩) n n)),(17,.val (.int .i64 n)),(18,.val (.int .i64 x.1))],cl:=[],cm:=x.2.2.2,cK:=x.2.1.aq 88++[] }) (λx=>apW I ds hh os0 x) (λx=>n-x.1) ?_ ?_
 ·intro _;refine⟨(0,os0,ds,I),⟨dh _,vE,am,e5,λ_ _ h=>h,rfl,rfl⟩,.mc (by rw[Jf];rfl),fh,.nil⟩
 rintro⟨i,os,L,J⟩⟨hi,bV,dI,kT,bo,mi,jP⟩;simp only at hi bV dI kT bo mi jP;have FJ:L.length=ds.length:=by have:=congrArg List.length dI;rw[bA,ct,bA,bA,fF,oU]at this;omega
 have ap0:os.a=some eb:=mi.trans MT;refine aS.mk (λab=>?_) (λab=>?_)
 rotate_left
 ·have cM:i=n:=by have:¬ (i:Int)<(n:Int):=db ab;omega
  intro ew;refine⟨_,_,.refl,bo,os,L,by rw[jP,IU],by rw[(xo jP).1,nL],bV,Do,?_,kT⟩;rw[dI,fE Z,sT Z,hd,dE]
 have aV:i<n:=by have:(i:Int)<(n:Int):=cv ab;omega
 have kq:i<ds.length:=by omega
 have lP:i<L.length:=by omega
 have MU:=apZ kq lP dI;have h0:=kT _ (bD lP);have gB:L[i].ao=ds[i].ao:=by have:L[i].aW.ao=ds[i].aW.ao:=congrArg ak.ao MU;exact this
 have acV:=r0 _ (bD kq);obtain⟨ad,bt,bj⟩:=aO.ok.row (I:=J) (M:=os.aq 88++[]) (e:=88) ak.cq bv bV (λz bg=>iy _ bg) lP;obtain rfl:ad=⟨eb,0,none⟩:=by rw[ap0]at bt;exact(eX bt).symm
 have iX:∀ d:ak,d.aW=jQ hh ds[i]->(L.set i d).map ak.aW=(ds.take (i+1)).map (jQ hh)++(ds.drop (i+1)).map ak.aW:=λd aj=>apY kq dI aj;have eZ:∃ d,L[i]=d:=⟨_,rfl⟩;obtain⟨d,aj⟩:=eZ;have eF:=h0.aA;refine bi.mk ⟨eb,0,none⟩ i rfl rfl aV ?_;refine aJ.mk _ bj ?_;refine bi.mk ⟨eb,0,none⟩ i rfl rfl aV ?_;refine aO.CR (e:=88) ak.cells 9 ak.cq bV lP 8 (vs:=[.slice none 0 0]) (bJ rfl) rfl (L[i].dJ []) rfl [] [] am bt ?_;intro hD jg mm kQ h9;rw[aj]at MU h0 gB eF;refine aS.mk (λal=>?_) (λal=>?_)
 ·have jH:d.aA=0:=by have:((L[i].aA:Nat):Int)=0:=cv al;rw[aj]at this;omega
  have nJ:d.ao=[]:=iB Z;refine a3.mk _ (cC (i:=i) Z) ?_;intro ew;refine⟨(i+1,hD,L.set i (L[i].dJ []),J),⟨⟨ce,h9,iX _ ?_,λx ae=>?_,bo,mm.trans mi,jg.trans jP⟩,ce⟩,.refl,fh,.nil⟩;·rw[aj];show d.aW.dJ []=jQ hh ds[i];rw[MU,jQ,<-gB,nJ];rfl
  ·rcases sD ae with ae | rfl
   ·exact kT _ ae
   ·rw[aj];exact⟨h0.k,h0.b0,h0.s1,h0.s2,h0.cg,h0.t,h0.lo,h0.hi,⟨rfl,⟨cf _,(show 0*8<=140737488355328 by decide)⟩,.inl rfl⟩,λk af=>aig⟩
 ·have jH:0<d.aA:=by have:¬ ((L[i].aA:Nat):Int)=0:=db al;rw[aj]at this;omega
  have mL:=h0.a'.cap;have ap1:=h0.a';have BP:L[i].bX=d.bX/\L[i].aA=d.aA/\L[i].b5=d.b5:=by rw[aj];exact⟨rfl,rfl,rfl⟩
  refine n9.mk d.aA d.aA (by rw[BP.2.1]) (by rw[BP.2.1]) (cf _) aq' Z ?_;refine bN.mk λdx qK akv=>?_;have acW:(rowOf [Value.int .i64 0] (d.aA*1)).length=d.aA:=by simp[td,madeCells]
  have ap2:cp (rowOf [Value.int .i64 0] (d.aA*1)) 0 (d.ao.map (.int .i64 ·))=d.ao.map (.int .i64 ·):=by unfold cp;rw[qw,hW,dg,sT (by rw[acW,bA];omega),dE]
  refine bz.Tm aT rfl am (e:=3) rfl rfl rfl (g:=dx) (n:=d.aA) (c:=d.aA) (aR:=rowOf [Value.int .i64 0] (d.aA*1)) rfl (by rw[acW];show d.aA*1<=_;omega) (sa:=d.bX) (c':=d.b5) (by rw[<-BP.1,<-BP.2.1,<-BP.2.2];rfl) (cb:=d.ao.map (.int .i64 ·)) (by rw[bA];show _=d.aA*1;omega) (λax=>ap1.vD _ ax) (Dd _) [] (hD.aq 88++[]) rfl ?_;obtain⟨yV,FL⟩:∃ yV:aO,yV=⟨some dx,d.aA,d.aA,cp (rowOf [Value.int .i64 0] (d.aA*1)) 0 (d.ao.map (.int .i64 ·))⟩:=⟨_,rfl⟩;have ap3:yV.ok 1 (d.ao.flatMap iK):=by rw[FL,oA,ap2];refine⟨qr,(λh=>ci),λet jF=>⟨axz,cf _,jp,fE qr⟩⟩
  have axo:yV.val=.slice (some ⟨dx,0,none⟩) d.aA d.aA:=by rw[FL];rfl
  have ap4:yV.a=some dx:=by rw[FL]
  have acX:yV.n=d.aA:=by rw[FL]
  refine c2.inv (ι:=Nat×aO×List Int) (λy=>{ bn:=[(1,.val (.int .i64 hh)),(5,.val (.slice (some ⟨eb,0,none⟩) n n)),(6,.val (.int .i64 i)),(7,.ref 7 0),(8,.val (.slice (some ⟨dx,0,none⟩) d.aA d.aA)),(16,.val (.slice (some ⟨eb,0,none⟩) n n)),(17,.val (.int .i64 n)),(18,.val (.int .i64 i)),(39,.val (.slice (some ⟨dx,0,none⟩) d.aA d.aA)),(40,.val (.int .i64 d.aA)),(41,.val (.int .i64 y.1))],cl:=[],cm:=J,cK:=y.2.1.aq 3++(hD.aq 88++[]) }) (λy=>apX d hh yV y) (λy=>d.aA-y.1) ?_ ?_;·exact⟨(0,yV,d.ao),⟨dh _,ap3,am,rfl,rfl⟩,.mc (by rw[FL];rfl),GI,.nil⟩
  rintro⟨k,dk,ff⟩⟨af,hN,cL,FM,gp⟩;simp only at af hN cL FM gp;have acY:dk.a=some dx:=FM.trans ap4;have EE:ff.length=d.ao.length:=by rw[cL,ct,bA,fF,oU];omega
  refine aS.mk (λaL=>?_) (λaL=>?_)
  ·have eR:k<d.aA:=by have:(k:Int)<(d.aA:Int):=cv aL;omega
   have h7:k<d.ao.length:=by omega
   have vH:k<ff.length:=by omega
   have Je:ff[k]=d.ao[k]:=by
    have al:ff[k]?=d.ao[k]?:=by rw[cL,l4 wp,bA,fF,pE Z,mK,nC,pF]
    rw[du vH,du h7]at al;exact eX al
   obtain⟨fq,eN,eL⟩:=aO.ok.row (I:=J) (M:=dk.aq 3++(hD.aq 88++[])) (e:=3) (f:=iK) (size:=1) (λ_=>rfl) bv hN (λz bg=>iy _ bg) vH;obtain rfl:fq=⟨dx,0,none⟩:=by rw[acY]at eN;exact(eX eN).symm
   rw[Je]at eL;have gA:hy (d.ao[k]+hh):=acV _ (by rw[<-gB];exact bD h7);refine bi.mk ⟨dx,0,none⟩ k rfl rfl eR ?_;refine aJ.mk _ eL ?_;refine a3.mk (d.ao[k]+hh) (wrap_i64 gA) ?_;refine bi.mk ⟨dx,0,none⟩ k rfl rfl eR ?_;refine aO.Io iK 1 (λ_=>rfl) (e:=3) hN vH (d.ao[k]+hh) rfl [] (hD.aq 88++[]) rfl eN ?_;intro pg ap5 ap6 axp ap7;refine a3.mk _ (cC (i:=k) Z) ?_;refine⟨(k+1,pg,ff.set k (d.ao[k]+hh)),⟨⟨eR,ap7,?_,ap6.trans FM,ap5.trans gp⟩,ce⟩,.refl,GI,.nil⟩;simp only;rw[cL,gi h7,cJ,ch,hd,Cm _ _ wp,bA,fF,pE Z,mK,e9 h7,Cn,ej];rfl
  have cM:k=d.aA:=by have:¬ (k:Int)<(d.aA:Int):=db aL;omega
  rw[fE Z,sT Z,dE]at cL;rw[oA]at hN;refine bi.mk ⟨eb,0,none⟩ i rfl rfl aV ?_;have hs:i<(L.set i (L[i].dJ [])).length:=by rw[rL];exact lP
  have l8:(L.set i (L[i].dJ []))[i]=d.dJ []:=by rw[List.getElem_set_self,aj]
  have bW:∃ bO:ak,bO=⟨d.k,d.b0,d.s1,d.s2,d.cg,d.t,d.lo,d.hi,some ⟨dx,0,none⟩,d.aA,d.aA,ff⟩:=⟨_,rfl⟩;obtain⟨bO,bW⟩:=bW;refine aO.CR (e:=88) ak.cells 9 ak.cq h9 hs 8 (vs:=[.slice (some ⟨dx,0,none⟩) d.aA d.aA]) (bJ rfl) rfl bO (by rw[l8,bW];rfl) (dk.aq 3) [] rfl (by rw[mm];exact bt) ?_;intro MS Hw vG De zG;rw[GY]at zG;refine a3.mk _ (cC (i:=i) Z) ?_;intro ew;obtain⟨kM,hw,g3,dM⟩:=aO.Eo (I:=J) (b:=8) (e:=3) hN (by rw[(xo gp).1,acX];omega) (λg az=>ew.d ⟨g,.cells dk.aR.toArray 3 (0,0)⟩ lm) (MS.aq 88++[]);refine⟨(i+1,MS,L.set i bO,kM),⟨⟨ce,zG,iX _ ?_,λx ae=>?_,λb o h=>g3 _ _ (bo _ _ h),(vG.trans mm).trans mi,(Hw.trans jg).trans jP⟩,ce⟩,hw,fh,.nil⟩;·rw[bW,cL];show d.aW.dJ (d.ao.map (·+hh))=jQ hh ds[i];rw[MU,jQ,gB];rfl
  ·rcases sD ae with ae | rfl
   ·exact(kT _ ae).mono g3
   ·rw[acY,(xo gp).1,(xo gp).2,acX]at dM;have zJ:yV.c=d.aA:=by rw[FL]
    rw[zJ]at dM;rw[bW];refine⟨h0.k,h0.b0,h0.s1,h0.s2,h0.cg,h0.t,h0.lo,h0.hi,dM,λq aM=>?_⟩;have aM:q∈ff:=aM;rw[cL]at aM;obtain⟨z,bg,rfl⟩:=c6.1 aM;exact acV z (by rw[<-gB];exact bg)
def aO.ap8(h:os.ok size xs)(bd:∀ x∈os.aq e,x∈M)(ax:0<os.n):∃ ad,os.a.map (λg=>(⟨g,0,none⟩:Addr))=some ad/\cG I M ad (os.n*size) xs:=by
 obtain⟨a,n,c,aR⟩:=os;cases a with
 |none=>have:=(h.nil rfl).1;simp only at this ax;omega| some g=>obtain⟨aa,ab,al,aL⟩:=h.cap g rfl;exact⟨_,rfl,rfl,aR.toArray,e,(0,0),.inr ⟨⟨g,.cells aR.toArray e (0,0)⟩,bd _ (.head _),rfl,rfl⟩,AC,h.len⟩
def ap9{c:Nat}{ds:List ak}(h:cZ I a n c 9 96 (ds.flatMap ak.cells))(e5:∀ d∈ds,d.ok I)(hh:Int)(r0:∀ d∈ds,∀ k∈d.ao,hy (k+hh)) :
  Spec Tryz.prog 141 [.slice a n c,.int .i64 hh] I M0 λv I' M'=>(∀ b o,I b=some o->I' b=some o)/\∃ (os:aO) (L:List ak),v=os.val/\os.n=n/\os.ok 9 (L.flatMap ak.cells)/\M'=os.aq 88++M0/\L.map ak.aW=ds.map (jQ hh)/\∀ d∈L,d.ok I':=by
 refine Spec.jy (Spec.frame (acU h e5 hh r0)) ?_;rintro v J M⟨M',rfl,-,-,aa,os,L,rfl,ab,al,rfl,aL,bB⟩;exact⟨aa,os,L,rfl,ab,al,rfl,aL,bB⟩
def aqa(n:Nat)(l:List ak):l.map (jQ (n:Int))=l.map λx=>x.dJ (x.ao.map λk=>(n:Int)+k):=fX λx _=>by unfold jQ;congr 1;exact fX λk _=>Int.add_comm _ _
def acZ(z:Int)(ds:List ak):(ds.map ak.aW).map (jQ z)=ds.map (jQ z):=by rw[gE];rfl
def aqb(bm:fr I aB){d:ak}(aj:d.ok I){L:List bf}(bj:cZ I bX L.length IX 2 32 (L.flatMap bf.cells))(ca:∀ t∈L,t.ok I/\right t=true)(aE:(L.map (·.n)).sum<=1099511627776)(ay:L.length<=1099511627776)(aC:fits d L.length=true) :
  Spec Tryz.prog 187 [d.val,.slice bX L.length IX] I [] λv I' M'=>(∀ b o,I b=some o->I' b=some o) /\
   ∃ (os b3:aO) (gh:List ak) (bO:ak),v=.tuple #[.agg #[os.val,.int .i64 ((gh.length:Nat):Int)],.bool true]/\os.n=gh.length+1/\os.n<=1099511627777/\os.ok 9 ((gh++[bO]).flatMap ak.cells)/\M'=os.aq 88++(b3.aq 3++[])/\(∀ x∈gh,x.ok I') /\
    b3.ok 1 (bO.ao.map (.int .i64 ·))/\b3.n<=1099511627776/\bO.bX=b3.a.map (λg=>(⟨g,0,none⟩:Addr))/\bO.aA=b3.n/\bO.b5=b3.c/\bO.aW=d.dJ bO.ao/\(∀ k∈bO.ao,hy k)/\(gh++[bO]).map ak.aW=sO d (L.map tP):=by
 refine bR [] aT Tryz.func187 rfl rfl rfl ?_;intro B ax;refine a9.mk [] [] _ (.refl _) (Pe bm.c aj L.length) ?_;rintro v Df N -⟨rfl,xN,rfl⟩;subst Df;refine aS.mk (λh=>absurd h (by simp[aC])) (λ_=>?_);refine c2.inv (ι:=Nat×aO×List ak×aO×List Int×aI) (λx=>{ bn:=[(2,.ref 2 0),(4,.ref 4 0),(6,.val x.2.1.val),(7,.val x.2.2.2.1.val),(16,.val (.slice bX L.length IX)),(17,.val (.int .i64 L.length)),(18,.val (.int .i64 x.1))],cl:=[(2,d.cells),(4,[.slice none 0 0,.int .i64 0])],cm:=x.2.2.2.2.2,cK:=x.2.1.aq 88++(x.2.2.2.1.aq 3++[]) }) (akq I L) (λx=>L.length-x.1) ?_ ?_
 ·exact⟨(0,gV,[],gV,[],I),⟨dh _,jt 9,jt 1,rfl,rfl,(λd aj=>t7),λ_ _ h=>h,dh _,(λk af=>aig)⟩,.refl,pJ,.cons rfl (.cons rfl (.nil))⟩
 rintro⟨i,out,gh,b3,Tq,J⟩⟨hi,nj,iV,cL,pe,bl,a6,gK,iv⟩;simp only at hi nj iV cL pe bl a6 gK iv;have dA:=Yo L i;have sM:out.n=gh.length:=by have:=nj.len;rw[gz _ 9 ak.cq]at this;omega
 have axq:=iV.nX;refine aS.mk (λh=>?_) (λh=>?_)
 ·have aV:i<L.length:=by have:(i:Int)<(L.length:Int):=cv h;omega
  obtain⟨ad,bt,ac0⟩:=(bj.mono a6).row (f:=bf.cells) (λ_=>rfl) aV aV;obtain⟨Tr,pz⟩:=ca _ (bD aV);have Jg:=Tr.mono a6;have MV:=Yo L (i+1);rw[Yp L i aV]at MV;have ac1:(L.take (i+1)).map tP=(L.take i).map tP++[tP L[i]]:=by rw[gi aV,cJ];rfl
  have aqc:=Yp L i aV;generalize axr:L[i]=t at Tr pz Jg ac0 MV ac1 aqc;obtain⟨gH,fT⟩:=kh pz;obtain⟨r,dD⟩:=dZ gH;have gu:=Tr.n;refine bi.mk ad i bt rfl aV ?_;refine aJ.mk _ (ac0 _) ?_;refine a9.mk [] (out.aq 88++(b3.aq 3++[])) _ (.refl _) (o0 (bm.mono a6).c Jg) ?_;rintro v Df N -⟨rfl,xN,rfl⟩;subst Df;refine aS.mk (λh=>absurd h (by simp[pz])) (λ_=>?_);have ac2:=Tp (M0:=out.aq 88++(b3.aq 3++[])) Jg pz Z (node:=r) Z;rw[<-dD]at ac2;refine a9.whole _ ac2 ?_;rintro v iL N -⟨h1,hp,t1,rfl,tD,aw⟩;subst N;have oO:=aw;rw[dD]at oO;have hI:=Za pz (show r<t.ns.length by omega) oO;have uL:=QR pz (show r<t.ns.length by omega) oO;have dy:=Aa pz t.ns.length r Z Z;have Ts:=tD.n;have dN:tP t=t1.ns.map ak.aW:=aw.aW.symm;refine a9.whole _ (ap9 (M0:=out.aq 88++(b3.aq 3++[])) tD.a' tD.ns out.n λx ae k af=>?_) ?_;·obtain⟨q,aM,rfl⟩:=hL ae;have:=jX hI q aM k af;exact⟨Z,Z⟩
  rintro v cS N -⟨c1,Bu,Tt,rfl,ID,ac3,hp,ac4,aqd⟩;subst N;have axs:Tt.length=t1.n:=by have:=congrArg List.length ac4;rw[bA,bA]at this;omega
  refine bz.w0 aT rfl am (e:=88) rfl rfl rfl out nj rfl (sa:=Bu.a.map λg=>⟨g,0,none⟩) (m:=Bu.n) (c':=Bu.c) (cb:=Tt.flatMap ak.cells) rfl ac3.len (λax=>aO.ap8 ac3 (λz bg=>iy _ bg) ax) (Jb ak.one _) (Bu.aq 88) (b3.aq 3++[]) rfl Z (by show(out.n+Bu.n)*96<=_;omega) ?_;intro nx To axt h9;refine a3.mk ((nx.n:Int)-1) (by show IntKind.i64.wrap ((nx.n:Int)-1)=_;rw[wrap_i64 ⟨Z,Z⟩]) ?_;refine bN.mk λgW Fg al0=>?_;refine bz.lh aT rfl am (e:=3) rfl rfl rfl b3 iV rfl (cs:=[.int .i64 ((nx.n:Int)-1)]) rfl rfl rfl (Bu.aq 88++nx.aq 88) [] (by rw[ej];rfl) Z (by show(b3.n+1)*8<=_;omega) ?_;intro aqe FK axu aqf;refine a3.mk _ (cC (i:=i) Z) ?_;have aqg:(tP t).length=t1.n:=by rw[dN,bA];exact Ts
  refine⟨(i+1,nx,gh++Tt,aqe,Tq++[(nx.n:Int)-1],cS),⟨⟨aV,?_,?_,ST,?_,λx ae=>?_,λb o h=>c1 _ _ (h1 _ _ (a6 _ _ h)),?_,λk af=>?_⟩,ce⟩,.sub (by rw[ej];exact m4 _ _) .refl,pJ,.cons rfl (.cons rfl (.nil))⟩;·simp only;rw[fL];exact h9
  ·simp only;rw[cJ];exact aqf
  ·simp only;rw[ac1,sL,pe,kw,Ez];show(gh.map ak.aW++(tP t).map (λx=>x.dJ (x.ao.map λk=>((gh.map ak.aW).length:Int)+k)),Tq++[(((gh.map ak.aW).length+(tP t).length:Nat):Int)-1])=_;rw[cJ,ac4,bA,aqg,dN,<-acZ,<-sM,aqa];congr 3;omega
  ·rcases cW.1 ae with ae | ae
   ·exact(bl x ae).mono λb o h=>c1 _ _ (h1 _ _ h)
   ·exact aqd x ae
  ·simp only[ct];omega
  ·simp only at af |-;rcases cW.1 af with af | af
   ·have:=iv k af;omega
   ·rw[ep]at af;omega
 have cM:i=L.length:=by have:¬ (i:Int)<(L.length:Int):=db h;omega
 subst cM;rw[fE (cf _)]at pe gK iv;refine bN.mk λaxv axw axx=>?_;refine bz.lh aT rfl am (e:=88) rfl rfl rfl out nj rfl (cs:=[.int .u8 d.k,.int .u64 d.b0,.int .u64 d.s1,.int .u64 d.s2,.int .u64 d.cg,.string d.t,.int .i64 d.lo,.int .i64 d.hi,b3.val]) rfl rfl rfl [] (b3.aq 3++[]) rfl Z ww ?_;intro os AM ac5 aqh;refine a3.mk ((gh.length:Nat):Int) (by show IntKind.i64.wrap ((os.n:Int)-1)=_;rw[wrap_i64 ⟨Z,Z⟩];omega) ?_;refine⟨_,_,.refl,a6,os,b3,gh,⟨d.k,d.b0,d.s1,d.s2,d.cg,d.t,d.lo,d.hi,b3.a.map λg=>⟨g,0,none⟩,b3.n,b3.c,Tq⟩,rfl,Z,Z,?_,rfl,bl,iV,Z,rfl,rfl,rfl,rfl,λk af=>?_,?_⟩
 ·rw[fL];exact aqh
 ·have:=iv k af;exact⟨Z,Z⟩
 ·rw[sO,pe,cJ];rfl
def aqi(bm:fr I aB){d:ak}(aj:d.ok I){L:List bf}(bj:cZ I bX L.length IX 2 32 (L.flatMap bf.cells))(ca:∀ t∈L,t.ok I/\right t=true)(aE:(L.map (·.n)).sum<=1099511627776)(ay:L.length<=1099511627776)(aC:fits d L.length=true) :
  Spec Tryz.prog 187 [d.val,.slice bX L.length IX] I M0 λv I' M'=>(∀ b o,I b=some o->I' b=some o)/\M'=M0 /\
   ∃ be:bf,v=.tuple #[be.val,.bool true]/\be.ok I'/\be.bp=(be.ns.length:Int)-1/\be.ns.map ak.aW=sO d (L.map tP):=by
 refine Spec.jy (Spec.frame (Spec.iI (aqb bm aj bj ca aE ay aC))) ?_;rintro v J M⟨M',rfl,-,a6,rfl,-,I',M1,⟨aa,os,b3,gh,bO,rfl,gK,Md,bV,rfl,bl,iV,iv,aN,bc,cy,dX,ot,dI⟩,bC⟩;have eL:=aO.iI (b:=8) bC iV (λz bg=>sf _ (iy _ bg)) Z;have f:∀ {α:Type} (p:ak->α),p bO.aW=p (d.dJ bO.ao):=λp=>by rw[dX]
 refine⟨a6,rfl,⟨gh++[bO],os.a.map λg=>⟨g,0,none⟩,os.n,os.c,(gh.length:Nat)⟩,rfl,⟨aO.iI bC bV (λz bg=>iy _ bg) Z,λx ae=>?_,⟨ce,ce⟩⟩,am,dI⟩;rcases cW.1 ae with ae | ae
 ·exact(bl x ae).mono bC.le
 ·rw[ep]at ae;subst ae;have ug:=aj.mono a6;refine⟨?_,?_,?_,?_,?_,?_,?_,?_,by rw[aN,bc,cy];exact eL,ot⟩
  ·have:x.k=d.k:=f ak.k;rw[this];exact ug.k
  ·have:x.b0=d.b0:=f ak.b0;rw[this];exact ug.b0
  ·have:x.s1=d.s1:=f ak.s1;rw[this];exact ug.s1
  ·have:x.s2=d.s2:=f ak.s2;rw[this];exact ug.s2
  ·have:x.cg=d.cg:=f ak.cg;rw[this];exact ug.cg
  ·have:x.t=d.t:=f ak.t;rw[this];exact ug.t
  ·have:x.lo=d.lo:=f ak.lo;rw[this];exact ug.lo
  ·have:x.hi=d.hi:=f ak.hi;rw[this];exact ug.hi
def Tu{A K B:List Int}(aj:hP (A++(K++B)))(ae:x∈K):kN (A++(K++B)) x=kN K x+(A.length:Int):=by have dz:x ∉ A:=λh=>(rK.1 aj).2.2 x h x (iy _ ae) rfl;unfold kN;rw[SW,bK dz,SW,bY ae];omega
def ac6{MW:List Int}{k:Int}(aj:hP (MW++[k])):kN (MW++[k]) k=(MW.length:Int):=by have dz:k ∉ MW:=λh=>(rK.1 aj).2.2 k h k (.head _) rfl;unfold kN;rw[SW,bK dz,List.idxOf_cons_self];omega
section
variable{t:bf}(ag:hg t)
include ag
theorem Tv{j:Nat}(ai:j<t.ns.length){ba post:List Int}{k:Int}(af:(nodeAt t.ns j).ao=ba++k::post):ek t.ns j=ba.flatMap (ek t.ns)++(ek t.ns k++(post.flatMap (ek t.ns)++[(j:Int)])):=by rw[ld ag ai,af,fL,iS,ej,ej]
theorem aqj{j:Nat}(ai:j<t.ns.length){ba post:List Int}{k:Int}(af:(nodeAt t.ns j).ao=ba++k::post):kN (ek t.ns j) k=((ba.flatMap (ek t.ns)).length:Int)+(ek t.ns k).length-1:=by
 have MX:k∈(nodeAt t.ns j).ao:=by rw[af];simp
 obtain⟨ax,aa⟩:=ag.node ai MX;obtain⟨q,rfl⟩:=dZ ax;have aM:q<t.ns.length:=by omega
 have aj:=HX ag j ai;rw[Tv ag ai af]at aj |-;rw[Tu aj (Y3 ag aM)];have gB:=HX ag q aM;have e:=ld ag aM;rw[e]at gB |-;rw[ac6 gB,ct,ey,hl];omega
theorem aqk{j:Nat}(ai:j<t.ns.length){ba post:List Int}{k:Int}(af:(nodeAt t.ns j).ao=ba++k::post) :
  (((tL t.ns j).drop (ba.flatMap (ek t.ns)).length).take (ek t.ns k).length).map (jQ (-((ba.flatMap (ek t.ns)).length:Int)))=tL t.ns k:=by
 have MX:k∈(nodeAt t.ns j).ao:=by rw[af];simp
 obtain⟨ax,aa⟩:=ag.node ai MX;obtain⟨q,rfl⟩:=dZ ax;have aM:q<t.ns.length:=by omega
 have aj:=HX ag j ai;have aK:=QK ag q aM;have aw:=Tv ag ai af;rw[CB ag ai,CB ag aM];rw[aw]at aj;have aN:(((ek t.ns j).map (nl t.ns (ek t.ns j))).drop (ba.flatMap (ek t.ns)).length).take (ek t.ns q).length=(ek t.ns q).map (nl t.ns (ek t.ns j)):=by rw[<-Kz,<-KA];congr 1;rw[aw,Q3,wy]
 rw[aN,gE];refine fX λb ah=>?_;show jQ _ (nl t.ns (ek t.ns j) b)=nl t.ns (ek t.ns q) b;show(nodeAt t.ns b.toNat).dJ (((nodeAt t.ns b.toNat).ao.map (kN (ek t.ns j))).map _)=(nodeAt t.ns b.toNat).dJ _;congr 1;rw[gE];refine fX λx ae=>?_;obtain⟨i,hi,rfl⟩:=hL ah;have aql:x∈ek t.ns q:=uW (aK i hi x ae);show kN (ek t.ns j) x+_=_;rw[aw,Tu aj aql];omega
end
def aqm{c:Nat}{ds:List ak}(h:cZ I a n c 9 96 (ds.flatMap ak.cells))(e5:∀ d∈ds,d.ok I)(hh:Int)(r0:∀ d∈ds,∀ k∈d.ao,hy (k+hh)) :
  Spec Tryz.prog 141 [.slice a n c,.int .i64 hh] I M0 λv I' M'=>(∀ b o,I b=some o->I' b=some o)/\M'=M0/\∃ (bT:Option Addr) (c':Nat) (L:List ak),v=.slice bT n c'/\cZ I' bT n c' 9 96 (L.flatMap ak.cells)/\L.map ak.aW=ds.map (jQ hh)/\∀ d∈L,d.ok I':=by
 refine Spec.jy (Spec.frame (Spec.iI (acU h e5 hh r0))) ?_;rintro v J M⟨M',rfl,-,a6,rfl,-,I',M1,⟨aa,os,L,rfl,rfl,bl,rfl,dI,kT⟩,bC⟩;exact⟨a6,rfl,_,_,L,rfl,aO.iI bC bl (λ_ h=>h) h.cap.2,dI,λd aj=>(kT d aj).mono bC.le⟩
def cZ.Tw{c:Nat}{f:α->List Value}(aC:∀ x,(f x).length=size){l:List α}(h:cZ I a n c size b (l.flatMap f)){lo hi:Nat}(aa:lo<=hi)(ab:hi<=n)(ay:l.length=n) :
  cZ I (if c=lo then a else a.map (·.add (lo*size))) (hi-lo) (c-lo) size b (((l.drop lo).take (hi-lo)).flatMap f):=by
 have c0:(((l.drop lo).take (hi-lo)).flatMap f).length=(hi-lo)*size:=by rw[gz f size aC,fF,oU,ay,pE Z]
 have g8:=h.cap;refine⟨c0,⟨Z,iO (oJ b (show hi-lo<=n by omega)) g8.2⟩,?_⟩;by_cases ax:hi-lo=0
 ·exact .inl ax
 ·right
  rcases h.rd with aE | ⟨ad,rfl,de,cs,T,ap,bG,an⟩;·omega
  ·have bH:¬ c=lo:=by omega
   rw[bK bH];refine⟨ad.add (lo*size),rfl,?_,cs,T,ap,?_,?_⟩;·rw[eK _ de]
   ·rw[eK _ de];exact bG
   ·rw[eK _ de];have aN:((l.drop lo).take (hi-lo)).flatMap f=((l.flatMap f).drop (lo*size)).take ((hi-lo)*size):=by
     have au:∀ (l:List α) (k:Nat),(l.take k).flatMap f=(l.flatMap f).take (k*size):=λl k=>by
      by_cases af:k<=l.length
      ·have e:l.flatMap f=(l.take k).flatMap f++(l.drop k).flatMap f:=by rw[<-fL,pO]
       have ab:((l.take k).flatMap f).length=k*size:=by rw[gz f size aC,Ly af]
       rw[e,<-ab,wy]
      ·rw[fE Z,fE (by rw[gz f size aC];exact oJ _ Z)]
     rw[au,apL f size aC]
    rw[aN,<-an,D1,D2,zC];congr 1;have:(hi-lo)*size<=n*size-lo*size:=by rw[<-Nat.sub_mul];exact oJ _ Z
    omega
structure aqn(I:aI)(t:bf)(ks:List Int)(x:Nat×aO×List bf×aI):Prop where
 i:x.1<=ks.length
 os:x.2.1.ok 2 (x.2.2.1.flatMap bf.cells)
 len:x.2.2.1.length=x.1
 le:∀ b o,I b=some o->x.2.2.2 b=some o
 all:∀ q (h:q<x.2.2.1.length),(x.2.2.1[q]).ok x.2.2.2/\lg t (ks.getD q 0) x.2.2.1[q]
def aqo(bm:fr I aB)(au:t.ok I)(ag:right t=true)(aE:t.n<=1099511627776){r:Nat}(dD:t.bp=(r:Int)) : Spec Tryz.prog 67 [t.val] I M0 λv I' M'=>(∀ b o,I b=some o->I' b=some o)/\∃ (os:aO) (L:List bf),os.ok 2 (L.flatMap bf.cells)/\v=os.val/\M'=os.aq 24++M0 /\
  L.length=(nodeAt t.ns r).ao.length/\∀ q (h:q<L.length),(L[q]).ok I'/\lg t ((nodeAt t.ns r).ao.getD q 0) L[q]:=by
 refine bR [] aT Tryz.func67 rfl rfl rfl ?_;intro B ax;have aZ:=ix.1 ag;have gu:=au.n;obtain⟨gH,fT⟩:=kh ag;have dw:r<t.ns.length:=by omega
 refine a9.whole _ (apV bm au ag aE dD) ?_;rintro v J N -⟨a6,hp,t1,rfl,tD,aw⟩;subst N;have uL:=QR ag dw aw;have dy:=Aa ag t.ns.length r dw Z;have Ts:=tD.n;have gk:=CB aZ dw;have rD:=QL aZ r dw;have FN:t1.ns.length=(ek t.ns r).length:=by have:=congrArg List.length aw.aW;rw[bA,gk,bA]at this;exact this
 have So:=ld aZ dw;have gD:0<(ek t.ns r).length:=by rw[So];simp
 obtain⟨ks,eH⟩:∃ ks,(nodeAt t.ns r).ao=ks:=⟨_,rfl⟩;have EN:(t1.ns[t1.ns.length-1]' Z).ao=ks.map (kN (ek t.ns r)):=by
  have aa:(t1.ns.map ak.aW)[t1.ns.length-1]?=some (nl t.ns (ek t.ns r) r):=by
   rw[aw.aW,gk,jJ];have:(ek t.ns r)[t1.ns.length-1]?=some (r:Int):=by rw[FN,<-Yc];exact Y4 aZ dw
   rw[this];rfl
  rw[jJ,du Z]at aa;have ab:(t1.ns[t1.ns.length-1]' Z).aW.ao=(nl t.ns (ek t.ns r) r).ao:=congrArg ak.ao (eX aa);rw[<-eH];exact ab
 refine aS.mk (λh=>?_) (λ_=>?_)
 ·have:(t1.n:Int)=0:=cv h;omega
 have pS:t1.bp=((t1.ns.length-1:Nat):Int):=by rw[aw.bp];omega
 obtain⟨k8,k9,hv⟩:=tD.a'.row ak.cq (show t1.ns.length-1<t1.n by omega) (show t1.ns.length-1<t1.ns.length by omega);have h0:=tD.ns _ (bD (show t1.ns.length-1<t1.ns.length by omega));generalize t1.ns[t1.ns.length-1]' Z=d at EN hv h0;have eF:=h0.aA;have cL:ks.length=d.aA:=by have:=congrArg List.length EN;rw[bA]at this;omega
 have mL:=h0.a'.cap;have iv:ks.length<=t.ns.length:=by
  have aN:=z' ag dw;have bc:t.ns[r].ao=ks:=by rw[<-eH,fw dw]
  have cy:ks.length<=fC (iF t.ns) ks:=Cq ag λk af=>by have:=aZ.node dw (k:=k) (by rw[eH];exact af);omega
  rw[bc]at aN;omega
 refine bi.mk k8 (t1.ns.length-1) k9 pS Z ?_;refine aJ.mk _ ((hv _).part (k:=8) (m:=1) bv) ?_;refine c2.inv (ι:=Nat×aO×List bf×aI) (λx=>{ bn:=[(1,.ref 1 0),(3,.val x.2.1.val),(4,.val (.int .i64 ((ks.take x.1).flatMap (ek t.ns)).length)),(19,.val (.slice d.bX d.aA d.b5)),(20,.val (.int .i64 d.aA)),(21,.val (.int .i64 x.1))],cl:=[(1,t1.cells)],cm:=x.2.2.2,cK:=x.2.1.aq 24++M0 }) (λx=>aqn J t ks x) (λx=>ks.length-x.1) ?_ ?_
 ·exact⟨(0,gV,[],J),⟨dh _,jt 2,rfl,λ_ _ h=>h,λq h=>absurd h (mO _)⟩,.refl,uF,.cons rfl (.nil)⟩
 rintro⟨i,os,wJ,cS⟩⟨hi,bV,yL,c1,eG⟩;simp only at hi bV yL c1 eG;have AM:os.n=i:=by have:=bV.len;rw[gz _ 2 (λ_=>rfl),yL]at this;omega
 refine aS.mk (λh=>?_) (λh=>?_)
 rotate_left
 ·have cM:i=d.aA:=by have:¬ (i:Int)<(d.aA:Int):=db h;omega
  exact⟨_,_,.refl,λb o h=>c1 _ _ (a6 _ _ h),os,wJ,bV,rfl,rfl,by rw[eH];omega,by rw[eH];exact eG⟩
 have aV:i<d.aA:=by have:(i:Int)<(d.aA:Int):=cv h;omega
 have yW:i<ks.length:=by omega
 have Tx:(nodeAt t.ns r).ao=ks.take i++ks[i]::ks.drop (i+1):=by rw[eH,<-e9 yW,pO]
 have Jh:=aqj aZ dw Tx;have FO:=aqk aZ dw Tx;have jD:ks[i]∈(nodeAt t.ns r).ao:=by rw[eH];exact bD yW
 have aqp:=aZ.node dw jD;have kB:0<(ek t.ns ks[i]).length:=by obtain⟨q,aM⟩:=dZ aqp.1;have:=ld aZ (j:=q) Z;rw[aM,this];simp
 have ac7:((ks.take i).flatMap (ek t.ns)).length+(ek t.ns ks[i]).length<=t1.n:=by have:=congrArg List.length (Tv aZ dw Tx);simp only[ct,ey,hl]at this;omega
 have ot:(ks.map (kN (ek t.ns r)))[i]'(by rw[bA];exact yW)=((ks.take i).flatMap (ek t.ns)).length+(ek t.ns ks[i]).length-1:=by rw[gl];exact Jh
 obtain⟨fq,eN,eL⟩:=(h0.mono c1).a'.one aV (show i<d.ao.length by omega);have aqq:d.ao[i]' Z=(((ks.take i).flatMap (ek t.ns)).length:Int)+(ek t.ns ks[i]).length-1:=by simp only[EN];exact ot
 rw[aqq]at eL;have Ty:((ks.take (i+1)).flatMap (ek t.ns)).length=((ks.take i).flatMap (ek t.ns)).length+(ek t.ns ks[i]).length:=by rw[gi yW,fL,ct];simp
 have aqr:ks.getD i 0=ks[i]:=by simp[bP,yW]
 have Tz:=tD.mono c1;generalize((ks.take i).flatMap (ek t.ns)).length=A at FO ac7 eL Ty;generalize axy:(ek t.ns ks[i]).length=qd at FO ac7 eL Ty kB;have dM:=cZ.Tw ak.cq Tz.a' (lo:=A) (hi:=A+qd) Z Z Ts;have hI:=Za ag dw aw;refine bi.mk fq i eN rfl aV ?_;refine aJ.mk _ (eL _) ?_;refine a3.mk ((A+qd:Nat):Int) gc ?_;refine j7.mk A (A+qd) rfl rfl Z (by have:=Tz.a'.cap.1;omega) ?_;refine a3.mk (-(A:Int)) (by first | exact wrap_i64 ⟨Z,Z⟩ | (rw[wrap_i64 ⟨Z,Z⟩];omega)) ?_;refine a9.whole _ (aqm (M0:=os.aq 24++M0) dM (λx ae=>Tz.ns x (Fz (uW ae))) (-(A:Int)) λx ae k af=>?_) ?_
 ·obtain⟨q,aM,rfl⟩:=hL (Fz (uW ae));have:=jX hI q aM k af;exact⟨Z,Z⟩
 rintro v mj N -⟨oz,hp,bT,c',MY,rfl,ac8,aqs,aqt⟩;subst N;have aqu:MY.length=qd:=by have:=ac8.len;rw[gz _ 9 ak.cq]at this;omega
 refine a3.mk ((qd:Int)-1) gc ?_;refine bN.mk λaxz axA axB=>?_;refine bz.lh aT rfl am (e:=24) rfl rfl rfl os bV rfl (cs:=[.slice bT (A+qd-A) c',.int .i64 ((qd:Int)-1)]) rfl rfl rfl [] M0 rfl Z (by show(os.n+1)*32<=_;omega) ?_;intro hD kQ gq h9;refine a3.mk ((A+qd:Nat):Int) gc ?_;refine a3.mk _ (cC (i:=i) Z) ?_;have e3:bf.ok mj ⟨MY,bT,A+qd-A,c',(qd:Int)-1⟩:=⟨ac8,aqt,⟨ce,ce⟩⟩;have iD:lg t ks[i] ⟨MY,bT,A+qd-A,c',(qd:Int)-1⟩:=by refine⟨?_,by simp only[aqu]⟩;simp only;rw[aqs,<-FO,<-acZ,KA,Kz,aw.aW,show A+qd-A=qd by omega]
 refine⟨(i+1,hD,wJ++[⟨MY,bT,A+qd-A,c',(qd:Int)-1⟩],mj),⟨⟨yW,?_,by simp[yL],λb o h=>oz _ _ (c1 _ _ h),λq aM=>?_⟩,ce⟩,.refl,.cons .refl (.cons .refl (.cons ?_ (e2))),.cons rfl (.nil)⟩
 ·simp only;rw[fL];exact h9
 ·simp only at aM |-;by_cases e:q<wJ.length
  ·rw[wE e];exact⟨(eG q e).1.mono oz,(eG q e).2⟩
  ·have:q=i:=by simp at aM;omega
   subst this;rw[Cl Z];simp only[yL,mK,tp];rw[aqr];exact⟨e3,iD⟩
 ·simp only;rw[Ty];exact .refl
section
end
section
end
open Classical in
def ac9{ds:List a4}{i:Nat}:i∈rY ds F ↔ i<ds.length/\mR (ml ds F) i i:=by unfold rY;rw[n8,kx,decide_eq_true_iff]
def Ji:ea aB g=0 ↔ g.n≠0/\om g.ds=true/\pZ aB g=false/\(∀ i,i<g.ds.length->p' g.ds i=true)/\∀ d∈g.ds,∀ n∈d.t.ns,n.k=3->0<=eT n.t g.ds 0:=by
 rw[<-abZ];have eG:(g.ds.all λd=>d.t.ns.all (yP g.ds))=true ↔ ∀ d∈g.ds,∀ n∈d.t.ns,n.k=3->0<=eT n.t g.ds 0:=by
  simp only[fV,yP,nD,vX,pN,gN];constructor
  ·intro h d aj n aE al;rcases h d aj n aE with h | h
   ·exact absurd al h
   ·exact h
  ·intro h d aj n aE;by_cases al:n.k=3
   ·exact .inr (h d aj n aE al)
   ·exact .inl al
 have aC:(List.range g.ds.length).all (p' g.ds)=true ↔ ∀ i,i<g.ds.length->p' g.ds i=true:=by simp[fV]
 rw[<-eG,<-aC];unfold MB;by_cases aa:g.n=0
 ·rw[hM Z,cD];exact⟨(λh=>ci),(λh=>absurd aa h.1)⟩
 ·rw[fb Z,cw];cases om g.ds with
  |false=>exact⟨(λh=>ci),(λh=>by cases h.2.1)⟩| true=>
  cases pZ aB g with
  |true=>exact⟨(λh=>ci),(λh=>by cases h.2.2.1)⟩| false=>
  cases(List.range g.ds.length).all (p' g.ds)with
  |false=>exact⟨(λh=>ci),(λh=>by cases h.2.2.2.1)⟩| true=>
  cases(g.ds.all λd=>d.t.ns.all (yP g.ds))with
  |false=>exact⟨(λh=>ci),(λh=>by cases h.2.2.2.2)⟩| true=>exact⟨λ_=>⟨aa,rfl,rfl,rfl,rfl⟩,λ_=>rfl⟩
def r1(ds:List a4):cR:=⟨ds,none,ds.length,0⟩
section
variable{α:Type}{z:α}{F:ak->List α->α}
def TA{f:ak->(Int->α)->α}:∀ (a b:List ak) (a7:List α),gS z f (a++b) a7=gS z f b (gS z f a a7)
 |[],b,a7=>rfl| d::a,b,a7=>by rw[pP,gS,gS,TA a b]
variable(bC:∀ d l,F (d.dJ l)=F d)
include bC
theorem ada{n:Nat}{a7:List α}(aE:a7.length=n):∀ (l:List ak) (p:List α),(∀ d∈l,∀ k∈d.ao,0<=k)->gS z (λd g=>F d (d.ao.map g)) (l.map λx=>x.dJ (x.ao.map λk=>(n:Int)+k)) (a7++p)=a7++gS z (λd g=>F d (d.ao.map g)) l p
 |[],p,_=>rfl
 |d::l,p,h=>by
  have e:F (d.dJ (d.ao.map λk=>(n:Int)+k)) ((d.ao.map λk=>(n:Int)+k).map λk=>(a7++p).getD k.toNat z)=F d (d.ao.map λk=>p.getD k.toNat z):=by rw[bC,gE];congr 1;refine fX λk af=>?_;have ax:=h d (.head _) k af;show(a7++p).getD ((n:Int)+k).toNat z=_;rw[bP,l4 Z,bP];congr 2;omega
  rw[ch,gS,gS];show gS z _ _ (a7++p++[F (d.dJ (d.ao.map λk=>(n:Int)+k)) ((d.ao.map λk=>(n:Int)+k).map λk=>(a7++p).getD k.toNat z)])=_;rw[e,ej];exact ada aE l _ λx ae=>h x (.tail _ ae)
def AU(z:α)(F:ak->List α->α)(l:List ak):α:=mH z (λd g=>F d (d.ao.map g)) l ((l.length:Int)-1)
theorem adb:∀ (fZ:List (List ak)) (a2:List ak×List Int) (vs:List α),(∀ l∈fZ,0<l.length/\∀ d∈l,∀ k∈d.ao,0<=k) -> (a2.2.map λk=>(gS z (λd g=>F d (d.ao.map g)) a2.1 []).getD k.toNat z)=vs->(∀ k∈a2.2,0<=k/\k<a2.1.length) -> ((fZ.foldl ju a2).2.map λk=>(gS z (λd g=>F d (d.ao.map g)) (fZ.foldl ju a2).1 []).getD k.toNat z)=vs++fZ.map (AU z F)
 |[],a2,vs,_,h,_=>by simpa using h
 |l::fZ,a2,vs,ay,h,af=>by
  obtain⟨Br,lD⟩:=ay l (.head _);have c0:(gS z (λd g=>F d (d.ao.map g)) a2.1 []).length=a2.1.length:=by rw[Ph];simp
  have bm:gS z (λd g=>F d (d.ao.map g)) (ju a2 l).1 []=gS z (λd g=>F d (d.ao.map g)) a2.1 []++gS z (λd g=>F d (d.ao.map g)) l []:=by show gS z _ (a2.1++l.map λx=>x.dJ (x.ao.map λk=>(a2.1.length:Int)+k)) []=_;rw[TA];have:=ada bC (z:=z) c0 l [] lD;rwa [dE]at this
  rw[kw];have:=adb fZ (ju a2 l) (vs++[AU z F l]) (λx ae=>ay x (.tail _ ae)) ?_ ?_;·rw[this,ch,ej];rfl
  ·rw[bm];show(a2.2++[((a2.1.length+l.length:Nat):Int)-1]).map _=_;rw[cJ,<-h,ch,hd];congr 1
   ·refine fX λk hQ=>?_;have:=af k hQ;rw[bP,sv (by rw[c0];omega),bP]
   ·congr 1;rw[bP,l4 (by rw[c0];omega),c0];unfold AU mH;rw[bP];congr 2;omega
  ·intro k hQ;rcases cW.1 (show k∈a2.2++[((a2.1.length+l.length:Nat):Int)-1]from hQ)with hQ | hQ
   ·have:=af k hQ;show 0<=k/\k<((a2.1++l.map λx=>x.dJ (x.ao.map λk=>(a2.1.length:Int)+k)).length:Nat);rw[ct];omega
   ·rw[ep]at hQ;show 0<=k/\k<((a2.1++l.map λx=>x.dJ (x.ao.map λk=>(a2.1.length:Int)+k)).length:Nat);rw[ct,bA];omega
theorem aqv{d:ak}(ay:∀ l∈fZ,0<l.length/\∀ d∈l,∀ k∈d.ao,0<=k):AU z F (sO d fZ)=F d (fZ.map (AU z F)):=by
 have h:=adb bC (z:=z) fZ ([],[]) [] ay rfl (λk af=>aig);rw[hW]at h;have c0:(gS z (λd g=>F d (d.ao.map g)) (fZ.foldl ju ([],[])).1 []).length=(fZ.foldl ju ([],[])).1.length:=by rw[Ph];simp
 unfold AU mH sO;rw[TA,gS,gS];show(_++[F (d.dJ (fZ.foldl ju ([],[])).2) ((fZ.foldl ju ([],[])).2.map λk=>(gS z (λd g=>F d (d.ao.map g)) (fZ.foldl ju ([],[])).1 []).getD k.toNat z)]).getD _ z=_;rw[h,bC,bP,l4 (by rw[c0];simp)];have dC:((((fZ.foldl ju ([],[])).1++[d.dJ (fZ.foldl ju ([],[])).2]).length:Int)-1).toNat-(gS z (λd g=>F d (d.ao.map g)) (fZ.foldl ju ([],[])).1 []).length=0:=by rw[c0];simp
 rw[dC];rfl
end
def ade{α:Type}(z:α)(F:ak->List α->α)(t:bf):α:=mH z (λd g=>F d (d.ao.map g)) t.ns t.bp
def TB(d:ak)(l:List Int)(n:Int):fits (d.dJ l) n=fits d n:=rfl
structure AV(a2:List ak×List Int):Prop where
 fits:∀ d∈a2.1,fits d d.ao.length=true
 ao:∀ j (h:j<a2.1.length),∀ k∈a2.1[j].ao,0<=k/\k<j
 diff:hP (eI a2.1)
 all:∀ j:Nat,j<a2.1.length->((j:Int)∈eI a2.1 ↔ (j:Int) ∉ a2.2)
 b3:hP a2.2
 Jj:∀ k∈a2.2,0<=k/\k<a2.1.length
def MZ{l:List ak}(h:∀ j (h:j<l.length),∀ k∈l[j].ao,0<=k/\k<j):∀ k∈eI l,0<=k/\k<l.length:=λk af=>by obtain⟨d,aj,iV⟩:=hB.1 af;obtain⟨j,ai,rfl⟩:=hL aj;have:=h j ai k iV;omega
def aqw(n:Int)(l:List ak):eI (l.map λx=>x.dJ (x.ao.map λk=>n+k))=(eI l).map λk=>n+k:=by unfold eI;rw[yj,AN];rfl
def AV.step{a2:List ak×List Int}(h:AV a2){l:List ak}(ay:hg (jM l)):AV (ju a2 l):=by
 have pS:=ay.bp;have lD:=MZ (l:=l) ay.ao;have Cu:=MZ h.ao;have eG:eI (ju a2 l).1=eI a2.1++(eI l).map λk=>(a2.1.length:Int)+k:=by show eI (a2.1++_)=_;rw[<-aqw];unfold eI;rw[fL]
 have c0:(ju a2 l).1.length=a2.1.length+l.length:=by show(a2.1++_).length=_;rw[ct,bA]
 have iV:(ju a2 l).2=a2.2++[((a2.1.length+l.length:Nat):Int)-1]:=rfl;have rl:(jM l).bp=(l.length:Int)-1:=rfl;have sy:(jM l).ns=l:=rfl;rw[rl,sy]at pS;refine⟨λd aj=>?_,λj ai k af=>?_,?_,λj ai=>?_,?_,λk af=>?_⟩
 ·rcases cW.1 (show d∈a2.1++l.map (λx=>x.dJ (x.ao.map λk=>(a2.1.length:Int)+k))from aj)with aj | aj
  ·exact h.fits d aj
  ·obtain⟨x,ae,rfl⟩:=c6.1 aj;obtain⟨j,ai,rfl⟩:=hL ae;have:=ay.fits j ai;rw[TB];show Go.V.fits l[j] (((l[j].ao.map λk=>(a2.1.length:Int)+k).length:Nat):Int)=true;rw[bA];exact this
 ·have ai:j<(a2.1++l.map (λx=>x.dJ (x.ao.map λk=>(a2.1.length:Int)+k))).length:=ai;have hQ:k∈((a2.1++l.map (λx=>x.dJ (x.ao.map λk=>(a2.1.length:Int)+k)))[j]'ai).ao:=af;have ny:j<a2.1.length+l.length:=by rw[<-c0];exact ai
  by_cases fY:j<a2.1.length;·rw[wE fY]at hQ;exact h.ao j fY k hQ
  ·rw[Cl Z,gl]at hQ;obtain⟨q,aM,rfl⟩:=c6.1 (show k∈(l[j-a2.1.length]' Z).ao.map (λk=>(a2.1.length:Int)+k)from hQ);have:=ay.ao (j-a2.1.length) (by show _<l.length;omega) q aM;omega
 ·rw[eG];refine rK.2 ⟨h.diff,Cp.2 ((show hP (eI l)from ay.diff).imp λbH e=>bH Z),λx ae y aF e=>?_⟩;obtain⟨q,aM,rfl⟩:=c6.1 aF;have aa:=Cu x ae;have ab:=lD q aM;omega
 ·rw[eG,iV,cW,cW,ep,c6];rw[c0]at ai;by_cases fY:j<a2.1.length
  ·have a8:=h.all j fY;constructor
   ·rintro(aa | ⟨q,aM,e⟩)
    ·rintro(ab | ab)
     ·exact a8.1 aa ab
     ·omega
    ·have:=lD q aM;omega
   ·intro aa;exact .inl (a8.2 λab=>aa (.inl ab))
  ·have a8:=ay.all (j-a2.1.length) (by show _<l.length;omega);rw[rl,sy]at a8;constructor
   ·rintro(aa | ⟨q,aM,e⟩)
    ·have:=Cu _ aa;omega
    ·rintro(ab | ab)
     ·have:=h.Jj _ ab;omega
     ·have bc:q=((j-a2.1.length:Nat):Int):=by omega
      rw[bc]at aM;exact a8.1 aM Z
   ·intro aa;refine .inr ⟨((j-a2.1.length:Nat):Int),a8.2 λe=>aa (.inr Z),Z⟩
 ·rw[iV];refine rK.2 ⟨h.b3,am,λx ae y aF e=>?_⟩;rw[ep]at aF;have:=h.Jj x ae;omega
 ·rw[iV]at af;rw[c0];rcases cW.1 af with af | af
  ·have:=h.Jj k af;omega
  ·rw[ep]at af;omega
def AV.adf:∀ (fZ:List (List ak)) (a2:List ak×List Int),AV a2->(∀ l∈fZ,hg (jM l))->AV (fZ.foldl ju a2)/\(fZ.foldl ju a2).2.length=a2.2.length+fZ.length
 |[],a2,h,_=>⟨h,rfl⟩| l::fZ,a2,h,ay=>by obtain⟨aa,ab⟩:=AV.adf fZ (ju a2 l) (h.step (ay l (.head _))) λx ae=>ay x (.tail _ ae);refine⟨aa,?_⟩;rw[kw,ab];show(a2.2++[_]).length+_=_;simp;omega
def aqx{d:ak}(ay:∀ l∈fZ,hg (jM l))(aC:fits d fZ.length=true):hg (jM (sO d fZ)):=by
 obtain⟨h,cL⟩:=AV.adf fZ ([],[]) ⟨(λd aj=>t7),(λj h=>absurd h (mO _)),.nil,(λj h=>absurd h (mO _)),.nil,(λk af=>aig)⟩ ay;have Cu:=MZ h.ao;unfold sO;generalize fZ.foldl ju ([],[])=a2 at h cL Cu;have eG:eI (a2.1++[d.dJ a2.2])=eI a2.1++a2.2:=by unfold eI;rw[fL];simp[ak.dJ]
 have c0:(a2.1++[d.dJ a2.2]).length=a2.1.length+1:=by simp
 refine⟨?_,λj ai=>?_,λj ai k af=>?_,?_,λj ai=>?_⟩
 ·show 0<=(((a2.1++[d.dJ a2.2]).length:Nat):Int)-1/\(((a2.1++[d.dJ a2.2]).length:Nat):Int)-1<((a2.1++[d.dJ a2.2]).length:Nat);omega
 ·have ai:j<(a2.1++[d.dJ a2.2]).length:=ai;show fits ((a2.1++[d.dJ a2.2])[j]'ai) ((((a2.1++[d.dJ a2.2])[j]'ai).ao.length:Nat):Int)=true;rcases cW.1 (bD ai)with hm | hm
  ·exact h.fits _ hm
  ·rw[ep.1 hm,TB];show fits d (a2.2.length:Nat)=true;rw[cL];simpa using aC
 ·have ai:j<(a2.1++[d.dJ a2.2]).length:=ai;have af:k∈((a2.1++[d.dJ a2.2])[j]'ai).ao:=af;by_cases fY:j<a2.1.length
  ·rw[wE fY]at af;exact h.ao j fY k af
  ·have jT:j<(a2.1++[d.dJ a2.2]).length:=ai;have e:j=a2.1.length:=by omega
   subst e;rw[Cl Z]at af;have af:k∈a2.2:=by simpa[ak.dJ]using af
   have:=h.Jj k af;omega
 ·show hP (eI (a2.1++[d.dJ a2.2]));rw[eG];refine rK.2 ⟨h.diff,h.b3,λx ae y aF e=>?_⟩;subst e;have aa:=Cu x ae;obtain⟨q,rfl⟩:=dZ aa.1;exact(h.all q Z).1 ae aF
 ·show(j:Int)∈eI (a2.1++[d.dJ a2.2]) ↔ (j:Int)≠(((a2.1++[d.dJ a2.2]).length:Nat):Int)-1;have ai:j<(a2.1++[d.dJ a2.2]).length:=ai;rw[eG,cW,c0];by_cases fY:j<a2.1.length
  ·have a8:=h.all j fY;constructor
   ·intro _;omega
   ·intro _;by_cases hm:(j:Int)∈a2.2
    ·exact .inr hm
    ·exact .inl (a8.2 hm)
  ·constructor
   ·rintro(aa | aa)
    ·have:=Cu _ aa;omega
    ·have:=h.Jj _ aa;omega
   ·intro bH;omega
def adg:∀ (fZ:List (List ak)) (a2:List ak×List Int),(fZ.foldl ju a2).1.length=a2.1.length+(fZ.map List.length).sum
 |[],a2=>by simp
 |l::fZ,a2=>by rw[kw,adg fZ];show(a2.1++_).length+_=_;rw[ct,bA,ch,hx];omega
def aqy(d:ak)(fZ:List (List ak)):(sO d fZ).length=(fZ.map List.length).sum+1:=by unfold sO;rw[ct,adg];simp
def M2{α:Type}{f g:α->Nat}:∀ {l:List α},(∀ x∈l,f x<=g x)->(l.map f).sum<=(l.map g).sum
 |[],_=>cf _| x::l,h=>by have aa:=h x (.head _);have ab:=M2 (l:=l) λy aF=>h y (.tail _ aF);simp only[ch,hx];omega
def adh{x:Nat}:∀ {l:List Nat},x∈l->x<=l.sum
 |y::l,h=>by
  rw[hx];rcases ez.1 h with rfl | h;·omega
  ·have:=adh h;omega
abbrev xq:=(a0×List Nat)×Bool
def aqz:xq:=((cn,[]),false)
def uh(pl:List (ByteArray×Int))(F:List a0)(t:bf):xq:=ade aqz (hZ pl F) t
def adi(pl:List (ByteArray×Int))(F:List a0)(t:bf):uh pl F t=px pl F t.ns t.bp:=rfl
def aqA{pl:List (ByteArray×Int)}(ag:right t=true):(uh pl F t).1.1=(eD pl F t.ns []).getD t.bp.toNat cn:=by obtain⟨gH,fT⟩:=kh ag;obtain⟨r,dD⟩:=dZ gH;rw[adi,dD,MH ag (r+1) r Z Z,QT]
theorem aqB{a b:Bool}(h:(a||b)=true):a=true\/b=true:=by cases a<;>simp_all
end Go.V
