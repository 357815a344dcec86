/- Part 9 of what the proofs of this seat share: the executor, data in memory, walks.
-/
import Derived.Test.YtjambecdkaahmaaGreatDoorK8
import Derived.Test.YtjambecdkaahmaaGreatDoorK6
import Derived.Test.YtjambecdkaahmaaGreatDoorK4
import Derived.Test.YtjambecdkaahmaaGreatDoorK3
import Derived.Test.YtjambecdkaahmaaGreatDoorK5
set_option linter.all false
set_option maxHeartbeats 8000000
set_option maxRecDepth 100000
namespace Go.V
open Go Go.Proofs
def TX:=@List.Sublist.append
def adm:=@List.getElem_append_right
variable{I:a5}{M N M0 bi post F5 D:List aF}{aX:List Int}{os kA osF b5:bf}{l A dy L parts au lL:List (Nat×Nat)}{ds:List bD}{F:List a8}{pl:List (ByteArray×Int)}{d:bh}{xs:List (a8×List Nat)}{t:eU}{n ln NE aU b9 dA cK av z7 z:Nat}{ad:Option Addr}{m:cz}{R:List fL}{rS ua ub vk F6:aF}{rule:Int}{c:bo}{P':bm}{S:fJ}
def e1.uc{w:World}(h:e1 I M w)(aK:M.Perm N):e1 I N w:=
 ⟨h.i,λx ab=>h.m x (aK.mem_iff.2 ab),λx ab=>h.d x (aK.mem_iff.2 ab),((aK.map (·.num)).nodup_iff).1 h.aG⟩
def Kept.uc{I':a5}{M' z8:List aF}{w w':World}(h:Kept I M w I' M' w')(aK:M.Perm N)(xI:M'.Perm z8):Kept I N w I' z8 w':=
 ⟨h.le,h.vv,λx ab=>by
  rcases h.w3 x (xI.mem_iff.2 ab)with⟨y,aT,e⟩ | U;·exact .inl ⟨y,aK.mem_iff.1 aT,e⟩
  ·exact .inr U,λb ag aT=>h.dS b ag λy xb=>aT y (aK.mem_iff.1 xb),h.out,h.sz⟩
def Spec.uc{P:Program}{f:Nat}{args:List Value}{p q:Value->a5->List aF->Prop}(aK:M.Perm N)(aL:∀ v I' M',p v I' M'->∃ z8,M'.Perm z8/\q v I' z8)(h:Spec P f args I M p):Spec P f args I N q:=by
 rcases h with⟨U,aa⟩ | aa
 ·refine .inl ⟨U,λw hw=>(aa w (hw.uc aK.symm)).mono ?_⟩;rintro e w'⟨v,I',M',af,aN,bq,bp⟩;obtain⟨z8,ec,eX⟩:=aL _ _ _ aN;exact⟨v,I',z8,af,eX,bq.uc ec,bp.uc aK ec⟩
 ·refine .inr λw hw=>?_;obtain⟨v,w',I',M',af,aN,bq,bp⟩:=aa w (hw.uc aK.symm);obtain⟨z8,ec,eX⟩:=aL _ _ _ aN;exact⟨v,w',I',z8,af,eX,bq.uc ec,bp.uc aK ec⟩
def eg.loop(s:eg)(i:Nat):eg:=⟨s.n,s.m,s.w ||| l9 i⟩
def rT(pl:List (ByteArray×Int))(F:List a8)(s:eg)(i:Nat)(d:bD):eg:=
 bif pg d.t.ns (ep pl F d.t.ns [])then(s.marks i (g1 pl F d.t.ns d.t.bR).2).loop i else s.marks i (g1 pl F d.t.ns d.t.bR).2
def lp(n:Nat):eg:=⟨n,List.replicate 64 0,0⟩
def kF(pl:List (ByteArray×Int))(F:List a8):Nat->List bD->eg->eg
 |_,[],s=>s| i,d::ds,s=>kF pl F (i+1) ds (rT pl F s i d)
def rU(ds:List bD)(F:List a8):eg:=kF (bJ ds) F 0 ds (lp ds.length)
def adn(pl:List (ByteArray×Int))(F:List a8)(s:eg)(i:Nat)(d:bD):(rT pl F s i d).m.length=s.m.length:=by
 unfold rT;cases pg d.t.ns (ep pl F d.t.ns [])with
 |true=>exact eg.F4 _ s i| false=>exact eg.F4 _ s i
def ado(pl:List (ByteArray×Int))(F:List a8):∀ (l:List bD) (i:Nat) (s:eg) (d:bD),kF pl F i (l++[d]) s=rT pl F (kF pl F i l s) (i+l.length) d
 |[],i,s,d=>rfl| a::l,i,s,d=>by rw[py,kF,kF,ado pl F l];congr 1;simp;omega
def TY(pl:List (ByteArray×Int))(F:List a8):∀ (l:List bD) (i:Nat) (s:eg),(kF pl F i l s).m.length=s.m.length
 |[],i,s=>rfl| d::l,i,s=>by rw[kF,TY pl F l,adn]
def adp{b:Nat}{s:eg}(a2:ll b s∈M):cx I M ((⟨b,0,none⟩:Addr).add 65) 1 [p3 s.w]:=by rw[dY _ rfl];refine⟨rfl,_,_,_,.inr ⟨_,a2,rfl,rfl⟩,?_,rfl⟩;show(s.cells.drop (0+65)).take 1=_;rw[eg.cells,dp,IL,GZ (vi _)];rfl
def apT(s:eg)(i:Nat):bQ s.cells (0+65) [p3 (s.w ||| l9 i)]=(s.loop i).cells:=by unfold eg.cells eg.loop bQ;simp only[dp,eM,ko];rw[oL,sf (vi _),IL,M8 (by simp[vi])];simp
def NF{b:Nat}{s:eg}(a2:ll b s∈M):cx I M (⟨b,0,none⟩:Addr) 66 s.cells:=
 ⟨rfl,_,_,_,.inr ⟨_,a2,rfl,rfl⟩,by simp only[xr];exact gM (show s.cells.length<=66 by rw[eg.dc];exact b2 _),eg.dc s⟩
def apU(bO:gu I aX){g:cA}(aB:g.ok I)(vj:∀ d∈g.ds,Bz d.t)(mK:e9 aX g=0->g.n<=64):Spec Tryz.prog 98 [g.val] I [] λv I' M'=>(∀ b o,I b=some o->I' b=some o)/\M'=[] /\
  ((e9 aX g≠0/\v=.tuple #[(lp 0).val,.int .i64 (e9 aX g)])\/(e9 aX g=0/\∃ F,rs g.ds F/\v=.tuple #[(rU g.ds F).val,.int .i64 0])):=by
 refine bY [1,2,6,7] aV Tryz.func98 rfl rfl rfl ?_;intro B ay;have gC:=aB.n;have iH:=aB.bj.cap;refine cy.mk λb1 jN Yz=>?_;refine cy.mk λch gy ahO=>?_;refine aw.mk [.slice g.a g.n g.c] (dt (cs:=[.slice g.a g.n g.c]) (k:=0) (n:=1) (.tail _ (.head _)) (by simp)) ?_;refine a9.mk [] [ll ch (lp 0),⟨b1,.cells #[.slice g.a g.n g.c] 24 (0,0)⟩] _ (.refl _) (ajn bO aB) ?_;rintro v cW N -⟨b4,⟨hm,rfl,rfl⟩|⟨hm,mC,F,rfl,rfl,cB⟩⟩
 ·refine aM.mk (λ_=>?_) (λh=>absurd h (by simp[hm]));refine cc.av [] _ _ _ rfl rfl rfl rfl (lp 0).cells rfl ?_;refine aw.mk _ (NF (.head _)) ?_;exact⟨_,_,.sub (eN _) .refl,b4,rfl,.inl ⟨hm,rfl⟩⟩
 refine aM.mk (λh=>absurd h (by simp)) (λ_=>?_);have a2:=LK gC hm;have adq:F.length=g.n:=by rw[cB.len,gC]
 have apV:=mK hm;refine aw.mk [.slice g.a g.n g.c] (dt (cs:=[.slice g.a g.n g.c]) (k:=0) (n:=1) (.tail _ (.tail _ (.head _))) (by simp)) ?_;refine cy.mk λb6 K4 Xh=>?_;refine cc.av [] _ _ _ rfl rfl rfl rfl (lp g.n).cells rfl ?_;refine aw.mk [.slice g.a g.n g.c] (dt (cs:=[.slice g.a g.n g.c]) (k:=0) (n:=1) (.tail _ (.tail _ (.tail _ (.head _)))) (by simp)) ?_;refine ea.inv (ι:=Nat×a5) (λx=>{ bK:=[(1,.val (ptr b1)),(2,.val (ptr ch)),(4,.val (.slice (some ⟨mC,0,none⟩) g.n g.n)),(6,.val (ptr b6)),(25,.val (.slice g.a g.n g.c)),(26,.val (.int .i64 g.n)),(27,.val (.int .i64 x.1))],cl:=[],dz:=x.2,d':=[ll b6 (kF (bJ g.ds) F 0 (g.ds.take x.1) (lp g.n)),gh mC F,ll ch (lp 0),⟨b1,.cells #[.slice g.a g.n g.c] 24 (0,0)⟩] }) (λx=>x.1<=g.n/\∀ b o,I b=some o->x.2 b=some o) (λx=>g.n-x.1) ?_ ?_
 ·exact⟨(0,cW),⟨bF _,b4⟩,.refl,mj,.nil⟩
 rintro⟨i,J⟩⟨hi,dn⟩;simp only at hi dn;refine aM.mk (λh=>?_) (λh=>?_)
 rotate_left
 ·have cE:i=g.n:=by have:¬ (i:Int)<(g.n:Int):=cu h;omega
  refine aw.mk _ (NF (.head _)) ?_;refine cc.av [ll b6 (kF (bJ g.ds) F 0 (g.ds.take i) (lp g.n)),gh mC F] _ _ _ rfl rfl rfl rfl (kF (bJ g.ds) F 0 (g.ds.take i) (lp g.n)).cells ?_ ?_;·rfl
  refine aw.mk _ (NF (.tail _ (.tail _ (.head _)))) ?_;refine⟨_,_,.sub (eN _) .refl,dn,rfl,.inr ⟨hm,F,cB,?_⟩⟩;rw[cE,gM (l:=g.ds) (by omega),rU,gC];rfl
 have a0:i<g.n:=by have:(i:Int)<(g.n:Int):=cm h;omega
 have bZ:i<g.ds.length:=by omega
 have F7:=aB.mono dn;have apW:=bO.mono dn;obtain⟨ad,b3,br⟩:=F7.bj.row bD.dc a0 bZ;have eI:=dr bZ;have ah:=F7.ds _ eI;have al:=a2.right _ eI;have eb:=a2.named _ eI;have TW:=vj _ eI;have nf:kF (bJ g.ds) F 0 (g.ds.take (i+1)) (lp g.n)=rT (bJ g.ds) F (kF (bJ g.ds) F 0 (g.ds.take i) (lp g.n)) i g.ds[i]:=by rw[iT bZ,ado,List.length_take_of_le (by omega),dp]
 have j9:(kF (bJ g.ds) F 0 (g.ds.take i) (lp g.n)).m.length=64:=by rw[TY];rfl
 generalize g.ds[i]=d at br ah al eb TW nf;refine bl.mk ad i b3 rfl a0 ?_;refine aw.mk _ (br _) ?_;refine cy.mk λb7 QP Yy=>?_;refine cc.av [] _ _ _ rfl rfl rfl rfl [.int .i64 i] rfl ?_;refine aw.mk [.slice g.a g.n g.c] (dt (cs:=[.slice g.a g.n g.c]) (k:=0) (n:=1) (.tail _ (.tail _ (.tail _ (.tail _ (.head _))))) (by simp)) ?_;generalize auy:kF (bJ g.ds) F 0 (g.ds.take i) (lp g.n)=s at j9 nf |-;have hl:∀ {M:List aF},gh mC F∈M->oi J M (some ⟨mC,0,none⟩) g.n F:=λIw=>by have:=LJ (I:=J) Iw;rwa [adq]at this
 have adr:AZ g F d.t=some (ep (bJ g.ds) F d.t.ns []):=by rw[AZ,al,eb,dF adq];rfl
 refine a9.whole _ (ajh (lc:=g.n) apW F7 ah.t (hl (.tail _ (.tail _ (.head _))))) ?_;rintro v z9 dU -⟨wV,⟨az,-,-⟩|⟨r,cC,az,rfl,rfl⟩⟩
 ·rw[adr]at az;cases az
 rw[adr]at az;obtain rfl:=ld az;refine c0.mk (λh=>?_) (λh=>?_)
 rotate_left
 ·cases h
 refine aM.mk (λh=>absurd h (by simp)) (λ_=>?_);have sm:=Cs al;have Bq:=adl (b1:=b1) (b6:=b6) (b7:=b7) (i:=i) (xa:=some ⟨cC,0,none⟩) (xc:=d.t.n) (F:=F) (F7.mono wV) apV (ah.t.mono wV) TW al eb (by omega) (M1:=[gh cC (ep (bJ g.ds) F d.t.ns []),⟨b7,.cells #[.int .i64 i] 3 (0,0)⟩,gh mC F,ll ch (lp 0),⟨b1,.cells #[.slice g.a g.n g.c] 24 (0,0)⟩]) (.tail _ (.tail _ (.tail _ (.tail _ (.head _))))) (.tail _ (.head _)) (by
  have:=LJ (I:=z9) (M:=[gh cC (ep (bJ g.ds) F d.t.ns []),⟨b7,.cells #[.int .i64 i] 3 (0,0)⟩,gh mC F,ll ch (lp 0),⟨b1,.cells #[.slice g.a g.n g.c] 24 (0,0)⟩]) (b:=cC) (l:=ep (bJ g.ds) F d.t.ns []) (.head _);rw[HU,ah.t.n]at this;simpa using this) d.t.ns.length d.t.bR.toNat (by omega) (by omega) s j9
 rw[Aw sm.1]at Bq;have apX:=Spec.uc (q:=λv I' M'=>I'=z9/\M'=ll b6 (s.marks i (g1 (bJ g.ds) F d.t.ns d.t.bR.toNat).2)::[gh cC (ep (bJ g.ds) F d.t.ns []),⟨b7,.cells #[.int .i64 i] 3 (0,0)⟩,gh mC F,ll ch (lp 0),⟨b1,.cells #[.slice g.a g.n g.c] 24 (0,0)⟩]) (rn (a:=ll b6 s) (l₁:=[gh cC (ep (bJ g.ds) F d.t.ns []),⟨b7,.cells #[.int .i64 i] 3 (0,0)⟩]) (l₂:=[gh mC F,ll ch (lp 0),⟨b1,.cells #[.slice g.a g.n g.c] 24 (0,0)⟩])).symm (λv I' M' h=>⟨M',.refl _,h⟩) Bq;refine a9.whole _ apX ?_;rintro v BF N -⟨yx,cM⟩;subst BF;subst N;generalize g3:s.marks i (g1 (bJ g.ds) F d.t.ns d.t.bR.toNat).2=s1 at *;have auz:s1.m.length=64:=by rw[<-g3,eg.F4,j9]
 refine a9.whole _ (apM (xs:=ep (bJ g.ds) F d.t.ns []) (ah.t.mono wV) al ?_) ?_
 ·have:=LJ (I:=z9) (M:=ll b6 s1::[gh cC (ep (bJ g.ds) F d.t.ns []),⟨b7,.cells #[.int .i64 i] 3 (0,0)⟩,gh mC F,ll ch (lp 0),⟨b1,.cells #[.slice g.a g.n g.c] 24 (0,0)⟩]) (b:=cC) (l:=ep (bJ g.ds) F d.t.ns []) (.tail _ (.head _));rw[HU,ah.t.n]at this;simpa using this
 rintro v BF N -⟨aj,yx,cM⟩;subst BF;subst N;subst v;have cR:(ll b6 (rT (bJ g.ds) F s i d))=(ll b6 (bif pg d.t.ns (ep (bJ g.ds) F d.t.ns [])then s1.loop i else s1)):=by rw[rT,<-g3];rfl
 refine aM.mk (λhe=>?_) (λhe=>?_)
 rotate_left
 ·have uA:pg d.t.ns (ep (bJ g.ds) F d.t.ns [])=false:=he;refine bb.mk _ (c7 (i:=i) (by omega)) ?_;refine⟨(i+1,z9),⟨⟨a0,λb o h=>wV _ _ (dn _ _ h)⟩,by simp only;omega⟩,.sub (.cons_cons _ (.cons _ (.cons _ (.refl _)))) (.o6 ?_),mj,.nil⟩;simp only;rw[nf,cR,uA];rfl
 have uA:pg d.t.ns (ep (bJ g.ds) F d.t.ns [])=true:=he;refine cq.draw aV rfl rfl rfl ?_;refine aw.mk _ (adp (.head _)) ?_;refine aw.mk [.int .i64 i] (dt (cs:=[.int .i64 i]) (k:=0) (n:=1) (.tail _ (.tail _ (.head _))) (by simp)) ?_;refine tb.mk i rfl ?_;refine bb.mk _ (TQ (by omega)) ?_;refine cc.jO [] _ s1.cells _ rfl ?_ rfl (s1.loop i).cells ?_ ?_
 ·rw[eg.dc];rfl
 ·show bQ s1.cells (0+65) [Value.int .u64 (FN s1.w.toNat (l9 i).toNat)]=_;rw[M3];exact apT s1 i
 refine bb.mk _ (c7 (i:=i) (by omega)) ?_;refine⟨(i+1,z9),⟨⟨a0,λb o h=>wV _ _ (dn _ _ h)⟩,by simp only;omega⟩,.sub (.cons_cons _ (.cons _ (.cons _ (.refl _)))) (.o6 ?_),mj,.nil⟩;simp only;rw[nf,cR,uA];rfl
def F8(l:List Nat):List Value:=l.map λn:Nat=>Value.int .i64 n
def BG(s:eg):List Nat:=bitsOf s.w 64
open Classical in
noncomputable def yy(s:eg):List Nat:=(List.range 64).filter λi=>decide (rR s.m i i)
def apY{s:eg}{b:dM}(h:∀ i,i<64->(b.getLsbD i=true ↔ rR s.m i i)):bitsOf b 64=yy s:=by
 unfold bitsOf yy;apply Ov;intro i hi;have:=h i (by simpa using hi);by_cases aJ:rR s.m i i
 ·simp[aJ,this.2 aJ]
 ·have:b.getLsbD i=false:=by
   cases ag:b.getLsbD i with
   |false=>rfl| true=>exact absurd (this.1 ag) aJ
  simp[aJ,this]
def ads(pl:List (ByteArray×Int))(F:List a8):∀ (l:List bD) (i:Nat) (s:eg),(kF pl F i l s).n=s.n
 |[],i,s=>rfl
 |d::l,i,s=>by
  rw[kF,ads pl F l];have hm:∀ (q:List Nat) (s:eg),(s.marks i q).n=s.n:=λq=>by
   induction q with
   |nil=>exact λs=>rfl
   |cons k q be=>exact λs=>be (s.mark i k)
  unfold rT;cases pg d.t.ns (ep pl F d.t.ns [])with
  |true=>exact hm _ s| false=>exact hm _ s
def apZ(ds:List bD)(F:List a8):(rU ds F).n=ds.length:=ads _ _ _ _ _
def ap0(ds:List bD)(F:List a8):(rU ds F).m.length=64:=by rw[rU,TY];rfl
noncomputable def JB(e:Int)(s:eg):Int×Int:=
 if e≠0 then(0,e)else if 0<(yy s).length then(((yy s).headD 0:Nat),42)else if 0<(BG s).length then(((BG s).headD 0:Nat),43)else(0,0)
def bf.pos{l:List Nat}(h:os.ok 1 (F8 l)):l.length=os.n:=by have:=h.len;simpa[F8]using this
def adt{l:List Nat}{e:Nat}(h:os.ok 1 (F8 l))(aE:0<l.length)(a2:os.aO e++M0=M):∃ ad,os.a.map (λg=>(⟨g,0,none⟩:Addr))=some ad/\cx I M (ad.add (0*1)) 1 [.int .i64 (l.headD 0:Nat)]:=by
 have aK:=bf.pos h;cases aH:os.a with
 |none=>have:=(h.nil aH).1;omega
 |some b=>
  obtain⟨U,aa,af,aN⟩:=h.cap b aH;refine⟨⟨b,0,none⟩,rfl,?_⟩;subst a2;cases l with
  |nil=>simp at aE
  |cons a l=>
   cases aJ:os.aY with
   |nil=>rw[aJ]at aN;simp[F8]at aN
   |cons x xs=>
    rw[aJ]at aN;have az:os.n*1=(os.n-1)+1:=by omega
    rw[az,oL]at aN;have ab:x=.int .i64 a:=(G1 aN).1;refine⟨rfl,_,_,_,.inr ⟨⟨b,.cells os.aY.toArray e (0,0)⟩,?_,rfl,rfl⟩,?_,rfl⟩;·unfold bf.aO;rw[aH];exact .head _
    ·rw[aJ,ab];rfl
def ap1(bO:gu I aX){g:cA}(aB:g.ok I)(vj:∀ d∈g.ds,Bz d.t)(mK:e9 aX g=0->g.n<=64):Spec Tryz.prog 50 [g.val] I [] λv I' M'=>(∀ b o,I b=some o->I' b=some o)/\M'=[] /\
  ∃ r:Int×Int,v=.tuple #[.int .i64 r.1,.int .i64 r.2]/\((e9 aX g≠0/\r=(0,e9 aX g))\/(e9 aX g=0/\∃ F,rs g.ds F/\r=JB 0 (rU g.ds F))):=by
 refine bY [4] aV Tryz.func50 rfl rfl rfl ?_;intro B ay;have gC:=aB.n;refine a9.mk [] [] _ (.refl _) (apU bO aB vj mK) ?_;rintro v cW N -⟨b4,rfl,⟨hm,rfl⟩|⟨hm,F,cB,rfl⟩⟩
 ·refine cy.mk λeT Ld PV=>?_;refine cc.av [] _ _ _ rfl rfl rfl rfl (lp 0).cells rfl ?_;refine aM.mk (λh=>?_) (λh=>absurd h (by simp[hm]));exact⟨_,_,.sub (eN _) .refl,b4,rfl,(0,e9 aX g),rfl,.inl ⟨hm,rfl⟩⟩
 refine cy.mk λeT Ld PV=>?_;refine cc.av [] _ _ _ rfl rfl rfl rfl (rU g.ds F).cells rfl ?_;have nf:=apZ g.ds F;have j9:=ap0 g.ds F;have az:=mK hm;generalize ax:rU g.ds F=s at nf j9;refine aM.mk (λh=>absurd h (by simp)) (λ_=>?_);refine aw.mk _ (NF (.head _)) ?_;refine a9.whole _ (apG s ⟨j9,by omega⟩) ?_;rintro v J N -⟨rfl,rfl,b,rfl,ag⟩;refine a9.whole _ (ada b) ?_;rintro v J N -⟨rfl,os,cr,rfl,rfl⟩;have cr:os.ok 1 (F8 (yy s)):=by rw[<-apY ag];exact cr
 have aK:=bf.pos cr;refine aM.mk (λh=>?_) (λh=>?_)
 ·have bg:0<(yy s).length:=by have:(0:Int)<(os.n:Int):=cm h;omega
  obtain⟨ad,b3,br⟩:=adt (I:=J) cr bg rfl;refine bl.mk ad 0 b3 rfl (by omega) ?_;refine aw.mk _ br ?_;exact⟨_,_,.sub (eN _) .refl,b4,rfl,(((yy s).headD 0:Nat),42),rfl,.inr ⟨hm,F,cB,by rw[ax,JB,b8 (by simp),cF bg]⟩⟩
 have bg:¬ 0<(yy s).length:=by have:¬ (0:Int)<(os.n:Int):=cu h;omega
 refine aw.mk _ (adp (oI _ (.head _))) ?_;refine a9.whole _ (ada s.w) ?_;rintro v z9 N -⟨rfl,JC,NG,rfl,rfl⟩;have NG:JC.ok 1 (F8 (BG s)):=NG;have pT:=bf.pos NG;refine aM.mk (λh=>?_) (λh=>?_)
 ·have aa:0<(BG s).length:=by have:(0:Int)<(JC.n:Int):=cm h;omega
  obtain⟨ad,b3,br⟩:=adt (I:=z9) NG aa rfl;refine bl.mk ad 0 b3 rfl (by omega) ?_;refine aw.mk _ br ?_;exact⟨_,_,.sub (eN _) .refl,b4,rfl,(((BG s).headD 0:Nat),43),rfl,.inr ⟨hm,F,cB,by rw[ax,JB,b8 (by simp),b8 bg,cF aa]⟩⟩
 have aa:¬ 0<(BG s).length:=by have:¬ (0:Int)<(JC.n:Int):=cu h;omega
 exact⟨_,_,.sub (eN _) .refl,b4,rfl,(0,0),rfl,.inr ⟨hm,F,cB,by rw[ax,JB,b8 (by simp),b8 bg,b8 aa]⟩⟩
def NH(l:List Nat)(w:dM):dM:=l.foldl (λw k=>w ||| l9 k) w
def ap2(l:List Nat)(w:dM){i:Nat}(hi:i<64):(NH l w).getLsbD i=(w.getLsbD i||l.contains i):=aps l w hi
def qM(m:List dM)(i:Nat):m.set i (m.getD i 0)=m:=by
 apply Ci;intro j;rw[qi];by_cases h:i=j
 ·subst h;by_cases aE:i<m.length
  ·simp[aE,dB]
  ·simp[aE]
 ·simp[h]
def adu(i:Nat):∀ (l:List Nat) (s:eg),i<s.m.length->(s.marks i l).m=s.m.set i (NH l (s.m.getD i 0))
 |[],s,h=>(qM s.m i).symm| k::l,s,h=>by have be:=adu i l (s.mark i k) (by simpa[eg.mark]using h);show((s.mark i k).marks i l).m=_;rw[be,eg.mark];simp only;rw[KG,TR (by simpa using h)];rfl
def TZ(i:Nat):∀ (l:List Nat) (s:eg),(s.marks i l).w=s.w
 |[],s=>rfl| k::l,s=>TZ i l (s.mark i k)
def adv(pl:List (ByteArray×Int))(F:List a8)(s:eg)(i:Nat)(d:bD)(h:i<s.m.length):(rT pl F s i d).m=s.m.set i (NH (g1 pl F d.t.ns d.t.bR).2 (s.m.getD i 0)):=by
 unfold rT;rw[<-adu i _ s h];cases pg d.t.ns (ep pl F d.t.ns [])<;>rfl
def adw(pl:List (ByteArray×Int))(F:List a8)(s:eg)(i:Nat)(d:bD):(rT pl F s i d).w=bif pg d.t.ns (ep pl F d.t.ns [])then s.w ||| l9 i else s.w:=by
 unfold rT;cases pg d.t.ns (ep pl F d.t.ns [])
 ·exact TZ i _ s
 ·show(s.marks i _).w ||| l9 i=_
  rw[TZ];rfl
def T0(pl:List (ByteArray×Int))(F:List a8):∀ (l:List bD) (i:Nat) (s:eg),s.m.length=64->i+l.length<=64 -> (∀ j,j<i\/i+l.length<=j->(kF pl F i l s).m.getD j 0=s.m.getD j 0) /\ (∀ q (h:q<l.length),(kF pl F i l s).m.getD (i+q) 0=NH (g1 pl F l[q].t.ns l[q].t.bR).2 (s.m.getD (i+q) 0)) /\ (∀ j,j<64->j<i\/i+l.length<=j->(kF pl F i l s).w.getLsbD j=s.w.getLsbD j) /\ (∀ q (h:q<l.length),(kF pl F i l s).w.getLsbD (i+q)=(s.w.getLsbD (i+q)||pg l[q].t.ns (ep pl F l[q].t.ns [])))
 |[],i,s,_,_=>⟨λ_ _=>rfl,λ_ h=>absurd h (by simp),λ_ _ _=>rfl,λ_ h=>absurd h (by simp)⟩
 |d::l,i,s,ax,aE=>by
  rw[eM]at aE;obtain⟨U,aa,af,aN⟩:=T0 pl F l (i+1) (rT pl F s i d) (by rw[adn,ax]) (by omega);have hm:∀ j,j≠i->(rT pl F s i d).m.getD j 0=s.m.getD j 0:=λj an=>by rw[adv pl F s i d (by omega)];simp[dB,qi,s9 an]
  have hw:∀ j,j<64->j≠i->(rT pl F s i d).w.getLsbD j=s.w.getLsbD j:=λj an bM=>by
   rw[adw];cases pg d.t.ns (ep pl F d.t.ns []);·rfl
   ·rw[a4,A6,NB an];simp[bM]
  refine⟨λj an=>?_,λq h=>?_,λj an mo=>?_,λq h=>?_⟩;·rw[eM]at an;rw[kF,U j (by omega),hm j (by omega)]
  ·cases q with
   |zero=>rw[kF,U _ (by omega),adv pl F s i d (by omega)];rw[p',TR (by omega)];rfl| succ q=>have:=aa q (by simpa using h);rw[show i+1+q=i+(q+1) by omega]at this;rw[kF,this,hm _ (by omega)];rfl
  ·rw[eM]at mo;rw[kF,af j an (by omega),hw j an (by omega)]
  ·cases q with
   |zero=>
    rw[kF,af _ (by omega) (by omega),adw,p',y4];cases he:pg d.t.ns (ep pl F d.t.ns []);·simp
    ·rw[a4,A6,NB (by omega)];simp
   |succ q=>
    have aL:q<l.length:=by simpa using h
    have:=aN q aL;rw[show i+1+q=i+(q+1) by omega]at this;rw[kF,this,hw _ (by omega) (by omega)];rfl
def p4(ds:List bD)(F:List a8)(i:Nat):List Nat:=match ds[i]? with
 |some d=>(g1 (bJ ds) F d.t.ns d.t.bR).2| none=>[]
def JD(ds:List bD)(F:List a8)(i:Nat):Bool:=match ds[i]? with
 |some d=>pg d.t.ns (ep (bJ ds) F d.t.ns [])| none=>false
def NI(az:ds.length<=64){i k:Nat}(ae:k<64):((rU ds F).m.getD i 0).getLsbD k=(p4 ds F i).contains k:=by
 obtain⟨U,aa,-,-⟩:=T0 (bJ ds) F ds 0 (lp ds.length) (by rfl) (by omega);have ay:∀ j,(lp ds.length).m.getD j 0=0#64:=λj=>by
  simp only[lp,dB,Qf];by_cases h:j<64<;>simp[h]
 unfold p4 rU;by_cases h:i<ds.length
 ·have:=aa i h;rw[dp]at this;rw[this,ay,ap2 _ _ ae,g5 h];simp
 ·rw[U i (by omega),ay,qR (by omega)];simp
def adx(az:ds.length<=64){i:Nat}(hi:i<64):(rU ds F).w.getLsbD i=JD ds F i:=by
 obtain⟨-,-,U,aa⟩:=T0 (bJ ds) F ds 0 (lp ds.length) (by rfl) (by omega);unfold JD rU;by_cases h:i<ds.length
 ·have:=aa i h;rw[dp]at this;rw[this,g5 h];simp[lp]
 ·rw[U i hi (by omega),qR (by omega)];simp[lp]
section
end
section
end
def BH(b:Bool)(xs:List (a8×List Nat)):List Nat:=bif b then t' xs else xs.flatMap (·.2)
def ap3(b:Bool):BH b []=[]:=by cases b<;>rfl
def ap4(b:Bool)(x:a8×List Nat)(xs:List (a8×List Nat)):BH b (x::xs)=x.2++bif b && !x.1.z then []else BH b xs:=by
 cases b with
 |true=>
  cases bk:x.1.z<;>simp[BH,t',bk]
 |false=>simp[BH]
def ap5(af:¬ d.k=3)(bp:¬ (d.k=6/\d.hi=0)):mJ pl d xs=BH (decide (d.k=4)) xs:=by
 unfold mJ BH;rw[bG af,aQ];cases aN:decide (d.k=4)with
 |true=>rfl
 |false=>
  rw[aQ,aQ];by_cases a:d.k=6;·have b:¬ d.hi=0:=λe=>bp ⟨a,e⟩;rw[dF a,bG b];rfl
  ·rw[bG a];rfl
def T1(pl:List (ByteArray×Int))(F:List a8)(d:bh)(xs:List ((a8×List Nat)×Bool)):Bool:=xs.any λx=>(decide (d.k=6)&&(decide (d.hi=-1)&&x.1.1.z))||x.2
def ady(pl:List (ByteArray×Int))(F:List a8)(d:bh)(xs:List ((a8×List Nat)×Bool)):(a8×List Nat)×Bool:=(BA pl F d (xs.map (·.1)),T1 pl F d xs)
def rV(pl:List (ByteArray×Int))(F:List a8)(ns:List bh)(j:Int):(a8×List Nat)×Bool:=xA ((cb,[]),false) (λd g=>ady pl F d (d.aS.map g)) ns j
def adz{t:eH}(al:right t=true){j:Nat}(an:j<t.ns.length):rV pl F t.ns j=ady pl F t.ns[j] (t.ns[j].aS.map (rV pl F t.ns)):=
 Hf (λd g eD h=>by rw[xo h]) al an
def adA{pl:List (ByteArray×Int)}{F:List a8}{t:eH}(al:right t=true):∀ (m j:Nat),j<m->j<t.ns.length->(rV pl F t.ns j).1=g1 pl F t.ns j
 |0,j,h,_=>absurd h (Bw _)
 |m+1,j,hm,an=>by
  rw[adz al an,Nz al an];have:(t.ns[j].aS.map (rV pl F t.ns)).map (·.1)=t.ns[j].aS.map (g1 pl F t.ns):=by rw[ms];refine xo λk ae=>?_;obtain⟨U,aa⟩:=pD al j an k ae;obtain⟨q,rfl⟩:=lX U;exact adA al m q (by omega) (by omega)
  show BA pl F t.ns[j] _=_;rw[this]
def DK(ds:List bD)(F:List a8)(i:Nat):List Nat:=(List.range ds.length).filter λk=>(p4 ds F i).contains k
def NJ(ds:List bD)(F:List a8)(i:Nat):Bool:=match ds[i]? with
 |some d=>(rV (bJ ds) F d.t.ns d.t.bR).2| none=>false
def F9(ds:List bD)(F:List a8):List Nat:=(List.range ds.length).filter (NJ ds F)
inductive p5(A:Nat->List Nat):Nat->Nat->Prop
 |one{i k}(h:k∈A i):p5 A i k| step {i j k} (h:j∈A i) (t:p5 A j k):p5 A i k
def NK{t:eH}(al:right t=true){j:Nat}(an:j<t.ns.length):(rV pl F t.ns j).2=true ↔ ∃ k∈t.ns[j].aS,(t.ns[j].k=6/\t.ns[j].hi=-1/\(ep pl F t.ns []).getD k.toNat cb=(ep pl F t.ns []).getD k.toNat cb/\((ep pl F t.ns []).getD k.toNat cb).z=true)\/(rV pl F t.ns k).2=true:=by
 have mw:∀ k∈t.ns[j].aS,(rV pl F t.ns k).1.1=(ep pl F t.ns []).getD k.toNat cb:=λk ae=>by obtain⟨U,aa⟩:=pD al j an k ae;obtain⟨q,rfl⟩:=lX U;rw[adA al (q+1) q (by omega) (by omega),NA]
 rw[adz al an];show T1 pl F t.ns[j] _=true ↔ _;unfold T1;rw[M9];constructor
 ·rintro⟨x,ab,h⟩;obtain⟨k,ae,rfl⟩:=eh.1 ab;refine⟨k,ae,?_⟩;rw[mw k ae]at h;simp only[lq,ct,eY]at h;rcases h with⟨a,b,c⟩ | h
  ·exact .inl ⟨a,b,rfl,c⟩
  ·exact .inr h
 ·rintro⟨k,ae,h⟩;refine⟨_,eh.2 ⟨k,ae,rfl⟩,?_⟩;rw[mw k ae];simp only[lq,ct,eY];rcases h with⟨a,b,-,c⟩ | h
  ·exact .inl ⟨a,b,c⟩
  ·exact .inr h
def T2{pl:List (ByteArray×Int)}{F:List a8}{t:eH}(al:right t=true):∀ (m j:Nat),j<t.ns.length->t.ns.length-j<=m->(rV pl F t.ns j).2=true->(rV pl F t.ns t.bR).2=true
 |0,j,an,hm,_=>by omega
 |m+1,j,an,hm,h=>by
  by_cases e:(j:Int)=t.bR;·rw[<-e];exact h
  ·obtain⟨p,aK,ae,a0⟩:=aiP al an e;exact T2 al m p aK (by omega) ((NK al aK).2 ⟨_,ae,.inr h⟩)
def ap6{l:List Int}{k:Int}(ae:k∈l)(h:l.length=1):l.headD 0=k:=by
 match l,h with
 |[a],_=>exact(jw.1 ae).symm
def adB{pl:List (ByteArray×Int)}{F:List a8}{t:eH}(al:right t=true)(U:∀ d∈t.ns,d.k=6->d.aS.length=1):∀ (m j:Nat),j<m->∀ (an:j<t.ns.length),(rV pl F t.ns j).2=true->pg t.ns (ep pl F t.ns [])=true
 |0,j,h,_,_=>absurd h (Bw _)
 |m+1,j,hm,an,h=>by
  obtain⟨k,ae,⟨a,b,-,c⟩ | h⟩:=(NK al an).1 h;·refine M9.2 ⟨t.ns[j],dr an,?_⟩;simp only[ct,eY];refine⟨a,b,?_⟩;rw[ap6 ae (U _ (dr an) a)];exact c
  ·obtain⟨aa,af⟩:=pD al j an k ae;obtain⟨q,rfl⟩:=lX aa;exact adB al U m q (by omega) (by omega) h
def ap7{t:eH}(al:right t=true)(U:∀ d∈t.ns,d.k=6->d.aS.length=1):(rV pl F t.ns t.bR).2=pg t.ns (ep pl F t.ns []):=by
 obtain⟨z',hS⟩:=Cs al;obtain⟨r,hv⟩:=lX z';apply nZ.2;constructor
 ·intro h;rw[hv]at h;exact adB al U (r+1) r (by omega) (by omega) h
 ·intro h;obtain⟨d,ah,h⟩:=M9.1 h;obtain⟨j,an,rfl⟩:=vR ah;simp only[ct,eY]at h;obtain⟨a,b,c⟩:=h;have aE:=U _ ah a;have ae:t.ns[j].aS.headD 0∈t.ns[j].aS:=by
   match ab:t.ns[j].aS,aE with
   |[q],_=>simp
  exact T2 al t.ns.length j an (by omega) ((NK al an).2 ⟨_,ae,.inl ⟨a,b,rfl,c⟩⟩)
def adC{b:Bool}{x:Nat}:∀ {xs:List (a8×List Nat)},x∈BH b xs->∃ y∈xs,x∈y.2
 |[],h=>by rw[ap3]at h;cases h
 |y::xs,h=>by
  rw[ap4]at h;rcases dV.1 h with h | h;·exact⟨y,.head _,h⟩
  ·cases ag:b && !y.1.z with
   |true=>rw[ag]at h;cases h| false=>rw[ag]at h;obtain⟨z,bk,ab⟩:=adC (xs:=xs) h;exact⟨z,.tail _ bk,ab⟩
def T3{ds:List bD}{F:List a8}{t:eH}(al:right t=true)(eb:tH (bJ ds) t.ns=true):∀ (m j:Nat),j<m->j<t.ns.length->∀ x∈(g1 (bJ ds) F t.ns j).2,x<ds.length
 |0,j,h,_=>absurd h (Bw _)
 |m+1,j,hm,an=>by
  intro x ab;rw[Nz al an]at ab;have ab:x∈mJ (bJ ds) t.ns[j] (t.ns[j].aS.map (g1 (bJ ds) F t.ns)):=ab;have tg:=hI.1 eb _ (dr an);by_cases af:t.ns[j].k=3
  ·obtain⟨q,zx,nP,DJ⟩:=Nw (nm:=t.ns[j].t) (ds:=ds) (by simpa[af]using tg);rw[mJ,dF af,a4,DJ]at ab;have:x=q:=by simpa using ab
   omega
  by_cases bp:t.ns[j].k=6/\t.ns[j].hi=0;·rw[mJ,bG af,aQ,bG (show ¬ t.ns[j].k=4 by omega),aQ,dF bp.1,dF bp.2]at ab;cases ab
  ·rw[ap5 af bp]at ab;obtain⟨y,aT,ap8⟩:=adC ab;obtain⟨k,ae,rfl⟩:=eh.1 aT;obtain⟨U,aa⟩:=pD al j an k ae;obtain⟨q,rfl⟩:=lX U;exact T3 al eb m q (by omega) (by omega) x ap8
def JE{g:cA}(a2:wh g)(i:Nat):∀ k∈p4 g.ds F i,k<g.ds.length:=by
 intro k ae;unfold p4 at ae;by_cases h:i<g.ds.length
 ·rw[g5 h]at ae;have eI:=dr h;have al:=a2.right _ eI;obtain⟨z',hS⟩:=Cs al;obtain⟨r,hv⟩:=lX z';have ae:k∈(g1 (bJ g.ds) F g.ds[i].t.ns g.ds[i].t.bR).2:=ae;rw[hv]at ae;exact T3 al (a2.named _ eI) (r+1) r (by omega) (by omega) k ae
 ·rw[qR (by omega)]at ae;cases ae
def adD{g:cA}(a2:wh g)(mK:g.ds.length<=64){i k:Nat}(hi:i<64):rR (rU g.ds F).m i k ↔ p5 (p4 g.ds F) i k:=by
 constructor
 ·intro h
  induction h with
  |one ae h=>rw[NI mK ae]at h;exact .one (by simpa using h)| step h an t be=>rw[NI mK an]at h;exact .step (by simpa using h) (be an)
 ·intro h
  induction h with
  |one h=>have:=JE a2 _ _ h;exact .one (by omega) (by rw[NI mK (by omega)];simpa using h)| step h t be=>have:=JE a2 _ _ h;exact .step (by rw[NI mK (by omega)];simpa using h) (by omega) (be (by omega))
def adE(az:n<=64)(p q:Nat->Bool)(U:∀ k,k<n->p k=q k)(aa:∀ k,n<=k->k<64->p k=false):(List.range 64).filter p=(List.range n).filter q:=by
 have mK:(List.range 64)=List.range n++(List.range' n (64-n)):=by rw[DZ,DZ,show 64=n+(64-n) by omega,<-List.range'_append_1];simp
 have af:(List.range' n (64-n)).filter p=[]:=by rw[List.filter_eq_nil_iff];intro k ae;rw[Ru]at ae;rw[aa k (by omega) (by omega)];simp
 rw[mK,Jg,af,eo];apply Ov;intro k ae;exact U k (by simpa using ae)
def ap9{g:cA}(aB:g.ok I)(a2:wh g)(F:List a8)(i:Nat):NJ g.ds F i=JD g.ds F i:=by
 unfold NJ JD;by_cases h:i<g.ds.length
 ·rw[g5 h];have eI:=dr h;have al:=a2.right _ eI;have aI:=(aB.ds _ eI).t;refine ap7 al λd ah ae=>?_;obtain⟨j,an,rfl⟩:=vR ah;have bV:=aI.ns _ ah;have:=(Nv bV.k.1 (Ep al an)).one (by omega);omega
 ·rw[qR (by omega)]
def aqa{g:cA}(aB:g.ok I)(a2:wh g)(mK:g.ds.length<=64)(F:List a8):BG (rU g.ds F)=F9 g.ds F:=by
 unfold BG F9 bitsOf;refine adE mK _ _ (λk ae=>?_) (λk ae fI=>?_)
 ·rw[adx mK (by omega),ap9 aB a2]
 ·rw[adx mK fI,JD,qR ae]
open Classical in
noncomputable def BI(ds:List bD)(F:List a8):List Nat:=(List.range ds.length).filter λi=>decide (p5 (p4 ds F) i i)
def aqb{i:Nat}(h:ds.length<=i):p4 ds F i=[]:=by rw[p4,qR h]
open Classical in
def aqc{g:cA}(a2:wh g)(mK:g.ds.length<=64)(F:List a8):yy (rU g.ds F)=BI g.ds F:=by
 unfold yy BI;refine adE mK _ _ (λk ae=>?_) (λk ae fI=>?_)
 ·exact decide_eq_decide.2 (adD a2 mK (by omega))
 ·refine bG λaJ=>?_;have aJ:=(adD a2 mK fI).1 aJ;have az:=aqb (F:=F) ae;cases aJ with
  |one h=>rw[az]at h;cases h| step h t=>rw[az]at h;cases h
def adF{ds:List bD}{F:List a8}:∀ (k:Nat) {l:List cD},amp ds F l->Bc l<=k->∃ W,IK ds F W
 |k,l,h,ae=>by
  obtain⟨U,aa,-⟩:=RX (λh i _=>aas h i) ds.length 0 (dp _) h;by_cases e:zQ (Bd (bJ ds) F ds) 0 ds.length l=l;·exact⟨l,vc.done (λh i _=>aas h i) h e⟩
  ·have:=aml aa e
   match k,ae with
   |0,ae=>omega| k+1,ae=>exact adF k U (by omega)
def aqd(ds:List bD)(F:List a8):∃ W,IK ds F W:=adF _ (vc.start (O:=nd) ds.length (Bd (bJ ds) F ds)) (b2 _)
section
variable{z a:Nat}{m:Nat->Nat->bo}
def T4(m:Nat->Nat->bo)(a:Nat):List Nat->Prop
 |[]=>True| q::L=>cn (m q a)/\((m q a).ao=3->(m q a).av=a->T4 m a L)
def adG(hm:∀ q b,jC z b (m q b)):∀ (L:List Nat) (b n:Nat),a<=b->b<=z->(∀ q∈L,∀ h2,a<h2->h2<=z->cn (m q h2))->(b=a->T4 m a L)->cn (fV m L b n)
 |[],b,n,_,_,_,_=>.inr rfl
 |q::L,b,n,jo,BJ,c4,fN=>by
  have ah:cn (m q b):=by
   by_cases e:b=a;·rw[e];exact(fN e).1
   ·exact c4 q (.head _) b (by omega) BJ
  rw[fV];cases af:Nat.beq (m q b).ao 3 with
  |true=>
   have bx:=cj af;obtain⟨a3,a6,-⟩:=(hm q b).ge bx;rw[a4];refine adG hm L _ _ (by omega) (a6 BJ) (λy aT=>c4 y (.tail _ aT)) λe=>?_;have ag:b=a:=by omega
   subst ag;exact(fN rfl).2 bx e
  |false=>
   rw[aQ];rcases ah with h | h;·exact .inl h
   ·rw[h]at af;cases af
def adH:∀ (L:List Nat),(∀ q∈L,cn (m q a))->cn (gH m L a)
 |[],_=>.inl rfl
 |q::L,h=>by
  rw[gH];cases Nat.beq (m q a).ao 2 with
  |true=>exact adH L λy aT=>h y (.tail _ aT)
  |false=>exact h q (.head _)
def adI(hm:∀ q b,jC z b (m q b)){q:Nat}{lo hi:Int}(ae:∀ b,a<=b->b<=z->cn (m q b))(bk:hi=-1->∀ b,a<=b->b<=z->(m q b).ao=3->(m q b).av≠b) : ∀ (j i b n:Nat),a<=b->b<=z->(hi=-1->z+1<=j+b)->cn (e0 m q lo hi j i b n)
 |0,i,b,n,jo,BJ,an=>by
  rw[e0];cases he:decide (hi=-1)with
  |true=>have:=an (cm he);omega| false=>exact .inr rfl
 |j+1,i,b,n,jo,BJ,an=>by
  rw[e0];cases aa:Nat.beq (m q b).ao 2 with
  |true=>
   rw[a4];cases decide ((i:Int)<lo);·exact .inr rfl
   ·exact .inl rfl
  |false=>
   have bx:(m q b).ao=3:=by
    rcases ae b jo BJ with h | h;·rw[h]at aa;cases aa
    ·exact h
   obtain⟨a3,a6,-⟩:=(hm q b).ge bx;rw[bx];have eb:(decide (hi=-1)&&decide ((m q b).av=b))=false:=by
    by_cases e:hi=-1;·rw[bG (bk e b jo BJ bx),HN]
    ·rw[bG e,uE]
   show cn (bif (decide (hi=-1)&&decide ((m q b).av=b))then hC else e0 m q lo hi j (i+1) (m q b).av (fr n (m q b).n));rw[eb,aQ];refine adI hm ae bk j (i+1) _ _ (by omega) (a6 BJ) λe=>?_;have:=an e;have:=bk e b jo BJ bx;omega
end
def adJ{x:a8×List Nat}{q:Nat}(h:q∈x.2\/(x.1.z=true/\q∈t' xs)):q∈t' (x::xs):=by
 rw[t',dV];rcases h with h | ⟨U,aa⟩
 ·exact .inl h
 ·rw[U];exact .inr aa
section
variable{I:a5}{g:cA}{s:ByteArray}{F:List a8}{W:List cD}
def adK(aB:g.ok I)(hm:ie g)(eb:∀ d∈g.ds,tH (bJ g.ds) d.t.ns=true)(cB:rs g.ds F)(hd:IK g.ds F W)(he:∀ i (h:i<g.ds.length),(rV (bJ g.ds) F g.ds[i].t.ns g.ds[i].t.bR).2=false){a:Nat}(aH:a<=s.size)(ag:∀ b,a<b->b<=s.size->∀ i j (hi:i<g.ds.length),j<g.ds[i].t.ns.length->cn (bs (cd g s) (fZ g i j) b)){i:Nat}(hi:i<g.ds.length) : ∀ (n j:Nat),j<n->(an:j<g.ds[i].t.ns.length)->(∀ q∈(g1 (bJ g.ds) F g.ds[i].t.ns j).2,cn (bs (cd g s) (eF g q) a))->cn (bs (cd g s) (fZ g i j) a)
 |0,j,h,_,_=>absurd h (Bw _)
 |n+1,j,ly,an,aE=>by
  have be:=adK aB hm eb cB hd he aH ag hi n;have eI:=dr hi;have ba:=hm.r _ eI;have ah:=((aB.ds _ eI).t.ns _ (dr an));have ar:=ba.fits j an;have F1:=Nv ah.k.1 ar;have jJ:=Hq ar;have hl:=aah s hi an;have qp:=ba.aS j an;have hk:=sG (cd g s);have aqe:∀ k∈g.ds[i].t.ns[j].aS,g.ds[i].t.ns[j].k=6->g.ds[i].t.ns[j].hi=-1->((ep (bJ g.ds) F g.ds[i].t.ns []).getD k.toNat cb).z=false:=λk ae bp aR=>by
   cases bk:((ep (bJ g.ds) F g.ds[i].t.ns []).getD k.toNat cb).z with
   |false=>rfl| true=>have U:=(NK (pl:=bJ g.ds) (F:=F) (E0.2 ba) an).2 ⟨k,ae,.inl ⟨bp,aR,rfl,bk⟩⟩;have aa:=T2 (E0.2 ba) _ j an (b2 _) U;rw[he i hi]at aa;cases aa
  have adL:∀ (q:Nat),q<g.ds[i].t.ns.length->∀ b,tZ s (tT (bJ g.ds) F W g.ds[i].t.ns q) b (bs (cd g s) (fZ g i q) b):=λq aL b=>apr aB hm eb cB hd i q hi aL b;have adM:∀ (q:Nat),(tT (bJ g.ds) F W g.ds[i].t.ns q).1=(g1 (bJ g.ds) F g.ds[i].t.ns q).1:=λq=>by rw[aax,NA]
  have gp:=hI.1 (eb _ eI) _ (dr an);have adN:=λb U aa q aL=>ag b U aa i q hi aL;rw[Nz (E0.2 ba) an]at aE;have yv:∀ k∈g.ds[i].t.ns[j].aS,∃ q:Nat,k=q/\q<g.ds[i].t.ns.length/\q<n:=λk ae=>by have:=qp k ae;exact⟨k.toNat,by omega,by omega,by omega⟩
  have iM:(cd g s).s=s:=rfl;generalize g.ds[i].t.ns[j]=y at *;have aE:∀ q∈mJ (bJ g.ds) y (y.aS.map (g1 (bJ g.ds) F g.ds[i].t.ns)),cn (bs (cd g s) (eF g q) a):=aE;have ae:∀ {x:Int},y.k=x->((cd g s).ai (fZ g i j)).d.k=x:=λe=>by rw[hl];exact e
  have has:y.k≠3->((cd g s).ai (fZ g i j)).bd=y.aS.map λk=>fZ g i k.toNat:=λe=>by rw[hl];show jf _ _ _=_;rw[jf,bG e,aQ];rfl
  have hM:6<=y.k->∃ q:Nat,y.aS=[(q:Int)]/\q<g.ds[i].t.ns.length/\q<n:=λbp=>by
   have U:=F1.one bp
   match gE:y.aS,U with
   |[k],_=>obtain⟨q,aL,aa,af⟩:=yv k (by rw[gE];exact .head _);exact⟨q,by rw[aL],aa,af⟩
   |[],h=>simp at h| _::_::_,h=>simp at h;omega
  have h7:y.k=0\/y.k=1\/y.k=2\/y.k=3\/y.k=4\/y.k=5\/y.k=6\/y.k=7\/y.k=8\/y.k=9:=by have:=ah.k.1;have:=jJ.k;omega
  rw[<-LQ];rcases h7 with e | e | e | e | e | e | e | e | e | e;·rw[xU (ae e)];exact .inr rfl
  ·rw[xV (ae e)];cases(cd g s).s.data[a]? with
   |none=>exact .inl rfl
   |some b=>
    show cn (bif _ then _ else _);cases jS ((cd g s).ai (fZ g i j)).d b.toNat;·exact .inl rfl
    ·exact .inr rfl
  ·rw[xW (ae e)];cases preB (cd g s).s ((cd g s).ai (fZ g i j)).d.t a
   ·exact .inl rfl
   ·exact .inr rfl
  ·rw[wj (ae e)];have af:(eL y.t (bJ g.ds)).isSome=true:=by simpa[e]using gp
   obtain⟨q,zx,nP,DJ⟩:=Nw af;have jE:((cd g s).ai (fZ g i j)).bd.getD 0 0=eF g q:=by rw[hl];show(jf _ _ _).getD 0 0=_;rw[jf,dF e,a4,zx];rfl
   rw[jE];refine aE q ?_;rw[mJ,dF e,a4,DJ];exact .head _
  ·rw[xX (ae e),has (by omega)];refine adG hk _ a 0 (b2 _) aH (λq aL b U aa=>?_) λ_=>?_
   ·obtain⟨k,F2,rfl⟩:=eh.1 aL;obtain⟨q,rfl,af,-⟩:=yv k F2;exact adN b U aa q af
   ·have aE:∀ q∈t' (y.aS.map (g1 (bJ g.ds) F g.ds[i].t.ns)),cn (bs (cd g s) (eF g q) a):=λq aL=>aE q (by rw[mJ,bG (by omega),aQ,dF e,a4];exact aL);have key:∀ ks:List Int,(∀ k∈ks,k∈y.aS)->(∀ q∈t' (ks.map (g1 (bJ g.ds) F g.ds[i].t.ns)),cn (bs (cd g s) (eF g q) a))->T4 (bs (cd g s)) a (ks.map λk=>fZ g i k.toNat):=λks=>by
     induction ks with
     |nil=>intro _ _;trivial| cons k ks aqf=>intro h3 bk;obtain⟨q,rfl,af,aN⟩:=yv k (h3 k (.head _));refine⟨be q aN af λx ab=>bk x (adJ (.inl ab)),λbq bp=>aqf (λx ab=>h3 x (.tail _ ab)) λx ab=>bk x (adJ (.inr ⟨?_,ab⟩))⟩;have:=((adL q af a).z bq bp).1;rw[adM]at this;exact this
    exact key y.aS (λk ae=>ae) aE
  ·rw[xY (ae e),has (by omega)];refine adH _ λq aL=>?_;obtain⟨k,F2,rfl⟩:=eh.1 aL;obtain⟨q,rfl,af,aN⟩:=yv k F2;refine be q aN af λx ab=>aE x ?_;rw[mJ,bG (by omega),aQ,bG (by omega),aQ,bG (by omega),uE,aQ];exact zv.2 ⟨_,eh.2 ⟨_,F2,rfl⟩,ab⟩
  ·obtain⟨q,gE,af,aN⟩:=hM (by omega);have fT:((cd g s).ai (fZ g i j)).d.hi=y.hi:=by rw[hl];rfl
   have dg:((cd g s).ai (fZ g i j)).d.lo=y.lo:=by rw[hl];rfl
   have nH:((cd g s).ai (fZ g i j)).bd.getD 0 0=fZ g i q:=by rw[has (by omega),gE];rfl
   rw[tJ (ae e),nH,fT,dg];have cM:m4 (cd g s) ((cd g s).ai (fZ g i j)).d a=bif decide (y.hi=-1)then s.size+1-a else y.hi.toNat:=by unfold m4;rw[fT];rfl
   rw[cM];by_cases ay:y.hi=0;·rw[ay];exact .inr rfl
   ·refine adI hk (z:=s.size) (a:=a) (λb U aa=>?_) (λaR b U aa bq bp=>?_) _ 0 a 0 (b2 _) aH λaR=>?_
    ·by_cases Da:b=a
     ·rw[Da];refine be q aN af λx ab=>aE x ?_;rw[mJ,bG (by omega),aQ,bG (by omega),aQ,bG ay,HN,aQ];exact zv.2 ⟨_,eh.2 ⟨(q:Int),by rw[gE];exact .head _,rfl⟩,ab⟩
     ·exact adN b (by omega) aa q af
    ·have ec:=((adL q af b).z bq bp).1;rw[adM,NA]at ec;have eX:=aqe (q:Int) (by rw[gE];exact .head _) e aR;rw[eX]at ec;cases ec
    ·rw[dF aR,a4];omega
  all_goals
   obtain⟨q,gE,af,aN⟩:=hM (by omega);have nH:((cd g s).ai (fZ g i j)).bd.getD 0 0=fZ g i q:=by rw[has (by omega),gE];rfl
   have jb:cn (bs (cd g s) (fZ g i q) a):=by refine be q aN af λx ab=>aE x ?_;rw[mJ,bG (by omega),aQ,bG (by omega),aQ,bG (by omega),uE,aQ];exact zv.2 ⟨_,eh.2 ⟨(q:Int),by rw[gE];exact .head _,rfl⟩,ab⟩
  ·rw[wk (ae e),nH];cases Nat.beq (bs (cd g s) (fZ g i q) a).ao 3
   ·exact jb
   ·exact .inr rfl
  ·rw[wm (ae e),nH];rcases jb with h | h
   ·rw[h];exact .inr rfl
   ·rw[h];exact .inl rfl
  ·have AO:=ae e;rw[wo (by omega) (by omega) (by omega) (by omega) (by omega) (by omega) (by omega) (by omega) (by omega),nH];cases Nat.beq (bs (cd g s) (fZ g i q) a).ao 3
   ·exact jb
   ·exact .inr rfl
open Classical in
noncomputable def F'(A:Nat->List Nat)(n i:Nat):Nat:=(List.range n).countP λq=>decide (p5 A i q)
open Classical in
def aqg{A:Nat->List Nat}{i q:Nat}(gl:∀ i,∀ x∈A i,x<n)(Fl:∀ x,¬ p5 A x x)(aL:q∈A i):F' A n q<F' A n i:=by unfold F';refine aae (λx _ h=>?_) (z:=q) (me.2 (gl i q aL)) (bG (Fl q)) (dF (.one aL));exact dF (.step aL (cm h))
def adO(aB:g.ok I)(hm:ie g)(a2:wh g)(cB:rs g.ds F)(Fl:∀ x,¬ p5 (p4 g.ds F) x x)(he:∀ i (h:i<g.ds.length),(rV (bJ g.ds) F g.ds[i].t.ns g.ds[i].t.bR).2=false) : ∀ (n a:Nat),s.size-a<n->a<=s.size->∀ i j (hi:i<g.ds.length),j<g.ds[i].t.ns.length->cn (bs (cd g s) (fZ g i j) a)
 |0,a,h,_=>absurd h (Bw _)
 |n+1,a,az,aH=>by
  obtain⟨W,hd⟩:=aqd g.ds F;have eb:=a2.named;have ag:∀ b,a<b->b<=s.size->∀ i j (hi:i<g.ds.length),j<g.ds[i].t.ns.length->cn (bs (cd g s) (fZ g i j) b):=λb U aa=>adO aB hm a2 cB Fl he n b (by omega) aa;have adP:=fun {i:Nat} (hi:i<g.ds.length) (j:Nat) an=>adK (s:=s) aB hm eb cB hd he aH ag hi (j+1) j (yM _) an;have aqh:∀ (c i:Nat),F' (p4 g.ds F) g.ds.length i<c->i<g.ds.length->cn (bs (cd g s) (eF g i) a):=by
   intro c
   induction c with
   |zero=>intro i h;exact absurd h (Bw _)
   |succ c aqi=>
    intro i aJ hi;have ba:=hm.r _ (dr hi);obtain⟨r,al⟩:=lX ba.bR.1;have hA:r<g.ds[i].t.ns.length:=by have:=ba.bR.2;omega
    rw[aai hi al];refine adP hi r hA λq aL=>?_;have nP:q∈p4 g.ds F i:=by unfold p4;rw[g5 hi];show q∈(g1 (bJ g.ds) F g.ds[i].t.ns g.ds[i].t.bR).2;rw[al];exact aL
    have U:F' (p4 g.ds F) g.ds.length q<F' (p4 g.ds F) g.ds.length i:=aqg (n:=g.ds.length) (λi=>JE a2 i) Fl nP;exact aqi q (by omega) (JE a2 i q nP)
  intro i j hi an;refine adP hi j an λq aL=>?_;have nP:=T3 (E0.2 (hm.r _ (dr hi))) (a2.named _ (dr hi)) (j+1) j (yM _) an q aL;exact aqh _ q (yM _) nP
end
def adQ{α β:Type}{l:List α}{f g:α->List β}(h:∀ x∈l,f x=g x):l.flatMap f=l.flatMap g:=by
 induction l with
 |nil=>rfl| cons a l be=>rw[qh,qh,h a (.head _),be λx ab=>h x (.tail _ ab)]
def aqj{l:List Nat}{x:Nat}(h:x∈l):x<=l.sum:=by
 induction l with
 |nil=>cases h
 |cons a l be=>
  rw[k'];rcases eu.1 h with rfl | h;·omega
  ·have:=be h;omega
def aqk(ay:t.n0=0):t.cs (x' t.P t.nn)=(List.replicate (t.nn*t.w) kx).flatMap cP.cells:=by rw[<-ZT];unfold eU.cs ox;rw[ay,xL];refine adQ λj an=>adQ λa aH=>?_;rw[dp,Ms (me.1 an)];have aa:a<t.s.size+1:=me.1 aH;show a<=t.s.size;omega
def adR(I:a5)(aX:List Int)(g:cA)(s:ByteArray)(v:Value)(I':a5)(M':List aF):Prop:=
 (∀ b o,I b=some o->I' b=some o)/\M'=[]/\((e9 aX g≠0/\v=.tuple #[.pointer none,.int .i64 (e9 aX g)])\/(e9 aX g=0/\4096<s.size/\v=.tuple #[.pointer none,.int .i64 40]) \/ (e9 aX g=0/\s.size<=4096/\∃ (t:eU) (T:Nat->Nat->cP),v=.tuple #[ptr t.bt,.int .i64 0]/\wG I' g s t T))
structure aql(I:a5)(g:cA)(jg jv:bf)(i:Nat)(g2:bf)(xs:List bh)(J:a5):Prop where
 ii:i<=g.n
 le:∀ b o,I b=some o->J b=some o
 nm:fC J (jg.a.map λg=>⟨g,0,none⟩) jg.n jg.c 1 16 (g.ds.map zO)
 rt:fC J (jv.a.map λg=>⟨g,0,none⟩) jv.n jv.c 1 8 ((ej 0 g.ds).map cQ)
 ok:g2.ok 9 (xs.flatMap bh.cells)
 pn:xs.map bh.pn=ya g.ds i
 xs:∀ y∈xs,y.ok J/\y.t.size<=4096/\∀ x∈y.aS,0<=x
def T5(bO:gu I aX){g:cA}(aB:g.ok I)(az:g.n<=4096)(s:ByteArray):Spec Tryz.prog 10 [g.val,.string s] I [] (adR I aX g s):=by
 refine OO [25] aV Tryz.func10 rfl rfl rfl ?_;intro B ay;have gC:=aB.n;refine a9.whole _ (Lc bO aB) ?_;rintro v dZ M' -⟨rfl,n',rfl⟩;have Ie:=aB.mono n';refine aM.mk (λe=>?_) (λe=>?_)
 ·have a':e9 aX g≠0:=by simpa using e
  intro _;exact⟨_,_,.refl,n',rfl,.inl ⟨a',rfl⟩⟩
 have s4:e9 aX g=0:=by simpa using e
 refine aM.mk (λaA=>?_) (λaA=>?_)
 ·have eZ:4096<s.size:=by have:=cm aA;omega
  intro _;exact⟨_,_,.refl,n',rfl,.inr (.inl ⟨s4,eZ,rfl⟩)⟩
 have ax:s.size<=4096:=by have:=cu aA;omega
 have hm:ie g:=A0 s4 λd ah=>(aB.ds d ah).t.n;have zC:=hm.CP;have zN:=xS 0 g.ds;have e3:∀ d∈g.ds,∀ n∈d.t.ns,0<=n.k:=λd ah n az=>((aB.ds d ah).t.ns n az).k.1;obtain⟨zI,bV⟩:=Z7 hm e3 ax;refine a9.whole _ (alM (M0:=[]) Ie az) ?_;rintro v cW M1 -⟨rfl,jg,rfl,adS,aqm,rfl⟩;refine cy.mk λbt NL auA=>?_;have auB:uU.aO 3=[]:=rfl;refine ea.OL (ι:=Nat×bf×a5) (λx=>{ bK:=[(1,.val (.string s)),(2,.ref 2 0),(7,.val (ptr bt)),(8,.val (.int .i64 (bI (g.ds.take x.1):Nat))),(27,.val (.slice g.a g.n g.c)),(28,.val (.int .i64 g.n)),(29,.val (.int .i64 x.1))],cl:=[(2,[.slice g.a g.n g.c])],dz:=x.2.2,d':=pW bt s jg.val x.2.1.val (.slice none 0 0) (.slice none 0 0)::(x.2.1.aO 3++[]) }) (λx=>x.1<=g.n/\(∀ b o,I b=some o->x.2.2 b=some o)/\fC x.2.2 (jg.a.map λg=>⟨g,0,none⟩) jg.n jg.c 1 16 (g.ds.map zO)/\x.2.1.n=x.1/\x.2.1.ok 1 (((ej 0 g.ds).take x.1).map cQ)) (λx=>g.n-x.1) ?_ ?_
 ·intro mf;have aqn:=RS (J:=cW) (os:=jg) (e:=9) (M:=[]) λx ab=>mf.d x (.tail _ ab);exact⟨(0,uU,zP cW jg 9),⟨bF _,λb o h=>aqn _ _ (n' _ _ h),RT aqm (by omega),rfl,zl 1⟩,.perm (M1:=jg.aO 9++[pW bt s jg.val (.slice none 0 0) (.slice none 0 0) (.slice none 0 0)]) (by rw[eo];exact(i' (l₁:=[_]))) (RR λg _=>by simp),mj,.cons rfl (.nil)⟩
 rintro⟨i,jv,J⟩⟨hi,NM,JF,lW,NN⟩;simp only at hi NM JF lW NN;have F7:=aB.mono NM;refine aM.mk (λbx=>?_) (λbx=>?_)
 ·have a0:i<g.n:=by simpa using bx
  have bZ:i<g.ds.length:=by omega
  obtain⟨ad,b3,br⟩:=F7.bj.row bD.dc a0 bZ;have eI:g.ds[i]∈g.ds:=dr bZ;have ri:=(aB.ds _ eI).t.n;have sm:=(hm.r _ eI).bR;have kO:=Fi bZ;have bz:=Ix g.ds (i+1);have RE:=Ml 0 g.ds i bZ (by omega);refine bl.mk ad i b3 rfl a0 ?_;refine aw.mk _ (br _) ?_;refine cq.draw aV rfl rfl rfl ?_;refine aw.mk _ (De (j:=2) (.head _) (by decide)) ?_;refine bb.mk (((ej 0 g.ds)[i]:Nat):Int) (ei (show((bI (g.ds.take i):Nat):Int)+(g.ds[i]).t.bR=_ by omega) (by omega)) ?_;refine cy.mk λcS g7 jD=>?_;intro G eR;refine vE.x5 aV rfl (e:=3) rfl rfl rfl jv NN (x8 (eR _ (by simp[Op.operands,Call.operands])) rfl) (x8 (eR _ (by simp[Op.operands,Call.operands])) rfl) (cs:=[cQ (ej 0 g.ds)[i]]) rfl rfl [pW bt s jg.val jv.val (.slice none 0 0) (.slice none 0 0)] [] rfl (by omega) (by show(jv.n+1)*8<=_;omega) ?_;intro os' U aa aN;refine cc.mk [⟨cS,_⟩] (os'.aO 3++[]) _ _ rfl rfl (bP rfl) rfl ?_;refine bb.mk ((bI (g.ds.take (i+1)):Nat):Int) (ei (show((bI (g.ds.take i):Nat):Int)+((g.ds[i]).t.n:Int)=_ by omega) (by omega)) ?_;refine bb.mk _ (c7 (i:=i) (by omega)) ?_;intro _;refine⟨(i+1,os',J),⟨⟨by omega,NM,JF,by simp only;omega,?_⟩,by simp only;omega⟩,.sub (.cons _ (.refl _)) .refl,mj,.cons rfl (.nil)⟩;simp only;rw[iT (by omega),gW];exact aN
 have cE:g.n<=i:=by simpa using bx
 obtain rfl:i=g.n:=by omega
 rw[gM (by omega)]at NN;refine ea.OL (ι:=Nat×bf×List bh×a5) (λx=>{ bK:=[(1,.val (.string s)),(2,.ref 2 0),(7,.val (ptr bt)),(55,.val (.slice g.a g.n g.c)),(56,.val (.int .i64 g.n)),(57,.val (.int .i64 x.1))],cl:=[(2,[.slice g.a g.n g.c])],dz:=x.2.2.2,d':=pW bt s jg.val jv.val x.2.1.val (.slice none 0 0)::(x.2.1.aO 83++[]) }) (λx=>aql I g jg jv x.1 x.2.1 x.2.2.1 x.2.2.2) (λx=>g.n-x.1) ?_ ?_
 ·intro mf;have adT:=RS (J:=J) (os:=jv) (e:=3) (M:=[]) λx ab=>mf.d x (.tail _ ab);exact⟨(0,uU,[],zP J jv 3),⟨bF _,λb o h=>adT _ _ (NM _ _ h),JF.mono adT,RT NN (by omega),zl 9,rfl,λy aT=>(by cases aT)⟩,.perm (M1:=jv.aO 3++[pW bt s jg.val jv.val (.slice none 0 0) (.slice none 0 0)]) (by rw[eo];exact(i' (l₁:=[_]))) (RR λg _=>by simp),e7,.cons rfl (.nil)⟩
 rintro⟨i,g2,xs,K⟩cM;have hi:=cM.ii;have NO:=cM.le;simp only at hi NO;have Ga:=aB.mono NO;have m0:xs.length=bI (g.ds.take i):=by have:=congrArg List.length cM.pn;rw[al8,eW]at this;exact this
 have sQ:g2.n=xs.length:=by have U:g2.ok 9 (xs.flatMap bh.cells):=cM.ok;have:=U.len;rw[fu _ 9 bh.dc]at this;omega
 have tB:jg.n=g.ds.length:=by omega
 have o8:jv.n=g.ds.length:=by omega
 refine aM.mk (λcU=>?_) (λcU=>?_)
 ·have a0:i<g.n:=by simpa using cU
  have bZ:i<g.ds.length:=by omega
  obtain⟨ad,b3,br⟩:=Ga.bj.row bD.dc a0 bZ;have eI:g.ds[i]∈g.ds:=dr bZ;have mW:=(Ga.ds _ eI).t;have ri:=mW.n;have Aa:=hm.r _ eI;have kO:=Fi bZ;have bz:=Ix g.ds (i+1);have aqo:=al6 bZ;have aqp:=hm.find _ eI;generalize g.ds[i]=d at *;have uN:Z1 K g.ds (jg.a.map λg=>⟨g,0,none⟩) (jv.a.map λg=>⟨g,0,none⟩) jg.c jv.c xs.length d.t:=by
   refine⟨by rw[<-tB];exact cM.nm,by rw[<-o8];exact cM.rt,λn az=>?_,λx ab=>?_,by omega,by omega⟩;·obtain⟨j,an,Ab⟩:=vR az;have l0:=Aa.aS j an;have ar:=Aa.fits j an;rw[Ab]at l0 ar;have aI:=RD ar (mW.ns n az).k.1;have e4:n.aS.length<=j:=E1 j _ (Aa.diff.sublist (H3 az)) l0;exact⟨λk ae=>by have:=l0 k ae;omega,by omega,by omega⟩
   ·have:=H2 0 g.ds (λd ah=>(hm.r d ah).bR) x ab;omega
  have bL:=alS mW uN cM.ok bt s (.slice none 0 0);rw[<-tB]at bL;have e8:Value.slice (jv.a.map λg=>⟨g,0,none⟩) jg.n jv.c=jv.val:=by unfold bf.val;rw[o8,tB]
  rw[e8]at bL;refine bl.mk ad i b3 rfl a0 ?_;refine aw.mk _ (br _) ?_;refine a9.whole _ bL ?_;rintro v I' M' -⟨rfl,j,os',kb,c2,rfl,aj⟩;rcases aj with⟨rfl,rfl⟩ | ⟨rfl,n,az,T6,auC⟩
  rotate_left
  ·exact absurd (aqp n az T6) (by omega)
  refine aM.mk (λe=>by cases e) (λ_=>?_);refine bb.mk _ (c7 (i:=i) (by omega)) ?_;intro mf;have NP:(pW bt s jg.val jv.val os'.val (.slice none 0 0)::(os'.aO 83++kb.map k3)).Perm (kb.map k3++(pW bt s jg.val jv.val os'.val (.slice none 0 0)::(os'.aO 83++[]))):=by rw[eo,<-py];exact i'
  have Mq:=c2.len ri;obtain⟨uu,RE⟩:=Z6 (I:=I') kb (λp aK=>mf.d (k3 p) (.tail _ (oI _ (eh.2 ⟨p,aK,rfl⟩)))) (by
   have U:=mf.aG;have aa:((kb.map k3).map (·.num)).Sublist ((pW bt s jg.val jv.val os'.val (.slice none 0 0)::(os'.aO 83++kb.map k3)).map (·.num)):=((mU _ _).cons _).map _;have af:=U.sublist aa;rw[ms]at af;exact af)
  have jE:∀ p∈kb,p.2.length<=4096/\∀ x∈p.2,x<=4096:=λp aK=>by
   have U:p.2∈kb.map (·.2):=eh.2 ⟨p,aK,rfl⟩;rw[c2.kb]at U;obtain⟨n,az,e⟩:=eh.1 U;have xm:=Hm az;obtain⟨ed,dP,gS⟩:=uN.ns n xm;rw[<-e,jf];cases decide (n.k=3)with
   |true=>
    rw[a4];refine⟨by show 1<=4096;omega,λx ab=>?_⟩;rw[jw.1 ab,dB];cases aL:(ej 0 g.ds)[(ee n.t g.ds 0).toNat]? with
    |none=>exact bF _| some z=>exact uN.alQ z (BV aL)
   |false=>rw[aQ];refine⟨by rw[eW];omega,λx ab=>?_⟩;obtain⟨k,ae,rfl⟩:=eh.1 ab;obtain⟨j,an,Ab⟩:=vR xm;have l0:=Aa.aS j an;rw[Ab]at l0;have:=l0 k ae;omega
  have aqq:=Z8 (J:=Fm I' kb) (kb:=kb) (ns:=d.t.ns.take d.t.n) (λp aK=>⟨RE p aK,by have:=(jE p aK).1;omega,λx ab=>by have:=(jE p aK).2 x ab;omega⟩) (λn az=>(mW.ns n (Hm az)).mono uu);refine⟨(i+1,os',xs++qJ kb (d.t.ns.take d.t.n),Fm I' kb),⟨⟨a0,λb o h=>uu _ _ (NO _ _ h),cM.nm.mono uu,cM.rt.mono uu,c2.ok,?_,λy aT=>?_⟩,by simp only;omega⟩,.perm NP (Z5 kb λp _=>by simp),e7,.cons rfl (.nil)⟩;·simp only;have aqr:xs.map bh.pn=ya g.ds i:=cM.pn;have HA:d.t.ns.take d.t.n=d.t.ns:=gM (by omega);rw[gW,Z9 Mq,Z' c2.kb,aqo,aqr,m0,HA]
  ·rcases dV.1 aT with aT | aT
   ·obtain⟨oZ,v',C6⟩:=cM.xs y aT;exact⟨oZ.mono uu,v',C6⟩
   ·obtain⟨oZ,⟨p,v',C6⟩,n,Mg,aqs⟩:=aqq y aT;refine⟨oZ,by rw[aqs];exact(uN.ns n (Hm Mg)).2.2,λx ab=>?_⟩;rw[C6]at ab;obtain⟨q,_,rfl⟩:=eh.1 ab;omega
 have Xq:g.n<=i:=by simpa using cU
 obtain rfl:i=g.n:=by omega
 have auD:xs.length=bI g.ds:=by rw[m0,gM (by omega)]
 have adU:xs.map bh.pn=(jT g.ds).map wF:=by have U:xs.map bh.pn=ya g.ds g.n:=cM.pn;rw[U,<-gC,al7]
 have IE:g2.n=bI g.ds:=by omega
 have n4:0<bI g.ds:=by
  obtain⟨d,ah⟩:=List.exists_mem_of_length_pos (show 0<g.ds.length by have:=hm.n;omega);have al:=(hm.r d ah).bR;have U:d.t.ns.length<=bI g.ds:=by unfold bI;exact aqj (eh.2 ⟨d,ah,rfl⟩)
  omega
 have aqt:g2.ok 9 (xs.flatMap bh.cells):=cM.ok;have JF:fC K (jg.a.map λg=>⟨g,0,none⟩) jg.n jg.c 1 16 (g.ds.map zO):=cM.nm;have aqu:fC K (jv.a.map λg=>⟨g,0,none⟩) jv.n jv.c 1 8 ((ej 0 g.ds).map cQ):=cM.rt;have oA:∀ y∈xs,y.ok K/\y.t.size<=4096/\∀ x∈y.aS,0<=x:=cM.xs;clear cM;refine aw.mk _ (De (j:=3) (.head _) (by decide)) ?_;refine bb.mk ((s.size+1:Nat):Int) (ei (by simp) (by omega)) ?_;refine a9.whole _ (alw g2.n (s.size+1) (by omega) (by omega) (by omega)) ?_;rintro v I' M' -⟨rfl,ew,fX,rfl,rfl⟩;refine cc.mk [_,_] (g2.aO 83++[]) _ _ rfl rfl (bP rfl) rfl ?_;refine .Kf λmf=>?_;have NQ:=mf.d;have RB:I' ew=none:=NQ _ (.head _);have Da:I' fX=none:=NQ _ (.tail _ (.head _));have aqv:I' bt=none:=NQ _ (.tail _ (.tail _ (.head _)));have zK:∀ x∈g2.aO 83++([]:List aF),I' x.num=none:=λx ab=>NQ x (.tail _ (.tail _ (.tail _ ab)));have Gb:(ew::fX::bt::(g2.aO 83++([]:List aF)).map (λx:aF=>x.num)).Nodup:=mf.aG;obtain⟨gZ,Gb⟩:=mN.1 Gb;obtain⟨hQ,Gb⟩:=mN.1 Gb;obtain⟨tF,Gb⟩:=mN.1 Gb;obtain⟨yz,T7⟩:∃ yz:Obj,yz=.cells ([.string s,jg.val,jv.val,g2.val,.slice (some ⟨ew,0,none⟩) g2.n g2.n]:List Value).toArray 91 (0,0):=⟨_,rfl⟩;obtain⟨ud,adV⟩:∃ ud:Obj,ud=.cells (Iy fX (s.size+1) g2.n).toArray 105 (0,0):=⟨_,rfl⟩;have aqw:∀ b o,I' b=some o->ins I' ew ud b=some o:=ku RB;have jN:ins I' ew ud bt=none:=by unfold ins;rw[hW λe=>gZ (by rw[<-e];exact .tail _ (.head _))];exact aqv
 have adW:∀ b o,ins I' ew ud b=some o->ins (ins I' ew ud) bt yz b=some o:=ku jN;have T8:=RS (J:=ins (ins I' ew ud) bt yz) (os:=g2) (e:=83) (M:=[]) λx ab=>by have Hd:x.num∈(g2.aO 83++([]:List aF)).map (λx:aF=>x.num):=eh.2 ⟨x,ab,rfl⟩;unfold ins;rw[hW λe=>tF (by rw[<-e];exact Hd),hW λe=>gZ (by rw[<-e];exact .tail _ (.tail _ Hd))];exact zK x ab
 have bz:∀ b o,I' b=some o->zP (ins (ins I' ew ud) bt yz) g2 83 b=some o:=λb o h=>T8 _ _ (adW _ _ (aqw _ _ h));have cR:zP (ins (ins I' ew ud) bt yz) g2 83 bt=some yz:=T8 _ _ (pJ ..);have aqx:zP (ins (ins I' ew ud) bt yz) g2 83 ew=some ud:=T8 _ _ (adW _ _ (pJ ..));have aqy:=RT (J:=ins (ins I' ew ud) bt yz) (e:=83) (b:=96) aqt (by omega);have sy:=al0 (Ga.mono bz) (bt:=bt) (s:=s) (nv:=jg.val) (rv:=jv.val) (rwv:=.slice (some ⟨ew,0,none⟩) g2.n g2.n) (na:=g2.a.map λg=>⟨g,0,none⟩) (nn:=g2.n) (nc:=g2.c) (by rw[cR,T7];rfl) IE (by omega);refine a9.Ke (zP (ins (ins I' ew ud) bt yz) g2 83) [] [⟨fX,.cells ((List.replicate (g2.n*(s.size+1)) kx).flatMap cP.cells).toArray 107 (0,0)⟩] _ ?_ sy ?_
 ·subst adV;subst T7;refine .n2 rfl (by simp) (.perm (.swap _ _ _) (.n2 rfl (by simp) (.perm (M1:=g2.aO 83++[⟨fX,.cells ((List.replicate (g2.n*(s.size+1)) kx).flatMap cP.cells).toArray 107 (0,0)⟩]) ?_ (RR λg _=>by simp))));rw[eo];exact i' (l₁:=[_])
 rintro v la xv nG -⟨-,gN,L,cN,rfl,hS,fP,hT,rl,uW,rfl⟩;have Ju:∀ b o,I' b=some o->la b=some o:=λb o h=>nG _ _ (bz _ _ h);obtain⟨t0,wW⟩:∃ t0:eU,t0=⟨bt,s,jg.val,jv.val,xs,g2.a.map λg=>⟨g,0,none⟩,g2.n,g2.c,some ⟨ew,0,none⟩,g2.n,(List.range g2.n).map λk=>⟨fX,k*((s.size+1)*4),none⟩,0,fX⟩:=⟨_,rfl⟩;have cV:t0.P=cd g s:=by rw[wW];show(⟨xs.map bh.pn,s,0⟩:bm)=_;rw[adU];rfl
 have lS:=aqk (t:=t0) (by rw[wW]);have P5:t0.aO (x' t0.P t0.nn)=⟨fX,.cells ((List.replicate (g2.n*(s.size+1)) kx).flatMap cP.cells).toArray 107 (0,0)⟩:=by unfold eU.aO;rw[lS,wW];rfl
 have jb:∀ y∈xs,∀ x∈y.aS,x.toNat<g2.n:=λy aT x ab=>by
  have U:y.pn∈(jT g.ds).map wF:=by rw[<-adU];exact eh.2 ⟨y,aT,rfl⟩
  obtain⟨a,aH,sF⟩:=eh.1 U;have aa:=(E2 hm e3 (s:=s) (ai:=0) (bF _) ax).ns a aH;have af:x.toNat∈a.bd:=by have e8:a.bd=y.aS.map Int.toNat:=congrArg pP.bd sF;rw[e8];exact eh.2 ⟨x,ab,rfl⟩
  have aN:=aa.bd _ af;have bq:(fk g s 0).ns.length=bI g.ds:=Df g.ds;omega
 have Mk:t0.ok la (x' t0.P t0.nn):=by
  rw[wW];refine⟨?_,aqy.mono nG,λy aT=>(oA y aT).1.mono Ju,λy aT=>(oA y aT).2.1,λy aT x ab=>⟨(oA y aT).2.2 x ab,jb y aT x ab⟩,?_,λa aH=>?_,λk ae ay=>absurd ay (Bw _),λk ae _=>?_,ax,by show g2.n<=4096;omega⟩;·rw[nG _ _ cR,T7];rfl
  ·refine⟨by simp,⟨b2 _,by show g2.n*24<=_;omega⟩,.inr ⟨⟨ew,0,none⟩,rfl,rfl,_,_,_,(nG _ _ aqx).trans (congrArg some adV),?_⟩⟩;show((Iy fX (s.size+1) g2.n).drop 0).take (g2.n*1)=_;rw[xr,gM (by simp[Iy]),Iy,ms];rfl
  ·obtain⟨k,_,rfl⟩:=eh.1 aH;rfl
  ·simp only[lu,su,xL];rfl
 have auE:t0.n0=0:=by rw[wW]
 have adX:t0.nn=g2.n:=by rw[wW]
 have adY:t0.bt=bt:=by rw[wW]
 have T9:t0.fX=fX:=by rw[wW]
 have eS:t0.s=s:=by rw[wW]
 have aqz:t0.rv=jv.val:=by rw[wW]
 have aqA:t0.nv=jg.val:=by rw[wW]
 have mw:ZL la t0 (x' t0.P t0.nn) L:=by
  refine⟨Mk,al5 _ _,λk ae=>?_,λk=>by rw[cV];exact zI k,by omega,λk ae=>⟨by omega,?_⟩,λk _ ae=>?_,λk ae=>by omega⟩;·rw[cV,adX,IE];exact bV k (by omega)
  ·have:=(rl k).1 ae;omega
  ·exact(rl k).2 (by omega)
 have w9:=akZ mw (gN:=gN) (nN:=g2.n) (cN:=cN) hS fP (by omega) (by omega) (low:=0) (bF _);rw[adY]at w9;refine a9.mk [t0.aO (x' t0.P t0.nn),dL gN cN] [] _ (by rw[P5];exact .swap _ _ _) w9 ?_;rintro v ql tp -⟨rfl,T,f1,f2,f3,rfl⟩;intro aqB;have T':ql fX=none:=by have:=aqB.d (t0.aO T) (.head _);rw[<-T9];exact this
 have rC:t0.ok ql T:=Mk.u7 λk ae b=>by omega
 refine⟨ins ql fX (.cells (t0.cs T).toArray 107 (0,0)),[],.n2 (by rw[<-T9];rfl) (by simp) .refl,λb o h=>ku T' _ _ (Ju _ _ (NO _ _ h)),rfl,.inr (.inr ⟨s4,ax,{ t0 with n0:=t0.nn },T,by show _=Value.tuple #[ptr t0.bt,.int .i64 0];rw[adY],?_⟩)⟩;have adZ:∀ b o,I' b=some o->ins ql fX (.cells (t0.cs T).toArray 107 (0,0)) b=some o:=λb o h=>ku T' _ _ (Ju _ _ h);refine⟨rC.oB (ku T') (by rw[T9];exact pJ ..),f1,cV,eS,λk b=>by rw[<-cV];exact f2 k b (bF _),rfl,adX.trans IE,⟨jv.a.map λg=>⟨g,0,none⟩,jv.c,?_,?_⟩,⟨jg.a.map λg=>⟨g,0,none⟩,jg.c,?_,?_⟩⟩
 ·show t0.rv=_;rw[aqz,bf.val,lW]
 ·rw[<-lW];exact aqu.mono adZ
 ·show t0.nv=_;rw[aqA,bf.val,adS]
 ·rw[<-adS];exact JF.mono adZ
def fl(x:Nat×Nat):List Value:=[.int .i64 x.1,.int .i64 x.2]
def mL(x:Nat×Nat):(fl x).length=2:=rfl
structure ad0(A dy:List (Nat×Nat))(kA:bf)(x:Nat×bf×List (Nat×Nat)):Prop where
 i:2*x.1<=dy.length+1
 ok:x.2.1.ok 2 ((A++x.2.2).flatMap fl)
 len:x.2.2.length=dy.length
 ai:∀ k,k<dy.length->x.2.2[k]?=if k<x.1\/dy.length<=k+x.1 then dy[dy.length-1-k]? else dy[k]?
 a:x.2.1.a=kA.a
 v:x.2.1.val=kA.val
def ad1(Ba:kA.ok 2 ((A++dy).flatMap fl))(ag:kA.n<=1099511627776)(bz:ln=dy.length)(bM:0<dy.length->∃ g,kA.a=some g/\ad=some ⟨g,A.length*2,none⟩) :
  Spec Tryz.prog 123 [.slice ad ln NE] I (bi++(kA.aO 223++post)) λv I' M'=>I'=I/\∃ os':bf,os'.val=kA.val/\os'.ok 2 ((A++dy.reverse).flatMap fl)/\M'=bi++(os'.aO 223++post):=by
 subst bz;refine bY [] aV Tryz.func123 rfl rfl rfl ?_;intro B ay;have EV:A.length+dy.length=kA.n:=by have:=Ba.len;rw[fu _ 2 mL,di]at this;omega
 refine bb.mk ((dy.length:Int)-1) (ei rfl (by omega)) ?_;refine ea.inv (ι:=Nat×bf×List (Nat×Nat)) (λx=>{ bK:=[(0,.val (.slice ad dy.length NE)),(2,.val (.int .i64 x.1)),(3,.val (.int .i64 ((dy.length:Int)-1-x.1)))],cl:=[],dz:=I,d':=bi++(x.2.1.aO 223++post) }) (λx=>ad0 A dy kA x) (λx=>dy.length-x.1) ?_ ?_
 ·refine⟨(0,kA,dy),⟨by simp,Ba,rfl,λk ae=>?_,rfl,rfl⟩,.refl,.cons .refl (.cons .refl (.cons ?_ .nil)),.nil⟩
  ·simp only;rw[b8 (by omega)]
  ·simp only[Int.ofNat_zero,Int.sub_zero];exact .refl
 rintro⟨i,os,l⟩⟨hi,cr,cg,hl,z6,DL⟩;simp only at hi cr cg hl z6 DL;refine aM.mk (λh=>?_) (λh=>?_)
 rotate_left
 ·have cE:¬ (i:Int)<(dy.length:Int)-1-i:=cu h;refine⟨_,_,.refl,rfl,os,DL,?_,rfl⟩;have e:l=dy.reverse:=by
   refine Ci λk=>?_;by_cases ae:k<dy.length
   ·rw[hl k ae,List.getElem?_reverse ae];split
    ·rfl
    ·congr 1;omega
   ·rw[qR (by omega),qR (by rw[ky];omega)]
  rw[<-e];exact cr
 have a0:(i:Int)<(dy.length:Int)-1-i:=cm h;obtain⟨j,an⟩:∃ j:Nat,(dy.length:Int)-1-i=(j:Int):=⟨dy.length-1-i,by omega⟩;have fq:i<l.length:=by omega
 have fp:j<l.length:=by omega
 obtain⟨g,lI,rfl⟩:=bM (by omega);have Ac:=z6.trans lI;have row:∀ {os:bf} {l:List (Nat×Nat)} (h:os.ok 2 ((A++l).flatMap fl)) (aH:os.a=some g) (q:Nat) (aL:q<l.length) {M:List aF},(∀ x∈os.aO 223,x∈M)->cx I M ((⟨g,A.length*2,none⟩:Addr).add (q*2)) 2 (fl l[q]):=fun {os l} h aH q aL {M} a2=>by
  have:=bf.ai (I:=I) (M:=M) (e:=223) mL (by decide) h a2 aH (i:=A.length+q) (by rw[di];omega);rw[dY _ rfl,<-j3];have e:(A++l)[A.length+q]'(by rw[di];omega)=l[q]:=by rw[adm (by omega)];congr 1;omega
  rwa [e]at this
 have JG:∀ {os:bf} {l:List (Nat×Nat)} (h:os.ok 2 ((A++l).flatMap fl)) (aH:os.a=some g) (q:Nat) (aL:q<l.length) (x:Nat×Nat) {K:List aF->Prop},(∀ os':bf,os'.val=os.val->os'.a=os.a->os'.ok 2 ((A++l.set q x).flatMap fl)->K (bi++(os'.aO 223++post))) ->
   cc (bi++(os.aO 223++post)) ((⟨g,A.length*2,none⟩:Addr).add (q*2)) (fl x) K:=fun {os l} h aH q aL x {K} k=>by
  rw[dY _ rfl];refine bf.put fl 2 mL h (i:=A.length+q) (by rw[di];omega) 0 (vs:=fl x) (b2 2) rfl x ?_ bi post rfl aH (by simp only;omega) ?_;·show bQ (fl _) 0 (fl x)=fl x;rfl
  ·intro os' aC aA bx cU;rw[EN _ _ (by omega),LV]at cU;exact k os' aC aA cU
 refine cq.draw aV rfl rfl rfl ?_;refine bl.mk ⟨g,A.length*2,none⟩ j rfl an (by omega) ?_;refine aw.mk _ (row cr Ac j fp λz bk=>oI _ (r0 _ bk)) ?_;refine bl.mk ⟨g,A.length*2,none⟩ i rfl rfl (by omega) ?_;refine aw.mk _ (row cr Ac i fq λz bk=>oI _ (r0 _ bk)) ?_;refine bl.mk ⟨g,A.length*2,none⟩ i rfl rfl (by omega) ?_;refine JG cr Ac i fq l[j] ?_;intro b5 hN JH gb;refine bl.mk ⟨g,A.length*2,none⟩ j rfl an (by omega) ?_;refine JG gb (JH.trans Ac) j (by rw[qz];exact fp) l[i] ?_;intro tM tE Ua to;refine bb.mk _ (c7 (i:=i) (by omega)) ?_;refine bb.mk ((dy.length:Int)-1-((i+1:Nat):Int)) (by rw[wrap_i64 ⟨by omega,by omega⟩];omega) ?_;refine⟨(i+1,tM,(l.set i l[j]).set j l[i]),⟨⟨by simp only;omega,to,by simp only[qz];exact cg,λk ae=>?_,(Ua.trans JH).trans z6,(tE.trans hN).trans DL⟩,by simp only;omega⟩,.refl,gX,.nil⟩;have Ab:l[j]?=dy[j]?:=by rw[hl j (by omega),b8 (by omega)]
 have aP:l[i]?=dy[i]?:=by rw[hl i (by omega),b8 (by omega)]
 have Ub:l[j]=dy[j]'(by omega):=by rw[g5 fp,g5 (by omega)]at Ab;exact ld Ab
 have Uc:l[i]=dy[i]'(by omega):=by rw[g5 fq,g5 (by omega)]at aP;exact ld aP
 simp only;rw[qi,qi];by_cases aC:j=k
 ·subst aC;rw[cF rfl,cF (by rw[qz];exact fp),cF (by omega),Uc,<-g5];congr 1;omega
 ·rw[b8 aC];by_cases aA:i=k
  ·subst aA;rw[cF rfl,cF fq,cF (by omega),Ub,<-g5];congr 1;omega
  ·rw[b8 aA,hl k ae];by_cases bx:k<i\/dy.length<=k+i
   ·rw[cF bx,cF (by omega)]
   ·rw[b8 bx,b8 (by omega)]
def ke.known{kn:Nat->Nat->bo}(h:ke m R kn){k p:Nat}(ae:k<R.length)(aK:p<m.w)(cR:(kn k p).ao≠0):∃ b,R[k].b=some b:=by
 cases ag:R[k].b with
 |some b=>exact⟨b,rfl⟩| none=>have U:=h.none _ (dr ae) ag;have aa:=h.ai k ae p (by rw[U];simpa using aK);rw[<-aa]at cR;simp[U,hC]at cR
def Gc(b ez:Nat):aF:=⟨b,.cells [ptr ez].toArray 136 (0,0)⟩
def BK(b av:Nat):aF:=⟨b,.cells [.int .i64 av].toArray 3 (0,0)⟩
def DM(b:Nat)(v:Value):aF:=⟨b,.cells [v].toArray 224 (0,0)⟩
structure NR(m:cz)(kn:Nat->Nat->bo)(R:List fL):Prop where
 aq:m.aq<=m.s.size
 size:m.s.size<=4096
 Is:ke m R kn
 kn:∀ k p,kU m.aZ (m.aq+p) (kn k p)
def qH(m:cz)(aU N:Nat)(osF:bf)(R:List fL)(b9 dA cK av:Nat)(os:bf):List aF:=du m aU N osF::dj m R::(cZ m R++(Gc b9 m.ez::BK dA av::DM cK os.val::os.aO 223))
def NS{kn:Nat->Nat->bo}(h:NR m kn R){N:Nat}(cM:R.length=N){k:Nat}(cr:os.ok 2 (L.flatMap fl))(ae:k<N)(U:m.aq<=av)(aa:av<=m.s.size)(cR:(kn k (av-m.aq)).ao≠0)(c4:(kn k (av-m.aq)).ao=3->(kn k (av-m.aq)).n≠0->L.length<=1048576) :
  Spec Tryz.prog 188 [.int .i64 k,ptr b9,ptr dA,ptr cK] I (qH m aU N osF R b9 dA cK av os) λv I' M'=>I'=I /\
   (((kn k (av-m.aq)).ao≠3/\v=.bool false/\M'=qH m aU N osF R b9 dA cK av os) \/
    ((kn k (av-m.aq)).ao=3/\v=.bool true/\∃ os':bf,os'.ok 2 ((L++bif Nat.beq (kn k (av-m.aq)).n 0 then []else [(k,av)]).flatMap fl)/\M'=qH m aU N osF R b9 dA cK (kn k (av-m.aq)).av os')):=by
 refine bY [] aV Tryz.func188 rfl rfl rfl ?_;intro B ay;have pF:=h.aq;have cI:=h.size;have aK:av-m.aq<m.w:=by show _<m.s.size-m.aq+1;omega
 have hw:m.w<=9223372036854775807:=by show m.s.size-m.aq+1<=_;omega
 have rA:k<R.length:=by omega
 obtain⟨b,mE⟩:=h.Is.known rA aK cR;have kS:=Iu (h.kn k (av-m.aq)) cI;have EV:os.n=L.length:=by have:=cr.len;rw[fu _ 2 mL]at this;omega
 refine aw.mk _ (dt (k:=0) (n:=1) (cs:=[ptr m.ez]) (T:=136) (b:=b9) (.tail _ (.tail _ (oI _ (.head _)))) (by simp)) ?_;refine aw.mk _ (dt (k:=0) (n:=1) (cs:=[.int .i64 av]) (T:=3) (b:=dA) (.tail _ (.tail _ (oI _ (.tail _ (.head _))))) (by simp)) ?_;refine a9.whole _ (Rw m pF cI (aU:=aU) (N:=N) (os:=osF) cM rA mE U aa) ?_;rintro v I' M' -⟨rfl,rfl,rfl⟩;have br:∀ {M:List aF},(∀ x∈cZ m R,x∈M)->cx I' M ⟨b,(av-m.aq)*3,none⟩ 3 (kn k (av-m.aq)).cells:=λa2=>h.Is.rd hw rA mE aK a2;generalize aJ:kn k (av-m.aq)=c at kS cR c4 br |-;refine aw.mk _ ((br (λx ab=>.tail _ (.tail _ (r0 _ ab)))).part (k:=2) (m:=1) (by decide)) ?_;refine aM.mk (λe=>?_) (λe=>?_)
 ·have a':c.ao≠3:=λaA=>by rw[aA]at e;cases e
  exact⟨_,_,.refl,rfl,.inl ⟨a',rfl,rfl⟩⟩
 have af:c.ao=3:=by have aA:(!decide ((c.ao:Int)=3))=false:=e;simp only[vS,eY]at aA;omega
 refine aw.mk _ ((br (λx ab=>.tail _ (.tail _ (r0 _ ab)))).part (k:=0) (m:=1) (by decide)) ?_;refine aM.mk (λe=>?_) (λe=>?_)
 ·have hP:c.n≠0:=by have:(0:Int)<(c.n:Int):=cm e;omega
  have zd:Nat.beq c.n 0=false:=by rw[lB];exact λe=>hP (cj e)
  have Ng:=c4 af hP;refine aw.mk _ (dt (k:=0) (n:=1) (cs:=[os.val]) (T:=224) (b:=cK) (.tail _ (.tail _ (oI _ (.tail _ (.tail _ (.head _)))))) (by simp)) ?_;refine aw.mk _ (dt (k:=0) (n:=1) (cs:=[.int .i64 av]) (T:=3) (b:=dA) (.tail _ (.tail _ (oI _ (.tail _ (.head _))))) (by simp)) ?_;refine cy.mk λcS g7 jD=>?_;refine bE.It aV rfl (by simp) (e:=223) rfl rfl rfl os cr rfl (cs:=fl (k,av)) rfl rfl rfl (du m aU N osF::dj m R::(cZ m R++[Gc b9 m.ez,BK dA av,DM cK os.val])) (by simp[qH,Gc,BK,DM,fl];rfl) (by omega) (by show(os.n+1)*16<=_;omega) ?_;rintro fE vX-q4;refine cc.mk (du m aU N osF::dj m R::(cZ m R++[Gc b9 m.ez,BK dA av])) (fE.aO 223) [os.val].toArray 224 (by simp[DM]) rfl (bP rfl) rfl ?_;refine aw.mk _ ((br (λx ab=>by simp[ab])).part (k:=1) (m:=1) (by decide)) ?_;refine bb.mk (c.av:Int) (ei rfl (by omega)) ?_;refine cc.mk (du m aU N osF::dj m R::(cZ m R++[Gc b9 m.ez])) (DM cK fE.val::fE.aO 223) [.int .i64 av].toArray 3 (by simp[BK,DM];rfl) rfl (bP rfl) rfl ?_;refine⟨_,qH m aU N osF R b9 dA cK c.av fE,.o6 (by simp[qH,BK];rfl),rfl,.inr ⟨af,rfl,fE,?_,rfl⟩⟩;rw[zd,aQ,mr];simpa using q4
 ·have hP:c.n=0:=by have:¬ (0:Int)<(c.n:Int):=cu e;omega
  refine aw.mk _ ((br (λx ab=>.tail _ (.tail _ (r0 _ ab)))).part (k:=1) (m:=1) (by decide)) ?_;refine bb.mk (c.av:Int) (ei rfl (by omega)) ?_;refine cc.mk (du m aU N osF::dj m R::(cZ m R++[Gc b9 m.ez])) (DM cK os.val::os.aO 223) [.int .i64 av].toArray 3 (by simp[qH,BK]) rfl (bP rfl) rfl ?_;refine⟨_,qH m aU N osF R b9 dA cK c.av os,.o6 (by simp[qH,BK];rfl),rfl,.inr ⟨af,rfl,os,?_,rfl⟩⟩;rw[hP,show Nat.beq 0 0=true from rfl,a4,eo];exact cr
def uc{A:aF}:(rS::ua::ub::A::vk::(F5++D)).Perm (A::vk::(F5++(ub::rS::ua::D))):=by have U:([rS,ua,ub]:List aF).Perm [ub,rS,ua]:=(by decide:[0,1,2].Perm [2,0,1]).map λi=>[rS,ua,ub].getD i rS;exact(U.append_right (A::vk::(F5++D))).trans (EM [ub,rS,ua] (A::vk::F5) D)
def NT{A:aF}:List.Sublist (A::vk::(F5++D)) (A::vk::(F5++(ub::rS::ua::D))):=
 .cons_cons _ (.cons_cons _ (TX (.refl _) (.cons _ (.cons _ (.cons _ (.refl _))))))
def Ud(b9 dA cK:Nat):Value:=.func (.func 188) #[] #[ptr b9,ptr dA,ptr cK]
structure DN(m:cz)(L parts:List (Nat×Nat))(au:List (Nat×Nat))(av:Nat)(os:bf):Prop where
 lo:m.aq<=av
 hi:av<=m.s.size
 ok:∃ lL,os.ok 2 ((L++lL).flatMap fl)/\lL++au=parts
def DN.next{p:List (Nat×Nat)}(dg:m.aq<=av)(aJ:av<=z7/\z7<=m.s.size)(bw:b5.ok 2 (((L++lL)++p).flatMap fl))(fi:lL++(p++au)=parts):DN m L parts au z7 b5:=
 ⟨by omega,aJ.2,lL++p,by rw[<-gz];exact bw,by rw[gz];exact fi⟩
def ad2{kn:Nat->Nat->bo}(h:NR m kn R)(gp:m.ns.ok I)(cV:iw m.aZ)(cM:R.length=m.ns.n)(cr:os.ok 2 (L.flatMap fl)){k a:Nat}(ae:k<m.ns.n)(U:m.aq<=a)(aa:a<=m.s.size)(aK:je m.aZ kn k a parts)(ag:L.length+parts.length<=1048576) :
  Spec Tryz.prog 122 [ptr m.ez,os.val,.agg #[.int .i64 k,.int .i64 a]] I (du m aU m.ns.n osF::dj m R::(cZ m R++os.aO 223)) λv I' M'=>I'=I/\∃ os':bf,v=os'.val/\os'.ok 2 ((L++parts).flatMap fl)/\M'=du m aU m.ns.n osF::dj m R::(cZ m R++os'.aO 223):=by
 refine bY [3,4,8] aV Tryz.func122 rfl rfl rfl ?_;intro B ay;obtain⟨x,zM,u6,gw,kf,ad,b3,br⟩:=Fb gp ae;have ir:x.bd.length=x.n:=by have:=kf.bj.len;simpa using this
 have cI:=h.size;have pF:=h.aq;have wX:=bm.rm cV (k:=k) (by simp[cz.aZ,gp.n];exact ae);have cg:=wX.len;have ad3:=wX.bd;have hM:=wX.one;rw[gw]at cg ad3 hM;have tP:m.aZ.ns.length=m.ns.n:=by simp[cz.aZ,gp.n]
 have auF:x.bd.length<=1024:=cg;have ask:∀ j (an:j<x.bd.length),x.bd[j]<m.ns.n/\∃ iB,x.a=some iB/\∀ M,cx I M (iB.add (j*1)) 1 [Value.int .i64 ((x.bd[j]:Nat):Int)]:=λj an=>by obtain⟨iB,U,aa⟩:=kf.bj.one (f:=λ(k:Nat)=>Value.int .i64 (k:Int)) (j:=j) (by omega) an;exact⟨by rw[<-tP];exact ad3 _ (dr an),iB,U,λM=>aa M⟩
 unfold je at aK;rw[gw]at aK;have NU:m.aZ.aq=m.aq:=rfl;rw[NU]at aK;refine cy.mk λb9 jU Rz=>?_;refine cy.mk λcK Mn Iz=>?_;refine cq.draw aV rfl rfl rfl ?_;refine aw.mk _ (dt (k:=0) (n:=1) (cs:=[ptr m.ez]) (T:=136) (b:=b9) (.tail _ (.head _)) (by simp)) ?_;refine aw.mk _ (fv (k:=4) (.tail _ (.tail _ (.head _))) (by decide)) ?_;refine bl.mk ad k b3 rfl ae ?_;refine cy.mk λdA LD RL=>?_;refine cc.mk [] _ [.int .i64 0].toArray 3 rfl rfl (bP rfl) rfl ?_;refine aw.mk _ (sL br (off:=0) (n:=1) (by decide) _) ?_;have JI:∀ {q av:Nat},m.aq<=av->(kn q (av-m.aq)).ao=3->av<=(kn q (av-m.aq)).av/\(kn q (av-m.aq)).av<=m.s.size:=fun {q av} dg af=>by have:=((h.kn q (av-m.aq)).m af);rw[oc dg]at this;exact⟨this.1,this.2.1⟩
 have fin:∀ {av:Nat} {os:bf},DN m L parts [] av os->os.ok 2 ((L++parts).flatMap fl):=λhw=>by obtain⟨lL,ed,dP⟩:=hw.ok;rw[eo]at dP;rwa [dP]at ed
 have g2:∀ {os:bf} {l:List (Nat×Nat)},os.ok 2 (l.flatMap fl)->l.length=os.n:=λh=>by have:=h.len;rw[fu _ 2 mL]at this;omega
 refine aM.mk (λgg=>?_) (λgg=>?_)
 ·have bp:x.pn.d.k=6:=cm gg;rw[cF bp]at aK;have Ip:x.bd.length=1:=hM (by right;show(6:Int)<=x.pn.d.k;omega);obtain⟨hP,iB,ue,ph⟩:=ask 0 (by omega);have Ie:x.bd.getD 0 0=x.bd[0]:=by simp[dB,Ip]
  have xI:kX kn m.aq x.bd[0] x.d.hi 0 a parts:=by rw[<-Ie];exact aK
  refine ea.inv (ι:=Nat×Nat×bf) (λy=>{ bK:=[(4,.val (ptr cK)),(7,.val (.pointer (some (ad.add (k*10))))),(9,.val (Ud b9 dA cK)),(10,.val (.int .i64 y.1))],dz:=I,d':=qH m aU m.ns.n osF R b9 dA cK y.2.1 y.2.2 }) (λy=>y.1<=1000001/\∃ au,kX kn m.aq x.bd[0] x.d.hi y.1 y.2.1 au/\DN m L parts au y.2.1 y.2.2) (λy=>1000002-y.1) ?_ ?_;·exact⟨(0,a,os),⟨by simp,parts,xI,U,aa,[],by rw[eo];exact cr,rfl⟩,.perm uc .refl,fo,.nil⟩
  rintro⟨t,av,fE⟩⟨aI,au,gB,hw⟩;simp only at aI gB hw;have jN:=hw.lo;have gy:=hw.hi;obtain⟨lL,q4,fi⟩:=hw.ok;have tB:(L++lL).length<=1048576:=by have:=congrArg List.length fi;rw[di]at this |-;omega
  cases gB with
  |stop ax=>
   refine aw.mk _ (sL br (off:=7) (n:=1) (by decide) _) ?_;refine c0.mk (λe=>?_) (λ_=>?_);·have aA:(!decide ((t:Int)=x.d.hi))=true:=e;rw[ax]at aA;simp at aA
   refine aw.mk _ (dt (k:=0) (n:=1) (cs:=[fE.val]) (T:=224) (b:=cK) (.tail _ (.tail _ (oI _ (.tail _ (.tail _ (.head _)))))) (by simp)) ?_;exact⟨_,_,.sub NT .refl,rfl,fE,rfl,fin hw,rfl⟩
  |fail ax jn=>
   refine aw.mk _ (sL br (off:=7) (n:=1) (by decide) _) ?_;refine c0.mk (λ_=>?_) (λe=>?_)
   rotate_left
   ·have aA:(!decide ((t:Int)=x.d.hi))=false:=e;simp only[vS,eY]at aA;exact absurd aA ax
   refine aw.mk _ ((br _).part (k:=9) (m:=1) (by decide)) ?_;refine bl.mk iB 0 ue rfl (by omega) ?_;refine aw.mk _ (ph _) ?_;refine a9.whole _ (NS h cM q4 hP jN gy (λe=>by rw[jn]at e;cases e) (λaf=>by rw[jn]at af;cases af)) ?_;rintro v I' M' -⟨rfl,⟨af,rfl,rfl⟩|⟨af,-⟩⟩;·refine aM.mk (λe=>by cases e) (λ_=>?_);refine aw.mk _ (dt (k:=0) (n:=1) (cs:=[fE.val]) (T:=224) (b:=cK) (.tail _ (.tail _ (oI _ (.tail _ (.tail _ (.head _)))))) (by simp)) ?_;exact⟨_,_,.sub NT .refl,rfl,fE,rfl,fin hw,rfl⟩
   ·rw[jn]at af;cases af
  | @more _ _ l NL ax er r=>
   have ft:=JI jN er;refine aw.mk _ (sL br (off:=7) (n:=1) (by decide) _) ?_;refine c0.mk (λ_=>?_) (λe=>?_)
   rotate_left
   ·have aA:(!decide ((t:Int)=x.d.hi))=false:=e;simp only[vS,eY]at aA;exact absurd aA ax
   refine aw.mk _ ((br _).part (k:=9) (m:=1) (by decide)) ?_;refine bl.mk iB 0 ue rfl (by omega) ?_;refine aw.mk _ (ph _) ?_;refine a9.whole _ (NS h cM q4 hP jN gy (λe=>by rw[er]at e;cases e) (λ_ _=>tB)) ?_;rintro v I' M' -⟨rfl,⟨af,-⟩|⟨af,rfl,b5,gb,rfl⟩⟩;·exact absurd er af
   ·refine aM.mk (λ_=>?_) (λe=>by cases e);refine bb.mk _ (c7 (i:=t) (by omega)) ?_;exact⟨(t+1,_,b5),⟨⟨by simp only;omega,l,r,DN.next jN ft gb fi⟩,by simp only;omega⟩,.refl,fo,.nil⟩
 have uY:¬ x.pn.d.k=6:=cu gg;rw[b8 uY]at aK;refine aM.mk (λe8=>?_) (λe8=>?_)
 ·have bq:x.pn.d.k=5:=cm e8;rw[cF bq]at aK;obtain⟨tL,pT⟩:=aK;refine aw.mk _ ((br _).part (k:=9) (m:=1) (by decide)) ?_;refine ea.inv (ι:=Nat) (λj=>{ bK:=[(4,.val (ptr cK)),(9,.val (Ud b9 dA cK)),(69,.val (.slice x.a x.n x.c)),(70,.val (.int .i64 x.n)),(71,.val (.int .i64 j))],dz:=I,d':=qH m aU m.ns.n osF R b9 dA cK a os }) (λj=>j<=x.bd.length/\sv kn m.aq (x.bd.drop j) a/\parts=kW kn m.aq (x.bd.drop j) a) (λj=>x.bd.length-j) ?_ ?_
  ·exact⟨0,⟨bF _,tL,pT⟩,.perm uc .refl,jj,.nil⟩
  rintro j⟨an,kt,mo⟩;refine aM.mk (λe=>?_) (λe=>?_)
  rotate_left
  ·have cE:¬ (j:Int)<(x.n:Int):=cu e;rw[iG (by omega)]at kt;exact kt.elim
  have a0:(j:Int)<(x.n:Int):=cm e;have fp:j<x.bd.length:=by omega
  obtain⟨ly,iB,ue,ph⟩:=ask j fp;rw[fg fp]at kt mo;have cR:(kn x.bd[j] (a-m.aq)).ao≠0:=by
   rcases kt with e | e<;>omega
  refine bl.mk iB j ue rfl (by omega) ?_;refine aw.mk _ (ph _) ?_;refine a9.whole _ (NS h cM cr ly U aa cR (λ_ _=>by omega)) ?_;rintro v I' M' -⟨rfl,⟨af,rfl,rfl⟩|⟨af,rfl,b5,gb,rfl⟩⟩
  ·refine aM.mk (λe=>by cases e) (λ_=>?_);refine bb.mk _ (c7 (i:=j) (by omega)) ?_;have jU:Nat.beq (kn x.bd[j] (a-m.aq)).ao 3=false:=by rw[lB];exact λe=>af (cj e)
   refine⟨j+1,⟨⟨by omega,?_,?_⟩,by omega⟩,.refl,jj,.nil⟩
   ·rcases kt with e | e
    ·exact absurd e af
    ·exact e.2
   ·rw[mo];simp only[kW,jU,aQ]
  ·refine aM.mk (λ_=>?_) (λe=>by cases e);have he:parts=bif Nat.beq (kn x.bd[j] (a-m.aq)).n 0 then []else [(x.bd[j],a)]:=by rw[mo];simp only[kW,af];rfl
   refine aw.mk _ (dt (k:=0) (n:=1) (cs:=[b5.val]) (T:=224) (b:=cK) (.tail _ (.tail _ (oI _ (.tail _ (.tail _ (.head _)))))) (by simp)) ?_;exact⟨_,_,.sub NT .refl,rfl,b5,rfl,by rw[he];exact gb,rfl⟩
 have Mf:¬ x.pn.d.k=5:=cu e8;rw[b8 Mf]at aK;obtain⟨tL,pT⟩:=aK;refine aw.mk _ ((br _).part (k:=9) (m:=1) (by decide)) ?_;refine ea.inv (ι:=Nat×Nat×bf) (λy=>{ bK:=[(4,.val (ptr cK)),(9,.val (Ud b9 dA cK)),(33,.val (.slice x.a x.n x.c)),(34,.val (.int .i64 x.n)),(35,.val (.int .i64 y.1))],dz:=I,d':=qH m aU m.ns.n osF R b9 dA cK y.2.1 y.2.2 }) (λy=>y.1<=x.bd.length/\allM kn m.aq (x.bd.drop y.1) y.2.1/\DN m L parts (iP kn m.aq (x.bd.drop y.1) y.2.1) y.2.1 y.2.2) (λy=>x.bd.length-y.1) ?_ ?_
 ·exact⟨(0,a,os),⟨bF _,tL,U,aa,[],by rw[eo];exact cr,pT.symm⟩,.perm uc .refl,jj,.nil⟩
 rintro⟨j,av,fE⟩⟨an,kt,hw⟩;simp only at an kt hw;refine aM.mk (λe=>?_) (λe=>?_)
 rotate_left
 ·have cE:¬ (j:Int)<(x.n:Int):=cu e;rw[iG (by omega)]at hw;refine aw.mk _ (dt (k:=0) (n:=1) (cs:=[fE.val]) (T:=224) (b:=cK) (.tail _ (.tail _ (oI _ (.tail _ (.tail _ (.head _)))))) (by simp)) ?_;exact⟨_,_,.sub NT .refl,rfl,fE,rfl,fin hw,rfl⟩
 have a0:(j:Int)<(x.n:Int):=cm e;have fp:j<x.bd.length:=by omega
 obtain⟨ly,iB,ue,ph⟩:=ask j fp;rw[fg fp]at kt hw;obtain⟨er,mo⟩:=kt;have jN:=hw.lo;have gy:=hw.hi;obtain⟨lL,q4,fi⟩:=hw.ok;have tB:(L++lL).length<=1048576:=by have:=congrArg List.length fi;rw[di]at this |-;omega
 have ft:=JI jN er;refine bl.mk iB j ue rfl (by omega) ?_;refine aw.mk _ (ph _) ?_;refine a9.whole _ (NS h cM q4 ly jN gy (λe=>by rw[er]at e;cases e) (λ_ _=>tB)) ?_;rintro v I' M' -⟨rfl,⟨af,-⟩|⟨af,rfl,b5,gb,rfl⟩⟩
 ·exact absurd er af
 refine bb.mk _ (c7 (i:=j) (by omega)) ?_;refine⟨(j+1,_,b5),⟨⟨by simp only;omega,mo,DN.next jN ft gb ?_⟩,by simp only;omega⟩,.refl,jj,.nil⟩;rw[<-fi];simp only[iP,af];rw[show Nat.beq 3 3=true from rfl,a4];cases Nat.beq (kn x.bd[j] (av-m.aq)).n 0<;>rfl
structure uf(I:a5)(t:eU)(T:Nat->Nat->cP):Prop where
 ok:t.ok I T
 inv:kd t.P t.nn T
 all:∀ k b,(T k b).ce=bs t.P k b
 n0:t.n0=t.nn
 aG:∀ k,k<t.nn->x1 t.P t.nn k
 na:∀ k,x2 t.P k
 aZ:iw t.P
def uf.kn{T:Nat->Nat->cP}(h:uf I t T){k a:Nat}(aH:a<=t.s.size):eP t.P k a=h6 (T k a).ce:=by unfold eP;rw[sI (show a<=t.P.s.size from aH),h.all]
def uf.ao{T:Nat->Nat->cP}(h:uf I t T){k a:Nat}(aH:a<=t.s.size):((T k a).ao=2/\(eP t.P k a).ao=3/\(eP t.P k a).av=(T k a).av/\(eP t.P k a).n=min (T k a).n 65537)\/((T k a).ao≠2/\(eP t.P k a).ao≠3):=by
 rw[h.kn aH];rcases sH (h.inv.ao k a)with⟨e,a'⟩ | ⟨e,a'⟩ | ⟨e,a'⟩
 ·right
  rw[e,a'];exact⟨by decide,by decide⟩
 ·right
  rw[e,a'];exact⟨by decide,by decide⟩
 ·left
  rw[a'];exact⟨e,rfl,rfl,rfl⟩
def JJ(b bt:Nat):aF:=⟨b,.cells [ptr bt].toArray 30 (0,0)⟩
def Ue(b av:Nat):aF:=⟨b,.cells [.int .i64 av].toArray 3 (0,0)⟩
def NV(b:Nat)(v:Value):aF:=⟨b,.cells [v].toArray 255 (0,0)⟩
def yA(X:aF)(bt b9 dA cK av:Nat)(os:bf):List aF:=X::JJ b9 bt::Ue dA av::NV cK os.val::os.aO 254
def NW{T:Nat->Nat->cP}(h:uf I t T)(X:aF){k:Nat}(cr:os.ok 2 (L.flatMap fl))(ae:k<t.nn)(aa:av<=t.s.size)(c4:(T k av).ao=2->L.length<=1048576) :
  Spec Tryz.prog 216 [.int .i64 k,ptr b9,ptr dA,ptr cK] I (yA X t.bt b9 dA cK av os) λv I' M'=>I'=I /\
   (((eP t.P k av).ao≠3/\v=.bool false/\M'=yA X t.bt b9 dA cK av os) \/
    ((eP t.P k av).ao=3/\v=.bool true/\∃ os':bf,os'.ok 2 ((L++bif Nat.beq (eP t.P k av).n 0 then []else [(k,av)]).flatMap fl)/\M'=yA X t.bt b9 dA cK (eP t.P k av).av os')):=by
 refine bY [] aV Tryz.func216 rfl rfl rfl ?_;intro B ay;have bw:=h.ok;have cI:=bw.sz;have cR:=h.ao (k:=k) aa;obtain⟨hS,fP,hT⟩:=h.inv.rg k av ae aa;have fP:(T k av).av<=t.s.size:=fP;have EV:os.n=L.length:=by have:=cr.len;rw[fu _ 2 mL]at this;omega
 obtain⟨fb,k1,r,al,hv,-,lG⟩:=bw.row ae;have eb:t.n0<t.nn->∀ M:List aF,t.aO T∈M:=λe=>absurd e (by have:=h.n0;omega);refine cq.draw aV rfl rfl rfl ?_;refine aw.mk _ (dt (k:=0) (n:=1) (cs:=[ptr t.bt]) (T:=30) (b:=b9) (.tail _ (.head _)) (by simp)) ?_;refine aw.mk _ (bw.hU (j:=4) (by decide)) ?_;refine bl.mk fb k k1 rfl ae ?_;refine aw.mk _ (hv _) ?_;refine aw.mk _ (dt (k:=0) (n:=1) (cs:=[.int .i64 av]) (T:=3) (b:=dA) (.tail _ (.tail _ (.head _))) (by simp)) ?_;refine bl.mk r av rfl rfl (by show av<t.s.size+1;omega) ?_;refine aw.mk _ (lG _ (λe=>eb e _) av aa) ?_;generalize T k av=c at *;refine cy.mk λb6 K4 al1=>?_;refine cc.mk [] _ _ _ rfl rfl (bP rfl) rfl ?_;have l2:∀ {M:List aF} j,j+1<=4->(⟨b6,.cells c.cells.toArray 107 (0,0)⟩:aF)∈M->cx I M ((⟨b6,0,none⟩:Addr).add j) 1 ((c.cells.drop j).take 1):=λj an a2=>dt a2 an;refine aw.mk _ (l2 2 (by decide) (.head _)) ?_;refine aM.mk (λe=>?_) (λe=>?_)
 ·have a':c.ao≠2:=λaA=>by rw[aA]at e;cases e
  rcases cR with cR | cR;·exact absurd cR.1 a'
  exact⟨_,_,.sub (.cons _ (.refl _)) .refl,rfl,.inl ⟨cR.2,rfl,rfl⟩⟩
 have nl:c.ao=2:=by have aA:(!decide ((c.ao:Int)=2))=false:=e;simp only[vS,eY]at aA;omega
 rcases cR with⟨-,a3,a6,bN⟩ | cR
 rotate_left
 ·exact absurd nl cR.1
 refine aw.mk _ (l2 0 (by decide) (.head _)) ?_;refine aM.mk (λe=>?_) (λe=>?_)
 ·have hP:c.n≠0:=by have:(0:Int)<(c.n:Int):=cm e;omega
  have zd:Nat.beq (eP t.P k av).n 0=false:=by rw[lB];exact λe=>by have:=cj e;omega
  have Ng:=c4 nl;refine aw.mk _ (dt (k:=0) (n:=1) (cs:=[os.val]) (T:=255) (b:=cK) (.tail _ (.tail _ (.tail _ (.tail _ (.head _))))) (by simp)) ?_;refine aw.mk _ (dt (k:=0) (n:=1) (cs:=[.int .i64 av]) (T:=3) (b:=dA) (.tail _ (.tail _ (.tail _ (.head _)))) (by simp)) ?_;refine cy.mk λcS g7 jD=>?_;refine bE.It aV rfl (by simp) (e:=254) rfl rfl rfl os cr rfl (cs:=fl (k,av)) rfl rfl rfl [⟨b6,.cells c.cells.toArray 107 (0,0)⟩,X,JJ b9 t.bt,Ue dA av,NV cK os.val] rfl (by omega) (by show(os.n+1)*16<=_;omega) ?_;rintro fE vX-q4;refine cc.mk [⟨b6,.cells c.cells.toArray 107 (0,0)⟩,X,JJ b9 t.bt,Ue dA av] (fE.aO 254) [os.val].toArray 255 rfl rfl (bP rfl) rfl ?_;refine aw.mk _ (l2 1 (by decide) (.head _)) ?_;refine bb.mk (c.av:Int) (ei rfl (by omega)) ?_;refine cc.mk [⟨b6,.cells c.cells.toArray 107 (0,0)⟩,X,JJ b9 t.bt] (NV cK fE.val::fE.aO 254) [.int .i64 av].toArray 3 rfl rfl (bP rfl) rfl ?_;refine⟨_,yA X t.bt b9 dA cK c.av fE,.sub (.cons _ (.refl _)) .refl,rfl,.inr ⟨a3,rfl,fE,?_,by rw[a6]⟩⟩;rw[zd,aQ,mr];simpa using q4
 ·have hP:c.n=0:=by have:¬ (0:Int)<(c.n:Int):=cu e;omega
  refine aw.mk _ (l2 1 (by decide) (.head _)) ?_;refine bb.mk (c.av:Int) (ei rfl (by omega)) ?_;refine cc.mk [⟨b6,.cells c.cells.toArray 107 (0,0)⟩,X,JJ b9 t.bt] (NV cK os.val::os.aO 254) [.int .i64 av].toArray 3 rfl rfl (bP rfl) rfl ?_;refine⟨_,yA X t.bt b9 dA cK c.av os,.sub (.cons _ (.refl _)) .refl,rfl,.inr ⟨a3,rfl,os,?_,by rw[a6]⟩⟩;rw[bN,hP,show Nat.beq (min 0 65537) 0=true from rfl,a4,eo];exact cr
def Uf(b9 dA cK:Nat):Value:=.func (.func 216) #[] #[ptr b9,ptr dA,ptr cK]
structure DO(z:Nat)(L parts:List (Nat×Nat))(au:List (Nat×Nat))(av:Nat)(os:bf):Prop where
 hi:av<=z
 ok:∃ lL,os.ok 2 ((L++lL).flatMap fl)/\lL++au=parts
def DO.next{p:List (Nat×Nat)}(aJ:z7<=z)(bw:b5.ok 2 (((L++lL)++p).flatMap fl))(fi:lL++(p++au)=parts):DO z L parts au z7 b5:=
 ⟨aJ,lL++p,by rw[<-gz];exact bw,by rw[gz];exact fi⟩
def Ug:(rS::F6::ua::ub::D).Perm (F6::ub::rS::ua::D):=by have U:([rS,F6,ua,ub]:List aF).Perm [F6,ub,rS,ua]:=(by decide:[0,1,2,3].Perm [1,3,0,2]).map λi=>[rS,F6,ua,ub].getD i rS;exact U.append_right D
def NX:List.Sublist D (F6::ub::rS::ua::D):=.cons _ (.cons _ (.cons _ (.cons _ (.refl _))))
def ad4{T:Nat->Nat->cP}(h:uf I t T)(cr:os.ok 2 (L.flatMap fl)){k a:Nat}(ae:k<t.nn)(aa:a<=t.s.size)(aK:je t.P (eP t.P) k a parts)(ag:L.length+parts.length<=1048576) :
  Spec Tryz.prog 165 [ptr t.bt,os.val,.agg #[.int .i64 k,.int .i64 a]] I (os.aO 254) λv I' M'=>I'=I/\∃ os':bf,v=os'.val/\os'.ok 2 ((L++parts).flatMap fl)/\M'=os'.aO 254:=by
 refine bY [3,4,8] aV Tryz.func165 rfl rfl rfl ?_;intro B ay;have bw:=h.ok;have cI:=bw.sz;obtain⟨y,aT,gw,k0,o7,jb,ad,b3,br⟩:=bw.ai ae;have ev:=k0.kn;have auG:y.kn<=140737488355328:=by have:=k0.bj.cap.2;omega
 obtain⟨jq,Uh⟩:∃ jq,jq=y.aS.map Int.toNat:=⟨_,rfl⟩;have Ng:jq.length=y.aS.length:=by rw[Uh,eW]
 have ask:∀ j (an:j<jq.length),jq[j]<t.nn/\∃ iB,y.ml=some iB/\∀ M,cx I M (iB.add (j*1)) 1 [Value.int .i64 ((jq[j]:Nat):Int)]:=λj an=>by
  have ji:j<y.aS.length:=by omega
  obtain⟨iB,a3,a6⟩:=k0.bj.one (f:=λ(k:Int)=>Value.int .i64 k) (j:=j) (by omega) ji;have ab:=jb _ (dr ji);have e:jq[j]=y.aS[j].toNat:=by simp only[Uh,lu]
  rw[e];refine⟨ab.2,iB,a3,λM=>?_⟩;have e:((y.aS[j].toNat:Nat):Int)=y.aS[j]:=by omega
  rw[e];exact a6 M
 have hM:=(h.na k).one;unfold je at aK;rw[gw]at aK hM;have x9:y.pn.bd=jq:=Uh.symm;have NU:t.P.aq=0:=rfl;rw[NU,x9]at aK;rw[x9]at hM;refine cy.mk λb9 jU Rz=>?_;refine cy.mk λcK Mn Iz=>?_;refine cq.draw aV rfl rfl rfl ?_;refine aw.mk _ (dt (k:=0) (n:=1) (cs:=[ptr t.bt]) (T:=30) (b:=b9) (.tail _ (.head _)) (by simp)) ?_;refine aw.mk _ (bw.hU (j:=3) (by decide)) ?_;refine bl.mk ad k b3 rfl ae ?_;refine aw.mk _ (br _) ?_;refine cy.mk λb7 QP auH=>?_;refine cc.mk [] _ _ _ rfl rfl (bP rfl) rfl ?_;refine cy.mk λdA LD RL=>?_;refine cc.mk [] _ [.int .i64 0].toArray 3 rfl rfl (bP rfl) rfl ?_;have ec:∀ {M:List aF} j,j+1<=9->(⟨b7,.cells y.cells.toArray 83 (0,0)⟩:aF)∈M->cx I M ((⟨b7,0,none⟩:Addr).add j) 1 ((y.cells.drop j).take 1):=λj an a2=>dt a2 an;refine aw.mk _ (ec 0 (by decide) (.tail _ (.head _))) ?_;have JI:∀ {q av:Nat},av<=t.s.size->(eP t.P q av).ao=3->av<=(eP t.P q av).av/\(eP t.P q av).av<=t.s.size:=fun {q av} ix af=>by have:=(Zg (P:=t.P) rfl q av).m af;rw[NU,dp]at this;exact⟨this.1,this.2.1⟩
 have fin:∀ {av:Nat} {os:bf},DO t.s.size L parts [] av os->os.ok 2 ((L++parts).flatMap fl):=λhw=>by obtain⟨lL,ed,dP⟩:=hw.ok;rw[eo]at dP;rwa [dP]at ed
 have auI:∀ {os:bf} {av:Nat},(⟨b7,.cells y.cells.toArray 83 (0,0)⟩:aF)∈yA ⟨b7,.cells y.cells.toArray 83 (0,0)⟩ t.bt b9 dA cK av os:=.head _;have aN:∀ {os:bf} {av:Nat},cx I (yA ⟨b7,.cells y.cells.toArray 83 (0,0)⟩ t.bt b9 dA cK av os) ((⟨cK,0,none⟩:Addr).add 0) 1 (([os.val].drop 0).take 1):=fun {os av}=>dt (T:=255) (cs:=[os.val]) (.tail _ (.tail _ (.tail _ (.head _)))) (b2 _);have auJ:∀ j:Int,y.pn.d.k=j ↔ y.k=j:=λj=>Iff.rfl;refine aM.mk (λgg=>?_) (λgg=>?_)
 ·have bp:y.pn.d.k=6:=cm gg;rw[cF bp]at aK;obtain⟨q,aL⟩:=hM (.inr (by omega));have Ip:y.aS.length=1:=by rw[<-Ng,aL];rfl
  obtain⟨hP,iB,ue,ph⟩:=ask 0 (by omega);have b':jq[0]'(by omega)=q:=by simp only[aL];rfl
  rw[b']at hP ph;have xI:kX (eP t.P) 0 q y.hi 0 a parts:=by rw[aL]at aK;exact aK
  refine ea.inv (ι:=Nat×Nat×bf) (λz=>{ bK:=[(4,.val (ptr cK)),(7,.val (ptr b7)),(9,.val (Uf b9 dA cK)),(10,.val (.int .i64 z.1))],dz:=I,d':=yA ⟨b7,.cells y.cells.toArray 83 (0,0)⟩ t.bt b9 dA cK z.2.1 z.2.2 }) (λz=>z.1<=1000001/\∃ au,kX (eP t.P) 0 q y.hi z.1 z.2.1 au/\DO t.s.size L parts au z.2.1 z.2.2) (λz=>1000002-z.1) ?_ ?_;·exact⟨(0,a,os),⟨by simp,parts,xI,aa,[],by rw[eo];exact cr,rfl⟩,.perm Ug .refl,fo,.nil⟩
  rintro⟨n,av,fE⟩⟨aI,au,gB,hw⟩;simp only at aI gB hw;have gy:=hw.hi;obtain⟨lL,q4,fi⟩:=hw.ok;have tB:(L++lL).length<=1048576:=by have:=congrArg List.length fi;rw[di]at this |-;omega
  cases gB with
  |stop ax=>
   refine aw.mk _ (ec 7 (by decide) (.head _)) ?_;refine c0.mk (λe=>?_) (λ_=>?_);·have aA:(!decide ((n:Int)=y.hi))=true:=e;rw[ax]at aA;simp at aA
   refine aw.mk _ aN ?_;exact⟨_,_,.sub NX .refl,rfl,fE,rfl,fin hw,rfl⟩
  |fail ax jn=>
   have jn:(eP t.P q av).ao=2:=jn;refine aw.mk _ (ec 7 (by decide) (.head _)) ?_;refine c0.mk (λ_=>?_) (λe=>?_)
   rotate_left
   ·have aA:(!decide ((n:Int)=y.hi))=false:=e;simp only[vS,eY]at aA;exact absurd aA ax
   refine aw.mk _ (ec 8 (by decide) (.head _)) ?_;refine bl.mk iB 0 ue rfl (by omega) ?_;refine aw.mk _ (ph _) ?_;refine a9.whole _ (NW h _ q4 hP gy (λ_=>tB)) ?_;rintro v I' M' -⟨rfl,⟨af,rfl,rfl⟩|⟨af,-⟩⟩;·refine aM.mk (λe=>by cases e) (λ_=>?_);refine aw.mk _ aN ?_;exact⟨_,_,.sub NX .refl,rfl,fE,rfl,fin hw,rfl⟩
   ·rw[jn]at af;cases af
  | @more _ _ l NL ax er r=>
   have er:(eP t.P q av).ao=3:=er;have r:kX (eP t.P) 0 q y.hi (n+1) (eP t.P q av).av l:=r;have ft:=JI gy er;refine aw.mk _ (ec 7 (by decide) (.head _)) ?_;refine c0.mk (λ_=>?_) (λe=>?_)
   rotate_left
   ·have aA:(!decide ((n:Int)=y.hi))=false:=e;simp only[vS,eY]at aA;exact absurd aA ax
   refine aw.mk _ (ec 8 (by decide) (.head _)) ?_;refine bl.mk iB 0 ue rfl (by omega) ?_;refine aw.mk _ (ph _) ?_;refine a9.whole _ (NW h _ q4 hP gy (λ_=>tB)) ?_;rintro v I' M' -⟨rfl,⟨af,-⟩|⟨af,rfl,b5,gb,rfl⟩⟩;·exact absurd er af
   ·refine aM.mk (λ_=>?_) (λe=>by cases e);refine bb.mk _ (c7 (i:=n) (by omega)) ?_;exact⟨(n+1,_,b5),⟨⟨by simp only;omega,l,r,DO.next ft.2 gb fi⟩,by simp only;omega⟩,.refl,fo,.nil⟩
 have uY:¬ y.pn.d.k=6:=cu gg;rw[b8 uY]at aK;refine aM.mk (λe8=>?_) (λe8=>?_)
 ·have bq:y.pn.d.k=5:=cm e8;rw[cF bq]at aK;obtain⟨tL,pT⟩:=aK;refine aw.mk _ (ec 8 (by decide) (.tail _ (.head _))) ?_;refine ea.inv (ι:=Nat) (λj=>{ bK:=[(4,.val (ptr cK)),(9,.val (Uf b9 dA cK)),(58,.val (.slice y.ml y.kn y.k7)),(59,.val (.int .i64 y.kn)),(60,.val (.int .i64 j))],dz:=I,d':=yA ⟨b7,.cells y.cells.toArray 83 (0,0)⟩ t.bt b9 dA cK a os }) (λj=>j<=jq.length/\sv (eP t.P) 0 (jq.drop j) a/\parts=kW (eP t.P) 0 (jq.drop j) a) (λj=>jq.length-j) ?_ ?_
  ·exact⟨0,⟨bF _,tL,pT⟩,.perm Ug .refl,jj,.nil⟩
  rintro j⟨an,kt,mo⟩;refine aM.mk (λe=>?_) (λe=>?_)
  rotate_left
  ·have cE:¬ (j:Int)<(y.kn:Int):=cu e;rw[iG (by omega)]at kt;exact kt.elim
  have a0:(j:Int)<(y.kn:Int):=cm e;have fp:j<jq.length:=by omega
  obtain⟨ly,iB,ue,ph⟩:=ask j fp;rw[fg fp]at kt mo;generalize jq[j]=q at ly ph kt mo;refine bl.mk iB j ue rfl (by omega) ?_;refine aw.mk _ (ph _) ?_;refine a9.whole _ (NW h _ cr ly aa (λ_=>by omega)) ?_;rintro v I' M' -⟨rfl,⟨af,rfl,rfl⟩|⟨af,rfl,b5,gb,rfl⟩⟩
  ·refine aM.mk (λe=>by cases e) (λ_=>?_);refine bb.mk _ (c7 (i:=j) (by omega)) ?_;have jU:Nat.beq (eP t.P q (a-0)).ao 3=false:=by rw[lB];exact λe=>af (cj e)
   refine⟨j+1,⟨⟨by omega,?_,?_⟩,by omega⟩,.refl,jj,.nil⟩
   ·rcases kt with e | e
    ·exact absurd e af
    ·exact e.2
   ·rw[mo];simp only[kW,jU,aQ]
  ·refine aM.mk (λ_=>?_) (λe=>by cases e);have he:parts=bif Nat.beq (eP t.P q a).n 0 then []else [(q,a)]:=by
    have jU:Nat.beq (eP t.P q (a-0)).ao 3=true:=by rw[show(eP t.P q (a-0)).ao=3 from af];rfl
    rw[mo];simp only[kW,jU,a4];rfl
   refine aw.mk _ aN ?_;exact⟨_,_,.sub NX .refl,rfl,b5,rfl,by rw[he];exact gb,rfl⟩
 have Mf:¬ y.pn.d.k=5:=cu e8;rw[b8 Mf]at aK;obtain⟨tL,pT⟩:=aK;refine aw.mk _ (ec 8 (by decide) (.tail _ (.head _))) ?_;refine ea.inv (ι:=Nat×Nat×bf) (λz=>{ bK:=[(4,.val (ptr cK)),(9,.val (Uf b9 dA cK)),(29,.val (.slice y.ml y.kn y.k7)),(30,.val (.int .i64 y.kn)),(31,.val (.int .i64 z.1))],dz:=I,d':=yA ⟨b7,.cells y.cells.toArray 83 (0,0)⟩ t.bt b9 dA cK z.2.1 z.2.2 }) (λz=>z.1<=jq.length/\allM (eP t.P) 0 (jq.drop z.1) z.2.1/\DO t.s.size L parts (iP (eP t.P) 0 (jq.drop z.1) z.2.1) z.2.1 z.2.2) (λz=>jq.length-z.1) ?_ ?_
 ·exact⟨(0,a,os),⟨bF _,tL,aa,[],by rw[eo];exact cr,pT.symm⟩,.perm Ug .refl,jj,.nil⟩
 rintro⟨j,av,fE⟩⟨an,kt,hw⟩;simp only at an kt hw;refine aM.mk (λe=>?_) (λe=>?_)
 rotate_left
 ·have cE:¬ (j:Int)<(y.kn:Int):=cu e;rw[iG (by omega)]at hw;refine aw.mk _ aN ?_;exact⟨_,_,.sub NX .refl,rfl,fE,rfl,fin hw,rfl⟩
 have a0:(j:Int)<(y.kn:Int):=cm e;have fp:j<jq.length:=by omega
 obtain⟨ly,iB,ue,ph⟩:=ask j fp;rw[fg fp]at kt hw;generalize jq[j]=q at ly ph kt hw;obtain⟨er,mo⟩:=kt;have er:(eP t.P q av).ao=3:=er;have gy:=hw.hi;obtain⟨lL,q4,fi⟩:=hw.ok;have tB:(L++lL).length<=1048576:=by have:=congrArg List.length fi;rw[di]at this |-;omega
 have ft:=JI gy er;refine bl.mk iB j ue rfl (by omega) ?_;refine aw.mk _ (ph _) ?_;refine a9.whole _ (NW h _ q4 ly gy (λ_=>tB)) ?_;rintro v I' M' -⟨rfl,⟨af,-⟩|⟨af,rfl,b5,gb,rfl⟩⟩
 ·exact absurd er af
 refine bb.mk _ (c7 (i:=j) (by omega)) ?_;refine⟨(j+1,_,b5),⟨⟨by simp only;omega,mo,DO.next ft.2 gb ?_⟩,by simp only;omega⟩,.refl,jj,.nil⟩;rw[<-fi];have jU:Nat.beq (eP t.P q (av-0)).ao 3=true:=by rw[show(eP t.P q (av-0)).ao=3 from af];rfl
 simp only[iP,jU,a4];show lL++((bif Nat.beq (eP t.P q av).n 0 then []else [(q,av)])++iP (eP t.P) 0 (jq.drop (j+1)) (eP t.P q av).av)=lL++bif Nat.beq (eP t.P q av).n 0 then iP (eP t.P) 0 (jq.drop (j+1)) (eP t.P q av).av else(q,av)::iP (eP t.P) 0 (jq.drop (j+1)) (eP t.P q av).av;cases Nat.beq (eP t.P q av).n 0<;>rfl
def e'.cells(c:e'):List Value:=[.string c.name,.int .i64 c.lo,.int .i64 c.hi]
def e'.dc(c:e'):c.cells.length=3:=rfl
structure ad5(m:cz)(kn:Nat->Nat->bo)(x:Nat×Nat):Prop where
 k:x.1<m.ns.n
 lo:m.aq<=x.2
 hi:x.2<=m.s.size
 ao:(kn x.1 (x.2-m.aq)).ao=3
def BL(m:cz)(kn:Nat->Nat->bo)(x:Nat×Nat):Prop:=ad5 m kn x/\(kn x.1 (x.2-m.aq)).n≠0
section
variable{m:cz}{kn:Nat->Nat->bo}
def ad6(h:∀ k p,kU m.aZ (m.aq+p) (kn k p)){q:Nat}(dg:m.aq<=av)(af:(kn q (av-m.aq)).ao=3):m.aq<=(kn q (av-m.aq)).av/\(kn q (av-m.aq)).av<=m.s.size:=by have:=(h q (av-m.aq)).m af;rw[oc dg]at this;exact⟨by omega,this.2.1⟩
def ad7(h:∀ k p,kU m.aZ (m.aq+p) (kn k p)):∀ (L:List Nat) (a:Nat),(∀ x∈L,x<m.ns.n)->m.aq<=a->a<=m.s.size->allM kn m.aq L a->∀ x∈iP kn m.aq L a,BL m kn x
 |[],a,_,_,_,_,x,ab=>by cases ab
 |k::L,a,c4,U,aa,⟨af,aN⟩,x,ab=>by
  have az:=ad6 h U af;have be:=ad7 h L _ (λx ab=>c4 x (.tail _ ab)) az.1 az.2 aN;simp only[iP,af]at ab;rw[show Nat.beq 3 3=true from rfl,a4]at ab;cases ay:Nat.beq (kn k (a-m.aq)).n 0 with
  |true=>rw[ay]at ab;exact be x ab
  |false=>
   rw[ay]at ab;rcases eu.1 ab with rfl | ab;·exact⟨⟨c4 k (.head _),U,aa,af⟩,λe=>by rw[e]at ay;cases ay⟩
   ·exact be x ab
def ad8:∀ (L:List Nat) (a:Nat),(∀ x∈L,x<m.ns.n)->m.aq<=a->a<=m.s.size->∀ x∈kW kn m.aq L a,BL m kn x
 |[],a,_,_,_,x,ab=>by cases ab
 |k::L,a,c4,U,aa,x,ab=>by
  simp only[kW]at ab;cases af:Nat.beq (kn k (a-m.aq)).ao 3 with
  |false=>rw[af]at ab;exact ad8 L a (λx ab=>c4 x (.tail _ ab)) U aa x ab
  |true=>
   rw[af,a4]at ab;cases ay:Nat.beq (kn k (a-m.aq)).n 0 with
   |true=>rw[ay]at ab;cases ab| false=>rw[ay,aQ,jw]at ab;subst ab;exact⟨⟨c4 k (.head _),U,aa,cj af⟩,λe=>by simp only at e;rw[e]at ay;cases ay⟩
def kX.ok(h:∀ k p,kU m.aZ (m.aq+p) (kn k p)){k:Nat}(ae:k<m.ns.n){hi:Int}{t a:Nat}{l:List (Nat×Nat)}(hw:kX kn m.aq k hi t a l):m.aq<=a->a<=m.s.size->∀ x∈l,BL m kn x:=by
 induction hw with
 |stop=>exact λ_ _ x ab=>by cases ab
 |fail=>exact λ_ _ x ab=>by cases ab
 | @more t a l ag ax af r be=>
  intro U aa x ab;have az:=ad6 h U af;rcases dV.1 ab with ab | ab
  ·cases ay:Nat.beq (kn k (a-m.aq)).n 0 with
   |true=>rw[ay]at ab;cases ab| false=>rw[ay,aQ,jw]at ab;subst ab;exact⟨⟨ae,U,aa,af⟩,λe=>by simp only at e;rw[e]at ay;cases ay⟩
  ·exact be az.1 az.2 x ab
def ad9(h:∀ k p,kU m.aZ (m.aq+p) (kn k p))(gp:m.ns.xs.length=m.ns.n)(cV:iw m.aZ){k a:Nat}(ae:k<m.ns.n)(U:m.aq<=a)(aa:a<=m.s.size)(aK:je m.aZ kn k a l):∀ x∈l,BL m kn x:=by
 have tP:m.aZ.ns.length=m.ns.n:=by simp[cz.aZ,gp]
 have aD:=bm.rm cV (k:=k) (by omega);have aE:∀ x∈(m.aZ.ai k).bd,x<m.ns.n:=λx ab=>by rw[<-tP];exact aD.bd x ab
 unfold je at aK;by_cases bp:(m.aZ.ai k).d.k=6
 ·rw[cF bp]at aK;have Ip:=aD.one (by omega);have aB:(m.aZ.ai k).bd.getD 0 0<m.ns.n:=by
   have e:(m.aZ.ai k).bd.getD 0 0=(m.aZ.ai k).bd[0]:=by simp[dB,Ip]
   rw[e];exact aE _ (dr (by omega))
  exact kX.ok h aB aK U aa
 ·rw[b8 bp]at aK;by_cases bq:(m.aZ.ai k).d.k=5
  ·rw[cF bq]at aK;rw[aK.2];exact ad8 _ _ aE U aa
  ·rw[b8 bq]at aK;rw[aK.2];exact ad7 h _ _ aE U aa aK.1
def NY(aB:qA m.aZ kn):∀ (L:List (Nat×Nat)),(∀ x∈L,BL m kn x)->∃ n l,hp m.aZ kn n L l/\L.length<=l.length
 |[],_=>⟨0,[],.nil,b2 _⟩
 |(k,a)::L,h=>by
  obtain⟨n,l,U,aa⟩:=NY aB L λx ab=>h x (.tail _ ab);obtain⟨⟨eJ,c3,gr,mZ⟩,CZ⟩:=h (k,a) (.head _);obtain⟨fK,c8,gF,gv,-⟩:=aB k (a-m.aq) mZ;have e:m.aZ.aq+(a-m.aq)=a:=by show m.aq+(a-m.aq)=a;simp only at c3;omega
  rw[e]at gF;refine⟨fK+n,c8++l,gF.app U,?_⟩;have:0<c8.length:=by unfold jA at gv;simp only at CZ;omega
  rw[di,eM];omega
end
def aqC{x y:aF}{l c8:List aF}(h:x=y)(bg:l=c8):x::l=y::c8:=by rw[h,bg]
def NZ{v nK:Value}(h:nK=v):xd (.val v) (.val nK):=by rw[h];exact .refl
def aea(A vk:aF)(C X Y:List aF):(A::vk::C)++(X++Y)++[]=A::vk::(C++(X++Y)):=by simp
def aeb(A vk:aF)(C X Y:List aF):A::vk::(C++(X++Y))=(A::vk::(C++X))++Y:=by simp
structure N0(m:cz)(kn:Nat->Nat->bo)(l:List e')(n:Nat)(L:List (Nat×Nat))(os gj:bf):Prop where
 os:os.ok 2 (L.reverse.flatMap fl)
 fA:∀ x∈L,ad5 m kn x
 aqD:L.length<=1\/∀ x∈L,BL m kn x
 g:∃ mA kZ,hp m.aZ kn n L kZ/\mA++kZ=l/\gj.ok 3 (mA.flatMap e'.cells)
def N0.len{kn:Nat->Nat->bo}{l:List e'}{gj:bf}(h:N0 m kn l n L os gj)(aB:qA m.aZ kn)(aE:l.length<=65536):L.length<=65537:=by
 rcases h.aqD with U | U
 ·omega
 ·obtain⟨mA,kZ,a3,a6,-⟩:=h.g;obtain⟨fK,c8,gF,gv⟩:=NY aB L U;have e:=a3.qB gF;subst e;have:=congrArg List.length a6;rw[di]at this;omega
def aqE{kn:Nat->Nat->bo}(h:NR m kn R)(gp:m.ns.ok I)(cV:iw m.aZ)(aB:qA m.aZ kn)(cM:R.length=m.ns.n){k a:Nat}(ae:k<m.ns.n)(U:m.aq<=a)(aa:a<=m.s.size)(af:(kn k (a-m.aq)).ao=3)
 {l:List e'} (jZ:hp m.aZ kn n [(k,a)] l) (aE:l.length<=65536) :
  Spec Tryz.prog 79 [ptr m.ez,.int .i64 k,.int .i64 a] I (du m aU m.ns.n osF::dj m R::cZ m R) λv I' M'=>I'=I/\∃ gj:bf,v=gj.val/\gj.ok 3 (l.flatMap e'.cells)/\M'=du m aU m.ns.n osF::dj m R::(cZ m R++gj.aO 110):=by
 refine bY [] aV Tryz.func79 rfl rfl rfl ?_;intro B ay;have cI:=h.size;have pF:=h.aq;have hw:m.w<=9223372036854775807:=by show m.s.size-m.aq+1<=_;omega
 refine cy.mk λUi jY aqF=>?_;refine ea.inv (ι:=Nat×List (Nat×Nat)×bf×bf) (λy=>{ bK:=[(0,.val (ptr m.ez)),(7,.val y.2.2.2.val),(8,.val y.2.2.1.val)],dz:=I,d':=du m aU m.ns.n osF::dj m R::(cZ m R++(y.2.2.1.aO 223++y.2.2.2.aO 110)) }) (λy=>N0 m kn l y.1 y.2.1 y.2.2.1 y.2.2.2) (λy=>y.1) ?_ ?_
 ·refine⟨(n,[(k,a)],⟨some Ui,1,1,fl (k,a)⟩,⟨none,0,0,[]⟩),⟨⟨rfl,λe=>(by cases e),λg aB=>⟨rfl,b2 _,by unfold maxLen;exact bP rfl,rfl⟩⟩,λx ab=>?_,.inl (b2 _),[],l,jZ,rfl,⟨rfl,λ_=>⟨rfl,rfl⟩,λg h=>(by cases h)⟩⟩,.perm ?_ .refl,gX,.nil⟩
  ·rw[jw.1 ab];exact⟨ae,U,aa,af⟩
  ·show(_::du m aU m.ns.n osF::dj m R::cZ m R:List aF).Perm (du m aU m.ns.n osF::dj m R::(cZ m R++([_]++[])));rw[eo];exact(i' (l₁:=du m aU m.ns.n osF::dj m R::cZ m R) (l₂:=[_])).symm
 rintro⟨n,L,os,gj⟩bX;have cg:=bX.len aB aE;obtain⟨cr,bL,DP,mA,kZ,iJ,oF,oG⟩:=bX;simp only at cr bL DP iJ oG cg;have sQ:os.n=L.length:=by have:=cr.len;rw[fu _ 2 mL,ky]at this;omega
 cases L with
 |nil=>
  refine aM.mk (λe=>?_) (λ_=>?_);·have:(0:Int)<(os.n:Int):=cm e;simp at sQ;omega
  cases iJ;rw[eo]at oF;subst oF;refine⟨_,_,.sub (M1:=du m aU m.ns.n osF::dj m R::(cZ m R++gj.aO 110)) (.cons_cons _ (.cons_cons _ (TX (.refl _) (mU _ _)))) .refl,rfl,gj,rfl,oG,rfl⟩
 |cons y au=>
  obtain⟨k,a⟩:=y;refine aM.mk (λ_=>?_) (λe=>?_)
  rotate_left
  ·have:¬ (0:Int)<(os.n:Int):=cu e;simp at sQ;omega
  obtain⟨s1,s2,eK,wy⟩:=bL (k,a) (.head _);simp only at s1 s2 eK wy;have aqG:os.n=au.length+1:=by simpa using sQ
  have zN:au.length<=65536:=by simp at cg;omega
  obtain⟨Ad,lI⟩:∃ g,os.a=some g:=by
   cases aH:os.a with
   |none=>have:=(cr.nil aH).1;omega| some g=>exact⟨g,rfl⟩
  obtain⟨ed,dP,gS,iq⟩:=cr.cap Ad lI;rw[oy]at cr iq;have x7:bf.ok ⟨os.a,au.length,os.c,os.aY⟩ 2 (au.reverse.flatMap fl):=by
   refine⟨by rw[fu _ 2 mL,ky],λe=>(by simp only at e;rw[lI]at e;cases e),λeD _=>⟨ed,by simp only;omega,gS,?_⟩⟩;simp only;have aC:((au.reverse++[(k,a)]).flatMap fl).take (au.length*2)=au.reverse.flatMap fl:=by rw[mr,Eh (by rw[fu _ 2 mL,ky];exact b2 _)];exact gM (by rw[fu _ 2 mL,ky];exact b2 _)
   rw[<-aC,<-iq,vG];congr 1;omega
  have Uj:os.a.map (λg=>(⟨g,0,none⟩:Addr))=some ⟨Ad,0,none⟩:=by rw[lI];rfl
  have Uk:∀ {M:List aF},(∀ x∈os.aO 223,x∈M)->cx I M ((⟨Ad,0,none⟩:Addr).add (au.length*2)) 2 (fl (k,a)):=fun {M} a2=>by have:=bf.ai (I:=I) (M:=M) (e:=223) mL (by decide) cr a2 lI (i:=au.length) (by simp);rw[dY _ rfl,dp];simpa using this
  have rA:k<R.length:=by omega
  have NP:a-m.aq<m.w:=by show _<m.s.size-m.aq+1;omega
  obtain⟨b,mE⟩:=h.Is.known rA NP (by omega);have kS:=Iu (h.kn k (a-m.aq)) cI;have br:∀ {M:List aF},(∀ x∈cZ m R,x∈M)->cx I M ⟨b,(a-m.aq)*3,none⟩ 3 (kn k (a-m.aq)).cells:=λa2=>h.Is.rd hw rA mE NP a2;refine bb.mk (au.length:Int) (ei (show(os.n:Int)-1=(au.length:Int) by omega) (by omega)) ?_;refine bl.mk ⟨Ad,0,none⟩ au.length Uj rfl (show au.length<os.n by omega) ?_;refine aw.mk _ (Uk (λx ab=>.tail _ (.tail _ (oI _ (r0 _ ab))))) ?_;refine bb.mk (au.length:Int) (ei (show(os.n:Int)-1=(au.length:Int) by omega) (by omega)) ?_;refine jI.mk 0 au.length rfl rfl (bF _) (show au.length<=os.c by omega) ?_;refine a9.whole _ (Rw m pF cI (aU:=aU) (N:=m.ns.n) (os:=osF) cM rA mE s2 eK) ?_;rintro v I' M' -⟨rfl,rfl,rfl⟩;refine aw.mk _ ((br (λx ab=>.tail _ (.tail _ (r0 _ ab)))).part (k:=0) (m:=1) (by decide)) ?_;refine aM.mk (λe=>?_) (λe=>?_)
  ·have bk:(kn k (a-m.aq)).n=0:=by have:((kn k (a-m.aq)).n:Int)=0:=cm e;omega
   cases iJ with
   | @node n _ _ parts _ kZ _ Ul=>exact absurd bk Ul
   | @zero n _ _ _ _ _ _ r=>
    refine⟨(n,au,⟨os.a,au.length,os.c,os.aY⟩,gj),⟨⟨x7,λx ab=>bL x (.tail _ ab),?_,mA,kZ,r,oF,oG⟩,by simp only;omega⟩,.refl,gX,.nil⟩;rcases DP with e | e
    ·left
     simp at e;simp[e]
    ·exact .inr λx ab=>e x (.tail _ ab)
  have bk:(kn k (a-m.aq)).n≠0:=by have:¬ ((kn k (a-m.aq)).n:Int)=0:=cu e;omega
  cases iJ with
  | @zero n _ _ _ _ _ ij r=>exact absurd ij bk| @node fK _ _ parts _ kZ _ _ aK r=>
  have iM:=ad9 h.kn gp.n cV s1 s2 eK aK;have lW:∀ x∈au,BL m kn x:=by
   rcases DP with e | e
   ·have:au=[]:=by
     cases au with
     |nil=>rfl| cons _ _=>simp at e
    rw[this];exact λx ab=>by cases ab
   ·exact λx ab=>e x (.tail _ ab)
  have BM:au.reverse.length+parts.length<=1048576:=by
   obtain⟨Iq,aqH,gF,gv⟩:=NY aB (parts++au) (λx ab=>by
    rcases dV.1 ab with ab | ab;·exact iM x ab
    ·exact lW x ab)
   have e:=r.qB gF;subst e;have aA:=congrArg List.length oF;rw[di,di]at aA;rw[di]at gv;rw[ky];omega
  obtain⟨x,zM,u6,gw,kf,ad,b3,N1⟩:=Fb gp s1;refine cq.draw aV rfl rfl rfl ?_;refine aw.mk _ (fv (k:=4) (.head _) (by decide)) ?_;refine bl.mk ad k b3 rfl s1 ?_;refine aw.mk _ (sL N1 (off:=0) (n:=1) (by decide) _) ?_;refine aM.mk (λqN=>?_) (λqN=>?_)
  ·have dk:x.d.k=9:=cm qN;have iH:oh m.aZ kn k a=[⟨x.d.t,a,(kn k (a-m.aq)).av⟩]:=by unfold oh;rw[gw,dF (show x.pn.d.k=9 from dk)];rfl
   rw[iH]at oF;have aqI:gj.n=mA.length:=by have:=oG.len;rw[fu _ 3 e'.dc]at this;omega
   have AA:mA.length<=65536:=by have:=congrArg List.length oF;rw[di]at this;omega
   refine cq.draw aV rfl rfl rfl ?_;refine aw.mk _ (sL N1 (off:=5) (n:=1) (by decide) _) ?_;refine aw.mk _ ((br (λx ab=>.tail _ (.tail _ (r0 _ ab)))).part (k:=1) (m:=1) (by decide)) ?_;refine bb.mk ((kn k (a-m.aq)).av:Int) (ei rfl (by omega)) ?_;refine cy.mk λcS g7 jD=>?_;refine bE.x5 aV rfl (by simp) (e:=110) rfl rfl rfl gj oG rfl (cs:=e'.cells ⟨x.d.t,a,(kn k (a-m.aq)).av⟩) rfl rfl rfl (du m aU m.ns.n osF::dj m R::(cZ m R++(⟨os.a,au.length,os.c,os.aY⟩:bf).aO 223)) [] (aqC rfl (by rw[eo];exact aeb _ _ _ _ _)) (by omega) (by show(gj.n+1)*32<=_;omega) ?_;rintro DQ aqJ-Um;refine a9.mk (du m aU m.ns.n osF::dj m R::(cZ m R++(⟨os.a,au.length,os.c,os.aY⟩:bf).aO 223)) (DQ.aO 110) _ (by rw[eo]) (ad2 h gp cV cM x7 s1 s2 eK aK BM) ?_;rintro v I' M' -⟨rfl,b5,rfl,gb,rfl⟩;have sU:b5.n=au.length+parts.length:=by have:=gb.len;rw[fu _ 2 mL,di,ky]at this;omega
   refine jI.mk au.length b5.n rfl rfl (by omega) (b2 _) ?_;refine a9.mk ((du m aU m.ns.n osF::dj m R::cZ m R)++(b5.aO 223++(DQ.aO 110))) [] _ (by rw[eo];simp) (ad1 (A:=au.reverse) gb (by omega) (show b5.n-au.length=parts.length by omega) (λn4=>?_)) ?_
   ·cases aH:b5.a with
    |none=>have:=(gb.nil aH).1;omega| some a6=>have Jq:=(gb.cap a6 aH).2.1;refine⟨a6,rfl,?_⟩;rw[b8 (by omega),ky];show some ((⟨a6,0,none⟩:Addr).add (au.length*2))=_;rw[dY _ rfl,dp]
   rintro v I' M' -⟨rfl,tM,tE,to,rfl⟩;refine⟨(fK,parts++au,tM,DQ),⟨⟨?_,?_,.inr ?_,mA++[⟨x.d.t,a,(kn k (a-m.aq)).av⟩],kZ,r,by rw[gz];exact oF,by rw[mr];simpa using Um⟩,by simp only;omega⟩,.o6 (aea _ _ _ _ _),.cons .refl (.cons .refl (.cons (NZ tE) .nil)),.nil⟩;·rw[Ir];exact to
   ·intro x ab;rcases dV.1 ab with ab | ab
    ·exact(iM x ab).1
    ·exact bL x (.tail _ ab)
   ·intro x ab;rcases dV.1 ab with ab | ab
    ·exact iM x ab
    ·exact lW x ab
  ·have Iq:¬ x.d.k=9:=cu qN;have iH:oh m.aZ kn k a=[]:=by unfold oh;rw[gw,bG (show ¬ x.pn.d.k=9 from Iq)];rfl
   rw[iH]at oF;refine a9.mk (du m aU m.ns.n osF::dj m R::(cZ m R++(⟨os.a,au.length,os.c,os.aY⟩:bf).aO 223)) (gj.aO 110) _ (by rw[show(du m aU m.ns.n osF::dj m R::(cZ m R++(⟨os.a,au.length,os.c,os.aY⟩:bf).aO 223))++gj.aO 110=_ from(aeb _ _ _ _ _).symm];exact .refl _) (ad2 h gp cV cM x7 s1 s2 eK aK BM) ?_;rintro v I' M' -⟨rfl,b5,rfl,gb,rfl⟩;have sU:b5.n=au.length+parts.length:=by have:=gb.len;rw[fu _ 2 mL,di,ky]at this;omega
   refine jI.mk au.length b5.n rfl rfl (by omega) (b2 _) ?_;refine a9.mk ((du m aU m.ns.n osF::dj m R::cZ m R)++(b5.aO 223++(gj.aO 110))) [] _ (by rw[eo];simp) (ad1 (A:=au.reverse) gb (by omega) (show b5.n-au.length=parts.length by omega) (λn4=>?_)) ?_
   ·cases aH:b5.a with
    |none=>have:=(gb.nil aH).1;omega| some a6=>have Jq:=(gb.cap a6 aH).2.1;refine⟨a6,rfl,?_⟩;rw[b8 (by omega),ky];show some ((⟨a6,0,none⟩:Addr).add (au.length*2))=_;rw[dY _ rfl,dp]
   rintro v I' M' -⟨rfl,tM,tE,to,rfl⟩;refine⟨(fK,parts++au,tM,gj),⟨⟨?_,?_,.inr ?_,mA,kZ,r,oF,oG⟩,by simp only;omega⟩,.o6 (aea _ _ _ _ _),.cons .refl (.cons .refl (.cons (NZ tE) .nil)),.nil⟩;·rw[Ir];exact to
   ·intro x ab;rcases dV.1 ab with ab | ab
    ·exact(iM x ab).1
    ·exact bL x (.tail _ ab)
   ·intro x ab;rcases dV.1 ab with ab | ab
    ·exact iM x ab
    ·exact lW x ab
def aec(Ba:kA.ok 2 ((A++dy).flatMap fl))(ag:kA.n<=1099511627776)(bz:ln=dy.length)(bM:0<dy.length->∃ g,kA.a=some g/\ad=some ⟨g,A.length*2,none⟩) :
  Spec Tryz.prog 166 [.slice ad ln NE] I (bi++(kA.aO 254++post)) λv I' M'=>I'=I/\∃ os':bf,os'.val=kA.val/\os'.ok 2 ((A++dy.reverse).flatMap fl)/\M'=bi++(os'.aO 254++post):=by
 subst bz;refine bY [] aV Tryz.func166 rfl rfl rfl ?_;intro B ay;have EV:A.length+dy.length=kA.n:=by have:=Ba.len;rw[fu _ 2 mL,di]at this;omega
 refine bb.mk ((dy.length:Int)-1) (ei rfl (by omega)) ?_;refine ea.inv (ι:=Nat×bf×List (Nat×Nat)) (λx=>{ bK:=[(0,.val (.slice ad dy.length NE)),(2,.val (.int .i64 x.1)),(3,.val (.int .i64 ((dy.length:Int)-1-x.1)))],cl:=[],dz:=I,d':=bi++(x.2.1.aO 254++post) }) (λx=>ad0 A dy kA x) (λx=>dy.length-x.1) ?_ ?_
 ·refine⟨(0,kA,dy),⟨by simp,Ba,rfl,λk ae=>?_,rfl,rfl⟩,.refl,.cons .refl (.cons .refl (.cons ?_ .nil)),.nil⟩
  ·simp only;rw[b8 (by omega)]
  ·simp only[Int.ofNat_zero,Int.sub_zero];exact .refl
 rintro⟨i,os,l⟩⟨hi,cr,cg,hl,z6,DL⟩;simp only at hi cr cg hl z6 DL;refine aM.mk (λh=>?_) (λh=>?_)
 rotate_left
 ·have cE:¬ (i:Int)<(dy.length:Int)-1-i:=cu h;refine⟨_,_,.refl,rfl,os,DL,?_,rfl⟩;have e:l=dy.reverse:=by
   refine Ci λk=>?_;by_cases ae:k<dy.length
   ·rw[hl k ae,List.getElem?_reverse ae];split
    ·rfl
    ·congr 1;omega
   ·rw[qR (by omega),qR (by rw[ky];omega)]
  rw[<-e];exact cr
 have a0:(i:Int)<(dy.length:Int)-1-i:=cm h;obtain⟨j,an⟩:∃ j:Nat,(dy.length:Int)-1-i=(j:Int):=⟨dy.length-1-i,by omega⟩;have fq:i<l.length:=by omega
 have fp:j<l.length:=by omega
 obtain⟨g,lI,rfl⟩:=bM (by omega);have Ac:=z6.trans lI;have row:∀ {os:bf} {l:List (Nat×Nat)} (h:os.ok 2 ((A++l).flatMap fl)) (aH:os.a=some g) (q:Nat) (aL:q<l.length) {M:List aF},(∀ x∈os.aO 254,x∈M)->cx I M ((⟨g,A.length*2,none⟩:Addr).add (q*2)) 2 (fl l[q]):=fun {os l} h aH q aL {M} a2=>by
  have:=bf.ai (I:=I) (M:=M) (e:=254) mL (by decide) h a2 aH (i:=A.length+q) (by rw[di];omega);rw[dY _ rfl,<-j3];have e:(A++l)[A.length+q]'(by rw[di];omega)=l[q]:=by rw[adm (by omega)];congr 1;omega
  rwa [e]at this
 have JG:∀ {os:bf} {l:List (Nat×Nat)} (h:os.ok 2 ((A++l).flatMap fl)) (aH:os.a=some g) (q:Nat) (aL:q<l.length) (x:Nat×Nat) {K:List aF->Prop},(∀ os':bf,os'.val=os.val->os'.a=os.a->os'.ok 2 ((A++l.set q x).flatMap fl)->K (bi++(os'.aO 254++post))) ->
   cc (bi++(os.aO 254++post)) ((⟨g,A.length*2,none⟩:Addr).add (q*2)) (fl x) K:=fun {os l} h aH q aL x {K} k=>by
  rw[dY _ rfl];refine bf.put fl 2 mL h (i:=A.length+q) (by rw[di];omega) 0 (vs:=fl x) (b2 2) rfl x ?_ bi post rfl aH (by simp only;omega) ?_;·show bQ (fl _) 0 (fl x)=fl x;rfl
  ·intro os' aC aA bx cU;rw[EN _ _ (by omega),LV]at cU;exact k os' aC aA cU
 refine cq.draw aV rfl rfl rfl ?_;refine bl.mk ⟨g,A.length*2,none⟩ j rfl an (by omega) ?_;refine aw.mk _ (row cr Ac j fp λz bk=>oI _ (r0 _ bk)) ?_;refine bl.mk ⟨g,A.length*2,none⟩ i rfl rfl (by omega) ?_;refine aw.mk _ (row cr Ac i fq λz bk=>oI _ (r0 _ bk)) ?_;refine bl.mk ⟨g,A.length*2,none⟩ i rfl rfl (by omega) ?_;refine JG cr Ac i fq l[j] ?_;intro b5 hN JH gb;refine bl.mk ⟨g,A.length*2,none⟩ j rfl an (by omega) ?_;refine JG gb (JH.trans Ac) j (by rw[qz];exact fp) l[i] ?_;intro tM tE Ua to;refine bb.mk _ (c7 (i:=i) (by omega)) ?_;refine bb.mk ((dy.length:Int)-1-((i+1:Nat):Int)) (by rw[wrap_i64 ⟨by omega,by omega⟩];omega) ?_;refine⟨(i+1,tM,(l.set i l[j]).set j l[i]),⟨⟨by simp only;omega,to,by simp only[qz];exact cg,λk ae=>?_,(Ua.trans JH).trans z6,(tE.trans hN).trans DL⟩,by simp only;omega⟩,.refl,gX,.nil⟩;have Ab:l[j]?=dy[j]?:=by rw[hl j (by omega),b8 (by omega)]
 have aP:l[i]?=dy[i]?:=by rw[hl i (by omega),b8 (by omega)]
 have Ub:l[j]=dy[j]'(by omega):=by rw[g5 fp,g5 (by omega)]at Ab;exact ld Ab
 have Uc:l[i]=dy[i]'(by omega):=by rw[g5 fq,g5 (by omega)]at aP;exact ld aP
 simp only;rw[qi,qi];by_cases aC:j=k
 ·subst aC;rw[cF rfl,cF (by rw[qz];exact fp),cF (by omega),Uc,<-g5];congr 1;omega
 ·rw[b8 aC];by_cases aA:i=k
  ·subst aA;rw[cF rfl,cF fq,cF (by omega),Ub,<-g5];congr 1;omega
  ·rw[b8 aA,hl k ae];by_cases bx:k<i\/dy.length<=k+i
   ·rw[cF bx,cF (by omega)]
   ·rw[b8 bx,b8 (by omega)]
def eU.yB(t:eU):cz:=⟨0,0,t.s,0,0,⟨t.kY.map λy=>⟨y.C0,none,0,0,y.aS.map Int.toNat⟩,none,t.nn,0⟩⟩
def eU.aqK(t:eU):t.yB.aZ=t.P:=by unfold cz.aZ eU.yB eU.P;simp only[ms];rfl
def aqL{T:Nat->Nat->cP}(h:uf I t T){k a:Nat}(ae:k<t.nn)(aa:a<=t.s.size)(af:(eP t.P k a).ao=3){l:List e'}(jZ:hp t.P (eP t.P) n [(k,a)] l)(aE:l.length<=65536) :
  Spec Tryz.prog 97 [ptr t.bt,.int .i64 k,.int .i64 a] I [] λv I' M'=>I'=I/\∃ gj:bf,v=gj.val/\gj.ok 3 (l.flatMap e'.cells)/\M'=gj.aO 110:=by
 refine bY [] aV Tryz.func97 rfl rfl rfl ?_;intro B ay;have bw:=h.ok;have cI:=bw.sz;have wX:=t.aqK;have z2:t.yB.ns.xs.length=t.yB.ns.n:=by show(t.kY.map _).length=t.nn;rw[eW];exact bw.nn
 have kS:∀ k p,kU t.yB.aZ (t.yB.aq+p) (eP t.P k p):=λk p=>by rw[wX];exact Zg rfl k p
 have cV:iw t.yB.aZ:=by rw[wX];exact h.aZ
 have aB:qA t.yB.aZ (eP t.P):=by rw[wX];exact Zf rfl cI h.na
 have eb:t.n0<t.nn->∀ M:List aF,t.aO T∈M:=λe=>absurd e (by have:=h.n0;omega);refine cy.mk λUi jY aqF=>?_;refine ea.inv (ι:=Nat×List (Nat×Nat)×bf×bf) (λy=>{ bK:=[(0,.val (ptr t.bt)),(7,.val y.2.2.2.val),(8,.val y.2.2.1.val)],dz:=I,d':=y.2.2.1.aO 254++y.2.2.2.aO 110 }) (λy=>N0 t.yB (eP t.P) l y.1 y.2.1 y.2.2.1 y.2.2.2) (λy=>y.1) ?_ ?_
 ·refine⟨(n,[(k,a)],⟨some Ui,1,1,fl (k,a)⟩,⟨none,0,0,[]⟩),⟨⟨rfl,λe=>(by cases e),λg aB=>⟨rfl,b2 _,by unfold maxLen;exact bP rfl,rfl⟩⟩,λx ab=>?_,.inl (b2 _),[],l,by rw[wX];exact jZ,rfl,⟨rfl,λ_=>⟨rfl,rfl⟩,λg h=>(by cases h)⟩⟩,.refl,gX,.nil⟩;rw[jw.1 ab];exact⟨ae,bF _,aa,af⟩
 rintro⟨n,L,os,gj⟩bX;have cg:=bX.len aB aE;obtain⟨cr,bL,DP,mA,kZ,iJ,oF,oG⟩:=bX;simp only at cr bL DP iJ oG cg;have sQ:os.n=L.length:=by have:=cr.len;rw[fu _ 2 mL,ky]at this;omega
 cases L with
 |nil=>
  refine aM.mk (λe=>?_) (λ_=>?_);·have:(0:Int)<(os.n:Int):=cm e;simp at sQ;omega
  cases iJ;rw[eo]at oF;subst oF;exact⟨_,_,.sub (M1:=gj.aO 110) (mU _ _) .refl,rfl,gj,rfl,oG,rfl⟩
 |cons y au=>
  obtain⟨k,a⟩:=y;refine aM.mk (λ_=>?_) (λe=>?_)
  rotate_left
  ·have:¬ (0:Int)<(os.n:Int):=cu e;simp at sQ;omega
  obtain⟨s1,s2,eK,wy⟩:=bL (k,a) (.head _);have s1:k<t.nn:=s1;have eK:a<=t.s.size:=eK;have wy:(eP t.P k a).ao=3:=wy;have aqG:os.n=au.length+1:=by simpa using sQ
  have zN:au.length<=65536:=by simp at cg;omega
  obtain⟨Ad,lI⟩:∃ g,os.a=some g:=by
   cases aH:os.a with
   |none=>have:=(cr.nil aH).1;omega| some g=>exact⟨g,rfl⟩
  obtain⟨ed,dP,gS,iq⟩:=cr.cap Ad lI;rw[oy]at cr iq;have x7:bf.ok ⟨os.a,au.length,os.c,os.aY⟩ 2 (au.reverse.flatMap fl):=by
   refine⟨by rw[fu _ 2 mL,ky],λe=>(by simp only at e;rw[lI]at e;cases e),λeD _=>⟨ed,by simp only;omega,gS,?_⟩⟩;simp only;have aC:((au.reverse++[(k,a)]).flatMap fl).take (au.length*2)=au.reverse.flatMap fl:=by rw[mr,Eh (by rw[fu _ 2 mL,ky];exact b2 _)];exact gM (by rw[fu _ 2 mL,ky];exact b2 _)
   rw[<-aC,<-iq,vG];congr 1;omega
  have Uj:os.a.map (λg=>(⟨g,0,none⟩:Addr))=some ⟨Ad,0,none⟩:=by rw[lI];rfl
  have Uk:∀ {M:List aF},(∀ x∈os.aO 254,x∈M)->cx I M ((⟨Ad,0,none⟩:Addr).add (au.length*2)) 2 (fl (k,a)):=fun {M} a2=>by have:=bf.ai (I:=I) (M:=M) (e:=254) mL (by decide) cr a2 lI (i:=au.length) (by simp);rw[dY _ rfl,dp];simpa using this
  have cR:=h.ao (k:=k) eK;rcases cR with⟨t1,-,t3,t4⟩ | cR
  rotate_left
  ·exact absurd wy cR.2
  obtain⟨hS,fP,hT⟩:=h.inv.rg k a s1 eK;have fP:(T k a).av<=t.s.size:=fP;obtain⟨fb,k1,r,al,hv,-,lG⟩:=bw.row s1;obtain⟨x,ab,gw,kf,o7,jb,ad,b3,N1⟩:=bw.ai s1;refine bb.mk (au.length:Int) (ei (show(os.n:Int)-1=(au.length:Int) by omega) (by omega)) ?_;refine bl.mk ⟨Ad,0,none⟩ au.length Uj rfl (show au.length<os.n by omega) ?_;refine aw.mk _ (Uk λx ab=>r0 _ ab) ?_;refine bb.mk (au.length:Int) (ei (show(os.n:Int)-1=(au.length:Int) by omega) (by omega)) ?_;refine jI.mk 0 au.length rfl rfl (bF _) (show au.length<=os.c by omega) ?_;refine cq.draw aV rfl rfl rfl ?_;refine aw.mk _ (bw.hU (j:=4) (by decide)) ?_;refine bl.mk fb k k1 rfl s1 ?_;refine aw.mk _ (hv _) ?_;refine bl.mk r a rfl rfl (by show a<t.s.size+1;omega) ?_;refine aw.mk _ (lG _ (λe=>eb e _) a eK) ?_;refine cy.mk λig Rh Ri=>?_;refine cc.mk [] _ _ _ rfl rfl (bP rfl) rfl ?_;have qn:∀ {M:List aF} j,j+1<=4->(⟨ig,.cells (T k a).cells.toArray 107 (0,0)⟩:aF)∈M->cx I M ((⟨ig,0,none⟩:Addr).add j) 1 (((T k a).cells.drop j).take 1):=λj an a2=>dt a2 an;refine aw.mk _ (qn 0 (by decide) (.head _)) ?_;refine aM.mk (λe=>?_) (λe=>?_)
  ·have Ic:(T k a).n=0:=by have:((T k a).n:Int)=0:=cm e;omega
   have bk:(eP t.P k a).n=0:=by rw[t4,Ic];rfl
   cases iJ with
   | @node n _ _ parts _ kZ _ Ul=>exact absurd bk Ul
   | @zero n _ _ _ _ _ _ JK=>
    refine⟨(n,au,⟨os.a,au.length,os.c,os.aY⟩,gj),⟨⟨x7,λx ab=>bL x (.tail _ ab),?_,mA,kZ,JK,oF,oG⟩,by simp only;omega⟩,.sub (.cons _ (.refl _)) .refl,gX,.nil⟩;rcases DP with e | e
    ·left
     simp at e;simp[e]
    ·exact .inr λx ab=>e x (.tail _ ab)
  have bk:(eP t.P k a).n≠0:=by have:¬ ((T k a).n:Int)=0:=cu e;omega
  cases iJ with
  | @zero n _ _ _ _ _ ij r=>exact absurd ij bk| @node fK _ _ parts _ kZ _ _ aK JK=>
  have iM:=ad9 kS z2 cV (k:=k) (a:=a) s1 (bF _) eK aK;have lW:∀ x∈au,BL t.yB (eP t.P) x:=by
   rcases DP with e | e
   ·have:au=[]:=by
     cases au with
     |nil=>rfl| cons _ _=>simp at e
    rw[this];exact λx ab=>by cases ab
   ·exact λx ab=>e x (.tail _ ab)
  have BM:au.reverse.length+parts.length<=1048576:=by
   obtain⟨Iq,aqH,gF,gv⟩:=NY aB (parts++au) (λx ab=>by
    rcases dV.1 ab with ab | ab;·exact iM x ab
    ·exact lW x ab)
   have e:=JK.qB gF;subst e;have aA:=congrArg List.length oF;rw[di,di]at aA;rw[di]at gv;rw[ky];omega
  rw[wX]at aK;refine cq.draw aV rfl rfl rfl ?_;refine aw.mk _ (bw.hU (j:=3) (by decide)) ?_;refine bl.mk ad k b3 rfl s1 ?_;refine aw.mk _ (N1 _) ?_;refine cy.mk λyC auK auL=>?_;refine cc.mk [] _ _ _ rfl rfl (bP rfl) rfl ?_;have Je:∀ {M:List aF} j,j+1<=9->(⟨yC,.cells x.cells.toArray 83 (0,0)⟩:aF)∈M->cx I M ((⟨yC,0,none⟩:Addr).add j) 1 ((x.cells.drop j).take 1):=λj an a2=>dt a2 an;refine aw.mk _ (Je 0 (by decide) (.head _)) ?_;have aed:∀ (D:List aF),(⟨yC,.cells x.cells.toArray 83 (0,0)⟩::⟨ig,.cells (T k a).cells.toArray 107 (0,0)⟩::((⟨os.a,au.length,os.c,os.aY⟩:bf).aO 254++D)).Perm ((⟨os.a,au.length,os.c,os.aY⟩:bf).aO 254++(⟨yC,.cells x.cells.toArray 83 (0,0)⟩::⟨ig,.cells (T k a).cells.toArray 107 (0,0)⟩::D)):=λD=>
   EM [_,_] _ _
  have aee:∀ (A D:List aF),List.Sublist (A++D) ([]++(A++(⟨yC,.cells x.cells.toArray 83 (0,0)⟩::⟨ig,.cells (T k a).cells.toArray 107 (0,0)⟩::D))++[]):=λA D=>by rw[eo,nz];exact TX (.refl _) (.cons _ (.cons _ (.refl _)))
  have aef:∀ {b5:bf},b5.ok 2 ((au.reverse++parts).flatMap fl)->b5.n=au.length+parts.length:=fun {b5} gb=>by have:=gb.len;rw[fu _ 2 mL,di,ky]at this;omega
  refine aM.mk (λqN=>?_) (λqN=>?_)
  ·have dk:x.k=9:=cm qN;have iH:oh t.P (eP t.P) k a=[⟨x.t,a,(T k a).av⟩]:=by unfold oh;rw[gw,dF (show x.pn.d.k=9 from dk),a4];show [(⟨x.t,a,(eP t.P k a).av⟩:e')]=_;rw[t3]
   rw[wX,iH]at oF;have aqI:gj.n=mA.length:=by have:=oG.len;rw[fu _ 3 e'.dc]at this;omega
   have AA:mA.length<=65536:=by have:=congrArg List.length oF;rw[di]at this;omega
   refine aw.mk _ (Je 5 (by decide) (.head _)) ?_;refine aw.mk _ (qn 1 (by decide) (.tail _ (.head _))) ?_;refine bb.mk ((T k a).av:Int) (ei rfl (by omega)) ?_;refine cy.mk λcS g7 jD=>?_;refine bE.It aV rfl (by simp) (e:=110) rfl rfl rfl gj oG rfl (cs:=e'.cells ⟨x.t,a,(T k a).av⟩) rfl rfl rfl (⟨yC,.cells x.cells.toArray 83 (0,0)⟩::⟨ig,.cells (T k a).cells.toArray 107 (0,0)⟩::(⟨os.a,au.length,os.c,os.aY⟩:bf).aO 254) rfl (by omega) (by show(gj.n+1)*32<=_;omega) ?_;rintro DQ aqJ-Um;refine a9.mk ((⟨os.a,au.length,os.c,os.aY⟩:bf).aO 254) (⟨yC,.cells x.cells.toArray 83 (0,0)⟩::⟨ig,.cells (T k a).cells.toArray 107 (0,0)⟩::DQ.aO 110) _ (aed _) (ad4 h x7 s1 eK aK BM) ?_;rintro v I' M' -⟨rfl,b5,rfl,gb,rfl⟩;have sU:=aef gb;refine jI.mk au.length b5.n rfl rfl (by omega) (b2 _) ?_;refine a9.mk ([]++(b5.aO 254++(⟨yC,.cells x.cells.toArray 83 (0,0)⟩::⟨ig,.cells (T k a).cells.toArray 107 (0,0)⟩::DQ.aO 110))) [] _ (by rw[eo];exact .refl _) (aec (bi:=[]) (A:=au.reverse) gb (by omega) (show b5.n-au.length=parts.length by omega) (λn4=>?_)) ?_
   ·cases aH:b5.a with
    |none=>have:=(gb.nil aH).1;omega| some a6=>have Jq:=(gb.cap a6 aH).2.1;refine⟨a6,rfl,?_⟩;rw[b8 (by omega),ky];show some ((⟨a6,0,none⟩:Addr).add (au.length*2))=_;rw[dY _ rfl,dp]
   rintro v I' M' -⟨rfl,tM,tE,to,rfl⟩;refine⟨(fK,parts++au,tM,DQ),⟨⟨?_,?_,.inr ?_,mA++[⟨x.t,a,(T k a).av⟩],kZ,JK,by rw[gz];exact oF,by rw[mr];simpa using Um⟩,by simp only;omega⟩,.sub (aee _ _) .refl,.cons .refl (.cons .refl (.cons (NZ tE) .nil)),.nil⟩;·rw[Ir];exact to
   ·intro x ab;rcases dV.1 ab with ab | ab
    ·exact(iM x ab).1
    ·exact bL x (.tail _ ab)
   ·intro x ab;rcases dV.1 ab with ab | ab
    ·exact iM x ab
    ·exact lW x ab
  ·have dk:¬ x.k=9:=cu qN;have iH:oh t.P (eP t.P) k a=[]:=by unfold oh;rw[gw,bG (show ¬ x.pn.d.k=9 from dk),aQ]
   rw[wX,iH,nz]at oF;refine a9.mk ((⟨os.a,au.length,os.c,os.aY⟩:bf).aO 254) (⟨yC,.cells x.cells.toArray 83 (0,0)⟩::⟨ig,.cells (T k a).cells.toArray 107 (0,0)⟩::gj.aO 110) _ (aed _) (ad4 h x7 s1 eK aK BM) ?_;rintro v I' M' -⟨rfl,b5,rfl,gb,rfl⟩;have sU:=aef gb;refine jI.mk au.length b5.n rfl rfl (by omega) (b2 _) ?_;refine a9.mk ([]++(b5.aO 254++(⟨yC,.cells x.cells.toArray 83 (0,0)⟩::⟨ig,.cells (T k a).cells.toArray 107 (0,0)⟩::gj.aO 110))) [] _ (by rw[eo];exact .refl _) (aec (bi:=[]) (A:=au.reverse) gb (by omega) (show b5.n-au.length=parts.length by omega) (λn4=>?_)) ?_
   ·cases aH:b5.a with
    |none=>have:=(gb.nil aH).1;omega| some a6=>have Jq:=(gb.cap a6 aH).2.1;refine⟨a6,rfl,?_⟩;rw[b8 (by omega),ky];show some ((⟨a6,0,none⟩:Addr).add (au.length*2))=_;rw[dY _ rfl,dp]
   rintro v I' M' -⟨rfl,tM,tE,to,rfl⟩;refine⟨(fK,parts++au,tM,gj),⟨⟨?_,?_,.inr ?_,mA,kZ,JK,oF,oG⟩,by simp only;omega⟩,.sub (aee _ _) .refl,.cons .refl (.cons .refl (.cons (NZ tE) .nil)),.nil⟩;·rw[Ir];exact to
   ·intro x ab;rcases dV.1 ab with ab | ab
    ·exact(iM x ab).1
    ·exact bL x (.tail _ ab)
   ·intro x ab;rcases dV.1 ab with ab | ab
    ·exact iM x ab
    ·exact lW x ab
def pi(aX:List Int)(g:cA)(rule:Int)(n:Nat)(ai fuel:Int):Int:=
 bif !decide (e9 aX g=0)then e9 aX g else bif decide (rule<0)||decide ((g.n:Int)<=rule)then 5 else bif decide ((4096:Int)<(n:Int))then 40 else
 bif decide (ai<0)||(decide ((n:Int)<ai)||(decide (fuel<0)||decide ((1099511627776:Int)<fuel)))then 1 else 0
def aeg(bO:gu I aX){g:cA}(aB:g.ok I)(rule:Int)(s:ByteArray)(ai fuel:Int):Spec Tryz.prog 76 [g.val,.int .i64 rule,.string s,.int .i64 ai,.int .i64 fuel] I [] λv I' M'=>v=.int .i64 (pi aX g rule s.size ai fuel)/\(∀ b o,I b=some o->I' b=some o)/\M'=[]:=by
 refine bY [] aV Tryz.func76 rfl rfl rfl ?_;intro B ay;refine a9.mk [] [] _ (.refl _) (Lc bO aB) ?_;rintro v cW M1 -⟨rfl,b4,rfl⟩;refine aM.mk (λe=>?_) (λe=>?_)
 ·refine⟨_,_,.refl,?_,b4,rfl⟩;unfold pi;rw[show(!decide (e9 aX g=0))=true from e];rfl
 have em:(!decide (e9 aX g=0))=false:=e;have uW:∀ {b:Bool},(decide (rule<0)||decide ((g.n:Int)<=rule))=true->pi aX g rule s.size ai fuel=5:=λh=>by unfold pi;rw[em,h];rfl
 refine c0.mk (λfm=>?_) (λfm=>?_)
 rotate_left
 ·exact⟨_,_,.refl,by rw[uW (b:=true) (by rw[show decide (rule<0)=true from fm];rfl)],b4,rfl⟩
 refine aM.mk (λfj=>?_) (λfj=>?_)
 ·exact⟨_,_,.refl,by rw[uW (b:=true) (by rw[show decide ((g.n:Int)<=rule)=true from fj,yn])],b4,rfl⟩
 have e8:(decide (rule<0)||decide ((g.n:Int)<=rule))=false:=by rw[show decide (rule<0)=false from fm,show decide ((g.n:Int)<=rule)=false from fj];rfl
 refine aM.mk (λoX=>?_) (λoX=>?_)
 ·refine⟨_,_,.refl,?_,b4,rfl⟩;unfold pi;rw[em,e8,show decide ((4096:Int)<(s.size:Int))=true from oX];rfl
 have hS:∀ {b:Bool},(decide (ai<0)||(decide ((s.size:Int)<ai)||(decide (fuel<0)||decide ((1099511627776:Int)<fuel))))=b->pi aX g rule s.size ai fuel=bif b then 1 else 0:=λh=>by unfold pi;rw[em,e8,show decide ((4096:Int)<(s.size:Int))=false from oX,h];rfl
 refine c0.mk (λzn=>?_) (λzn=>?_)
 rotate_left
 ·exact⟨_,_,.refl,by rw[hS (b:=true) (by rw[show decide (ai<0)=true from zn];rfl)];rfl,b4,rfl⟩
 refine c0.mk (λAU=>?_) (λAU=>?_)
 rotate_left
 ·exact⟨_,_,.refl,by rw[hS (b:=true) (by rw[show decide ((s.size:Int)<ai)=true from AU];simp)];rfl,b4,rfl⟩
 refine c0.mk (λEF=>?_) (λEF=>?_)
 rotate_left
 ·exact⟨_,_,.refl,by rw[hS (b:=true) (by rw[show decide (fuel<0)=true from EF];simp)];rfl,b4,rfl⟩
 refine aM.mk (λLm=>?_) (λLm=>?_)
 ·exact⟨_,_,.refl,by rw[hS (b:=true) (by rw[show decide ((1099511627776:Int)<fuel)=true from Lm];simp)];rfl,b4,rfl⟩
 ·exact⟨_,_,.refl,by rw[hS (b:=false) (by rw[show decide (ai<0)=false from zn,show decide ((s.size:Int)<ai)=false from AU,show decide (fuel<0)=false from EF,show decide ((1099511627776:Int)<fuel)=false from Lm];rfl)];rfl,b4,rfl⟩
def yD(o:o1)(v:Value):Value:=.agg #[.bool o.ok,.int .i64 o.av,v]
def vl:o1:=⟨false,0,[]⟩
def oq.o:oq->o1
 | .err _=>vl| .ok o _=>o
def oq.u:oq->Nat
 | .err _=>0| .ok _ u=>u
def oq.e:oq->Int
 | .err e=>e| .ok _ _=>0
def N2(aX:List Int)(g:cA)(rule:Int)(s:ByteArray)(ai fuel:Int)(r:oq):Prop:=
 (pi aX g rule s.size ai fuel≠0/\r=.err (pi aX g rule s.size ai fuel)) \/
 (pi aX g rule s.size ai fuel=0/\ot (fk g s ai.toNat) (eF g rule.toNat) ai.toNat fuel.toNat r)
def aqM{g:cA}{ai fuel:Int}(h:pi aX g rule n ai fuel=0):e9 aX g=0/\(0<=rule/\rule<g.n)/\n<=4096/\(0<=ai/\ai<=n)/\0<=fuel/\fuel<=1099511627776:=by
 unfold pi at h;cases U:!decide (e9 aX g=0)with
 |true=>rw[U,a4]at h;rw[h]at U;cases U
 |false=>
  rw[U,aQ]at h;cases aa:decide (rule<0)||decide ((g.n:Int)<=rule)with
  |true=>rw[aa]at h;cases h
  |false=>
   rw[aa,aQ]at h;cases af:decide ((4096:Int)<(n:Int))with
   |true=>rw[af]at h;cases h
   |false=>
    rw[af,aQ]at h;cases aN:decide (ai<0)||(decide ((n:Int)<ai)||(decide (fuel<0)||decide ((1099511627776:Int)<fuel)))with
    |true=>rw[aN]at h;cases h| false=>simp only[vS,eY]at U;simp only[n8,ny]at aa af aN;exact⟨U,by omega,by omega,by omega,by omega,by omega⟩
def aeh:Spec Tryz.prog 62 [] I M λv I' M'=>v=yD vl (.slice none 0 0)/\I'=I/\M'=M:=by refine bY [] aV Tryz.func62 rfl rfl rfl ?_;intro B ay;exact⟨_,_,.refl,rfl,rfl,rfl⟩
def aei(av:Nat):Spec Tryz.prog 58 [.int .i64 av] I M λv I' M'=>v=yD ⟨true,av,[]⟩ (.slice none 0 0)/\I'=I/\M'=M:=by refine bY [] aV Tryz.func58 rfl rfl rfl ?_;intro B ay;exact⟨_,_,.refl,rfl,rfl,rfl⟩
def aej{P:bm}(cV:iw P):∀ (n:Nat) {q:nL} {S:fJ},kV P S->l1 P S q->∀ {e:Nat},ho P n q S=.err e->e<=2
 |0,q,S,_,_,e,h=>by cases h;exact bF _
 |n+1,q,S,U,aa,e,h=>by
  have s1:=AX cV U aa;unfold ho at h;generalize pQ P q S=x at h s1
  match x,h,s1 with
  | .stop a',h,s1=>simp only at h;subst h;have:e=1\/e=2:=s1;omega| .more dP my,h,s1=>exact aej cV n s1.1 s1.2 h
def aqN{e:Nat}(h:e<=2):HR e≠0:=by
 match e,h with
 |0,_=>decide| 1,_=>decide| 2,_=>decide
def aqO(m:cz)(N:Nat)(cs:List bo):cZ m (List.replicate N ⟨none,cs⟩)=[]:=by
 induction N with
 |zero=>rfl| succ n be=>rw[wc,cZ,qh];exact be
def aqP(m:cz)(N:Nat):ke m (List.replicate N ⟨none,List.replicate m.w hC⟩) (λ_ _=>hC):=
 ⟨λr al=>by rw[Qe al];simp,λr al _=>by rw[Qe al],λk h p aK=>by simp⟩
def fU.aek{P:Program}{E:Env}(aW:dm P E){t e:Nat}{dT:eE}{x y:Operand}(aI:E t=some dT)(eS:dT.bT=.pointer e){p:Option Addr}{V:Value->Prop}{other:Prop}
  (h:V (.bool p.isNone)):fU P .eql t x y (.val (.pointer p)) (.val (.pointer none)) V other:=by
 obtain⟨d,fH,gd⟩:=(aW _ _ aI).fM;have aa:d=.pointer e:=by rw[eS]at gd;cases d<;>simp_all[fF]
 subst aa;refine .mk _ _ _ rfl rfl (λw=>?_) h;have aC:(eqGuard .eql t x y (.pointer p) (.pointer none)).run P w=.ok () w:=by unfold eqGuard;rfl
 have aA:(Op.equal t (.pointer p) (.pointer none)).run P w=.ok p.isNone w:=by
  have key:∀ d,(Op.equalIn (d+1) t (.pointer p) (.pointer none)).run P w=.ok p.isNone w:=λd=>by cases p<;>simp[Op.equalIn,run_underlying fH]
  exact key 9999
 simp only[cG,aC,ck,binOp];simp[aA]
def aqQ{g:cA}(hm:ie g)(e3:∀ d∈g.ds,∀ n∈d.t.ns,0<=n.k){s:ByteArray}(ax:s.size<=4096):iw (cd g s):=by
 have bw:=E2 hm e3 (s:=s) (ai:=0) (bF _) ax;have aE:(cd g s).ns.length=(fk g s 0).ns.length:=by simp[cd,fk]
 refine⟨λa aH=>?_,bF _,ax⟩;obtain⟨b,ag,rfl⟩:=eh.1 aH;have h:=bw.ns b ag;exact⟨h.k,λx ab=>by rw[aE];exact h.bd x ab,h.many,h.one,h.kR,h.len⟩
def wG.N3{g:cA}{s:ByteArray}{T:Nat->Nat->cP}(h:wG I g s t T)(hm:ie g)(e3:∀ d∈g.ds,∀ n∈d.t.ns,0<=n.k)(ax:s.size<=4096):uf I t T:=by obtain⟨zI,bV⟩:=Z7 hm e3 ax;refine⟨h.ok,h.inv,λk b=>by rw[h.P];exact h.all k b,h.n0,λk ae=>?_,λk=>by rw[h.P];exact zI k,by rw[h.P];exact aqQ hm e3 ax⟩;rw[h.P,h.nn];exact bV k (by rw[<-h.nn];exact ae)
inductive rW(P:bm)(k a:Nat)(o:o1)(e:Int):Prop
 |none(h:(bs P k a).ao=0)(aD:o=vl)(he:e=5)| fail (h:(bs P k a).ao=2) (aD:o=vl) (he:e=0)| many (h:(bs P k a).ao=3) (az:65536<(bs P k a).n) (aD:o=vl) (he:e=40)| is (h:(bs P k a).ao=3) (az:(bs P k a).n<=65536) (he:e=0) (bw:o.ok=true) (ix:o.av=(bs P k a).av) (aE:o.mB.length=(bs P k a).n) (aB:∃ N,hp P (eP P) N [(k,a)] o.mB) (cM:kc a (bs P k a).av o.mB)
def ael{P:bm}{c:cP}{k a:Nat}(aa:c.ao<=2)(h:c.ce=bs P k a):(c.ao=0/\(bs P k a).ao=0)\/(c.ao=1/\(bs P k a).ao=2)\/(c.ao=2/\(bs P k a).ao=3/\(bs P k a).n=c.n/\(bs P k a).av=c.av):=by
 rw[<-h];rcases sH aa with⟨e,a'⟩ | ⟨e,a'⟩ | ⟨e,a'⟩
 ·exact .inl ⟨e,by rw[a'];rfl⟩
 ·exact .inr (.inl ⟨e,by rw[a'];rfl⟩)
 ·exact .inr (.inr ⟨e,by rw[a'];exact⟨rfl,rfl,rfl⟩⟩)
def aqR{P:bm}(ag:P.aq=0)(bk:P.s.size<=4096)(az:∀ k,x2 P k){k a:Nat}(aH:a<=P.s.size)(af:(bs P k a).ao=3):∃ n l,hp P (eP P) n [(k,a)] l/\jA l (min (bs P k a).n 65537)/\kc a (bs P k a).av l:=by have e:eP P k a=h6 (bs P k a):=sI aH;obtain⟨n,l,gF,gv,gG⟩:=Zf ag bk az k a (by rw[e];exact af);rw[ag,dp]at gF gG;rw[e]at gv gG;exact⟨n,l,gF,gv,gG⟩
section
variable{I:a5}{t:eU}{T:Nat->Nat->cP}
def aqS(h:uf I t T){k a:Nat}(ae:k<t.nn)(aH:a<=t.s.size):Spec Tryz.prog 49 [ptr t.bt,.int .i64 k,.int .i64 a] I [] λv I' M'=>I'=I/\∃ (gj:bf) (o:o1) (e:Int),rW t.P k a o e/\v=.tuple #[yD o gj.val,.int .i64 e]/\gj.ok 3 (o.mB.flatMap e'.cells)/\M'=gj.aO 110:=by
 refine bY [] aV Tryz.func49 rfl rfl rfl ?_;intro B ay;have bw:=h.ok;have cI:=bw.sz;have eb:t.n0<t.nn->∀ M:List aF,t.aO T∈M:=λe=>absurd e (by have:=h.n0;omega);obtain⟨fb,k1,r,al,hv,-,lG⟩:=bw.row ae;obtain⟨hS,fP,hT⟩:=h.inv.rg k a ae aH;have fP:(T k a).av<=t.s.size:=fP;have cR:=ael (h.inv.ao k a) (h.all k a);have ev:eP t.P k a=h6 (bs t.P k a):=sI (show a<=t.P.s.size from aH);refine aw.mk _ (bw.hU (j:=4) (by decide)) ?_;refine bl.mk fb k k1 rfl ae ?_;refine aw.mk _ (hv _) ?_;refine bl.mk r a rfl rfl (by show a<t.s.size+1;omega) ?_;refine aw.mk _ (lG _ (λe=>eb e _) a aH) ?_;generalize T k a=c at *;refine aM.mk (λe=>?_) (λe=>?_)
 ·have a':c.ao=0:=by have:=cm e;omega
  rcases cR with cR | cR | cR;·exact⟨_,_,.refl,rfl,uU,vl,5,.none cR.2 rfl rfl,rfl,zl 3,rfl⟩
  ·omega
  ·omega
 have b':c.ao≠0:=by have:=cu e;omega
 refine aM.mk (λe=>?_) (λe=>?_)
 ·have a':c.ao=1:=by have:=cm e;omega
  rcases cR with cR | cR | cR;·omega
  ·refine a9.whole _ aeh ?_;rintro v I' M' -⟨rfl,rfl,rfl⟩;exact⟨_,_,.refl,rfl,uU,vl,0,.fail cR.2 rfl rfl,rfl,zl 3,rfl⟩
  ·omega
 have aC:c.ao≠1:=by have:=cu e;omega
 rcases cR with cR | cR | cR
 ·omega
 ·omega
 obtain⟨-,bN,gP,pA⟩:=cR;refine aM.mk (λe=>?_) (λe=>?_)
 ·have a':65536<c.n:=by have:=cm e;omega
  exact⟨_,_,.refl,rfl,uU,vl,40,.many bN (by omega) rfl rfl,rfl,zl 3,rfl⟩
 have a':c.n<=65536:=by have:=cu e;omega
 obtain⟨n,l,gF,gv,gG⟩:=aqR rfl (show t.P.s.size<=4096 from cI) h.na (show a<=t.P.s.size from aH) bN;have r5:l.length=c.n:=by have:=gv.1 (by omega);omega
 refine bb.mk (c.av:Int) (ei rfl (by omega)) ?_;refine a9.whole _ (aei c.av) ?_;rintro v I' M' -⟨rfl,rfl,rfl⟩;refine a9.whole _ (aqL h ae aH (by rw[ev];exact bN) gF (by omega)) ?_;rintro v I' M' -⟨rfl,gj,rfl,oG,rfl⟩;exact⟨_,_,.refl,rfl,gj,⟨true,c.av,l⟩,0,.is bN (by omega) rfl rfl pA.symm (by rw[gP];exact r5) ⟨n,gF⟩ gG,rfl,oG,rfl⟩
def p6(n z:Nat)(rule a:Int):Bool:=decide (0<=rule)&&(decide (rule<(n:Int))&&(decide (0<=a)&&decide (a<=(z:Int))))
def aem(h:uf I t T){fb:Option Addr}{jF:Nat}(Ae:t.rv=.slice fb n jF)(rule a:Int):Spec Tryz.prog 48 [ptr t.bt,.int .i64 rule,.int .i64 a] I M0 λv I' M'=>v=.bool (p6 n t.s.size rule a)/\I'=I/\M'=M0:=by
 refine bY [] aV Tryz.func48 rfl rfl rfl ?_;intro B ay;have bw:=h.ok;have jJ:t.cT.getD 2 undef=.slice fb n jF:=Ae;have aa:∀ M,cx I M ((⟨t.bt,0,none⟩:Addr).add 2) 1 [.slice fb n jF]:=λM=>by have:=bw.hU (M:=M) (j:=2) (by decide);rwa [jJ]at this
 refine c0.mk (λa3=>?_) (λa3=>?_)
 ·have a3:decide (0<=rule)=true:=a3;refine aw.mk _ (aa _) ?_;refine c0.mk (λa6=>?_) (λa6=>?_)
  ·have a6:decide (rule<(n:Int))=true:=a6;refine c0.mk (λbN=>?_) (λbN=>?_)
   ·have bN:decide (0<=a)=true:=bN;refine aw.mk _ (bw.hU (j:=0) (by decide)) ?_;exact⟨_,_,.refl,by rw[p6,a3,a6,bN];rfl,rfl,rfl⟩
   ·have bN:decide (0<=a)=false:=bN;exact⟨_,_,.refl,by rw[p6,a3,a6,bN];rfl,rfl,rfl⟩
  ·have a6:decide (rule<(n:Int))=false:=a6;exact⟨_,_,.refl,by rw[p6,a3,a6];rfl,rfl,rfl⟩
 ·have a3:decide (0<=rule)=false:=a3;exact⟨_,_,.refl,by rw[p6,a3];rfl,rfl,rfl⟩
def aen{a:Int}(h:p6 n z rule a=true):∃ i j:Nat,rule=i/\a=j/\i<n/\j<=z:=by simp only[p6,ct,eY]at h;exact⟨rule.toNat,a.toNat,by omega,by omega,by omega,by omega⟩
end
section
variable{I:a5}{g:cA}{s:ByteArray}{t:eU}{T:Nat->Nat->cP}
def wG.bR(h:wG I g s t T)(hm:ie g){i:Nat}(hi:i<g.n)(gC:g.ds.length=g.n):∃ fb jF,t.rv=.slice fb g.n jF/\eF g i<t.nn/\∃ ad,fb=some ad/\∀ M,cx I M (ad.add (i*1)) 1 [.int .i64 (eF g i)]:=by
 obtain⟨fb,jF,U,aa⟩:=h.rv;have aE:i<(ej 0 g.ds).length:=by rw[xS];omega
 have e:eF g i=(ej 0 g.ds)[i]:=by simp[eF,dB,aE]
 obtain⟨ad,ed,dP⟩:=aa.one (f:=cQ) hi aE;refine⟨fb,jF,U,?_,ad,ed,λM=>by rw[e];exact dP M⟩;have:=H2 0 g.ds (λd ah=>(hm.r d ah).bR) _ (dr aE);rw[e,h.nn];omega
inductive JL(g:cA)(s:ByteArray)(rule a:Int)(o:o1)(e:Int):Prop
 |no(h:p6 g.n s.size rule a=false)(aD:o=vl)(he:e=1)| is (i j:Nat) (hi:rule=i) (an:a=j) (jc:i<g.n) (ly:j<=s.size) (h:rW (cd g s) (eF g i) j o e)
def aqT(h:wG I g s t T)(hm:ie g)(s5:uf I t T)(gC:g.ds.length=g.n)(rule a:Int):Spec Tryz.prog 13 [ptr t.bt,.int .i64 rule,.int .i64 a] I [] λv I' M'=>I'=I/\∃ (gj:bf) (o:o1) (e:Int),JL g s rule a o e/\v=.tuple #[yD o gj.val,.int .i64 e]/\gj.ok 3 (o.mB.flatMap e'.cells)/\M'=gj.aO 110:=by
 refine bY [] aV Tryz.func13 rfl rfl rfl ?_;intro B ay;obtain⟨fb,jF,Ae,-⟩:=h.rv;refine fU.aek aV rfl rfl ?_;refine aM.mk (λe=>by cases e) (λ_=>?_);have DR:=aem s5 Ae rule a (M0:=[]);rw[h.ts]at DR;refine a9.whole _ DR ?_;rintro v I' M' -⟨rfl,rfl,rfl⟩;refine aM.mk (λe=>?_) (λe=>?_)
 ·have a':p6 g.n s.size rule a=false:=by simpa using e
  exact⟨_,_,.refl,rfl,uU,vl,1,.no a' rfl rfl,rfl,zl 3,rfl⟩
 have a':p6 g.n s.size rule a=true:=by simpa using e
 obtain⟨i,j,rfl,rfl,hi,an⟩:=aen a';obtain⟨aqU,aqV,JM,Aa,ad,b3,br⟩:=h.bR hm hi gC;rw[Ae]at JM;cases JM;have jJ:t.cT.getD 2 undef=.slice fb g.n jF:=Ae;have aa:∀ M,cx I' M ((⟨t.bt,0,none⟩:Addr).add 2) 1 [.slice fb g.n jF]:=λM=>by have:=s5.ok.hU (M:=M) (j:=2) (by decide);rwa [jJ]at this
 refine aw.mk _ (aa _) ?_;refine bl.mk ad i b3 rfl hi ?_;refine aw.mk _ (br _) ?_;refine a9.whole _ (aqS s5 Aa (by rw[h.ts];exact an)) ?_;rintro v eC dU -⟨rfl,gj,o,aA,qu,rfl,oG,rfl⟩;rw[h.P]at qu;exact⟨_,_,.refl,rfl,gj,o,aA,.is i j rfl rfl hi an qu,rfl,oG,rfl⟩
inductive DS(g:cA)(s:ByteArray)(rule a:Int)(n:Nat)(e:Int):Prop
 |no(h:p6 g.n s.size rule a=false)(az:n=0)(he:e=1)| none (i j:Nat) (hi:rule=i) (an:a=j) (jc:i<g.n) (ly:j<=s.size) (h:(bs (cd g s) (eF g i) j).ao=0) (az:n=0) (he:e=5)| fail (i j:Nat) (hi:rule=i) (an:a=j) (jc:i<g.n) (ly:j<=s.size) (h:(bs (cd g s) (eF g i) j).ao=2) (az:n=0) (he:e=0)| is (i j:Nat) (hi:rule=i) (an:a=j) (jc:i<g.n) (ly:j<=s.size) (h:(bs (cd g s) (eF g i) j).ao=3) (az:n=(bs (cd g s) (eF g i) j).n) (he:e=0)
def aeo(h:wG I g s t T)(hm:ie g)(s5:uf I t T)(gC:g.ds.length=g.n)(rule a:Int):Spec Tryz.prog 30 [ptr t.bt,.int .i64 rule,.int .i64 a] I M0 λv I' M'=>I'=I/\M'=M0/\∃ (n:Nat) (e:Int),DS g s rule a n e/\v=.tuple #[.int .i64 n,.int .i64 e]:=by
 refine bY [] aV Tryz.func30 rfl rfl rfl ?_;intro B ay;obtain⟨fb,jF,Ae,-⟩:=h.rv;refine fU.aek aV rfl rfl ?_;refine aM.mk (λe=>by cases e) (λ_=>?_);have DR:=aem s5 Ae rule a (M0:=M0);rw[h.ts]at DR;refine a9.whole _ DR ?_;rintro v I' M' -⟨rfl,rfl,rfl⟩;refine aM.mk (λe=>?_) (λe=>?_)
 ·have a':p6 g.n s.size rule a=false:=by simpa using e
  exact⟨_,_,.refl,rfl,rfl,0,1,.no a' rfl rfl,rfl⟩
 have a':p6 g.n s.size rule a=true:=by simpa using e
 obtain⟨i,j,rfl,rfl,hi,an⟩:=aen a';obtain⟨aqU,aqV,JM,Aa,ad,b3,br⟩:=h.bR hm hi gC;rw[Ae]at JM;cases JM;have bw:=s5.ok;have ji:j<=t.s.size:=by rw[h.ts];exact an
 have eb:t.n0<t.nn->∀ M:List aF,t.aO T∈M:=λe=>absurd e (by have:=s5.n0;omega);have jJ:t.cT.getD 2 undef=.slice fb g.n jF:=Ae;have aa:∀ M,cx I' M ((⟨t.bt,0,none⟩:Addr).add 2) 1 [.slice fb g.n jF]:=λM=>by have:=bw.hU (M:=M) (j:=2) (by decide);rwa [jJ]at this
 obtain⟨aqW,aqX,r,al,hv,-,lG⟩:=bw.row Aa;have cR:=ael (s5.inv.ao (eF g i) j) (h.all (eF g i) j);refine cq.draw aV rfl rfl rfl ?_;refine aw.mk _ (bw.hU (j:=4) (by decide)) ?_;refine aw.mk _ (aa _) ?_;refine bl.mk ad i b3 rfl hi ?_;refine aw.mk _ (br _) ?_;refine bl.mk aqW (eF g i) aqX rfl Aa ?_;refine aw.mk _ (hv _) ?_;refine bl.mk r j rfl rfl (by show j<t.s.size+1;omega) ?_;refine aw.mk _ (lG _ (λe=>eb e _) j ji) ?_;generalize T (eF g i) j=c at *;refine cy.mk λdA LD RL=>?_;refine cc.mk [] _ _ _ rfl rfl (bP rfl) rfl ?_;have eX:∀ {M:List aF} j,j+1<=4->(⟨dA,.cells c.cells.toArray 107 (0,0)⟩:aF)∈M->cx I' M ((⟨dA,0,none⟩:Addr).add j) 1 ((c.cells.drop j).take 1):=λj an a2=>dt a2 an;refine aw.mk _ (eX 2 (by decide) (.head _)) ?_;refine aM.mk (λe=>?_) (λe=>?_)
 ·have a':c.ao=0:=by have:=cm e;omega
  rcases cR with cR | cR | cR;·exact⟨_,_,.sub (.cons _ (.refl _)) .refl,rfl,rfl,0,5,.none i j rfl rfl hi an cR.2 rfl rfl,rfl⟩
  ·omega
  ·omega
 have b':c.ao≠0:=by have:=cu e;omega
 refine aM.mk (λe=>?_) (λe=>?_)
 ·have a':c.ao=1:=by have:=cm e;omega
  rcases cR with cR | cR | cR;·omega
  ·exact⟨_,_,.sub (.cons _ (.refl _)) .refl,rfl,rfl,0,0,.fail i j rfl rfl hi an cR.2 rfl rfl,rfl⟩
  ·omega
 have aC:c.ao≠1:=by have:=cu e;omega
 rcases cR with cR | cR | cR
 ·omega
 ·omega
 refine aw.mk _ (eX 0 (by decide) (.head _)) ?_;exact⟨_,_,.sub (.cons _ (.refl _)) .refl,rfl,rfl,c.n,0,.is i j rfl rfl hi an cR.2.1 cR.2.2.1.symm rfl,rfl⟩
end
section
variable{kb kn:Nat->Nat->bo}{b:Nat}(ae:∀ k p,kb k p=kn k (b+p))(cE:∀ k p,(kn k p).ao=3->p<=(kn k p).av)
include ae cE
def Gd{k a:Nat}(aH:b<=a):kb k (a-b)=kn k (a-0):=by rw[ae,oc aH,xL]
def Un:∀ (L:List Nat) (a:Nat),b<=a->iP kb b L a=iP kn 0 L a/\(allM kb b L a->allM kn 0 L a)/\∀ x∈iP kn 0 L a,b<=x.2
 |[],a,_=>⟨rfl,λ_=>trivial,λx ab=>by cases ab⟩
 |k::L,a,aH=>by
  have e:=Gd ae (k:=k) aH;simp only[iP,allM];rw[e];cases af:Nat.beq (kn k (a-0)).ao 3 with
  |true=>
   have bx:=cj af;have U:=cE k (a-0) bx;obtain⟨i1,i2,i3⟩:=Un L (kn k (a-0)).av (by omega);simp only[a4];rw[i1];refine⟨rfl,λh=>⟨h.1,i2 h.2⟩,?_⟩;cases Nat.beq (kn k (a-0)).n 0 with
   |true=>exact i3
   |false=>
    intro x ab;rcases eu.1 ab with rfl | ab;·exact aH
    ·exact i3 x ab
  |false=>obtain⟨i1,i2,i3⟩:=Un L a aH;simp only[aQ];rw[i1];refine⟨rfl,λh=>(by rw[h.1]at af;cases af),i3⟩
def aep:∀ (L:List Nat) (a:Nat),b<=a->kW kb b L a=kW kn 0 L a/\(sv kb b L a->sv kn 0 L a)/\∀ x∈kW kn 0 L a,b<=x.2
 |[],a,_=>⟨rfl,λh=>h,λx ab=>by cases ab⟩
 |k::L,a,aH=>by
  have e:=Gd ae (k:=k) aH;obtain⟨i1,i2,i3⟩:=aep L a aH;simp only[kW,sv];rw[e,i1];refine⟨rfl,λh=>h.imp id λh=>⟨h.1,i2 h.2⟩,?_⟩;cases Nat.beq (kn k (a-0)).ao 3 with
  |true=>
   cases Nat.beq (kn k (a-0)).n 0 with
   |true=>intro x ab;cases ab| false=>intro x ab;rw[jw.1 ab];exact aH
  |false=>exact i3
def aqY{k:Nat}{hi:Int}{t a:Nat}(h:kX kb b k hi t a l):b<=a->kX kn 0 k hi t a l/\∀ x∈l,b<=x.2:=by
 induction h with
 |stop h=>exact λ_=>⟨.stop h,λx ab=>by cases ab⟩
 |fail h aa=>exact λaH=>⟨.fail h (by rw[<-Gd ae aH];exact aa),λx ab=>by cases ab⟩
 | @more t a l ag h aa r be=>
  intro aH;have e:=Gd ae (k:=k) aH;rw[e]at aa be |-;have U:=cE k (a-0) aa;obtain⟨i1,i2⟩:=be (by omega);refine⟨.more ag h aa i1,λx ab=>?_⟩;cases az:Nat.beq (kn k (a-0)).n 0 with
  |true=>rw[az]at ab;exact i2 x ab
  |false=>
   rw[az]at ab;rcases eu.1 ab with rfl | ab;·exact aH
   ·exact i2 x ab
def aqZ{P:bm}(ag:P.aq=b)(ht:P'.aq=0)(hl:∀ k,(P'.ai k).bd=(P.ai k).bd/\(P'.ai k).d.k=(P.ai k).d.k/\(P'.ai k).d.hi=(P.ai k).d.hi/\(P'.ai k).d.t=(P.ai k).d.t){k a:Nat}(aH:b<=a)(h:je P kb k a l) :
  je P' kn k a l/\∀ x∈l,b<=x.2:=by
 obtain⟨ed,dP,gS,-⟩:=hl k;unfold je at h |-;rw[ed,dP,gS,ht];rw[ag]at h;by_cases bp:(P.ai k).d.k=6
 ·rw[cF bp]at h |-;exact aqY ae cE h aH
 ·rw[b8 bp]at h |-;by_cases bq:(P.ai k).d.k=5
  ·rw[cF bq]at h |-;obtain⟨i1,i2,i3⟩:=aep ae (P.ai k).bd a aH;exact⟨⟨i2 h.1,by rw[h.2,i1]⟩,by rw[h.2,i1];exact i3⟩
  ·rw[b8 bq]at h |-;obtain⟨i1,i2,i3⟩:=Un ae cE (P.ai k).bd a aH;exact⟨⟨i2 h.1,by rw[h.2,i1]⟩,by rw[h.2,i1];exact i3⟩
def aq0{P:bm}(ag:P.aq=b)(ht:P'.aq=0)(hl:∀ k,(P'.ai k).bd=(P.ai k).bd/\(P'.ai k).d.k=(P.ai k).d.k/\(P'.ai k).d.hi=(P.ai k).d.hi/\(P'.ai k).d.t=(P.ai k).d.t){l:List e'}(h:hp P kb n L l):(∀ x∈L,b<=x.2)->hp P' kn n L l:=by
 induction h with
 |nil=>exact λ_=>.nil
 | @zero n k a au l af h r be=>intro c4;rw[ag,Gd ae (c4 _ (.head _))]at af h;exact .zero (by rw[ht];exact af) (by rw[ht];exact h) (be λx ab=>c4 x (.tail _ ab))
 | @node n k a parts au l af h aK r be=>
  intro c4;have aH:b<=a:=c4 _ (.head _);obtain⟨pH,pI⟩:=aqZ ae cE ag ht hl aH aK;have e:=Gd ae (k:=k) aH;have zL:oh P kb k a=oh P' kn k a:=by unfold oh;obtain⟨ed,dP,gS,iq⟩:=hl k;rw[dP,iq,ag,ht,e]
  rw[zL];rw[ag,e]at af h;refine .node (by rw[ht];exact af) (by rw[ht];exact h) pH (be λx ab=>?_);rcases dV.1 ab with ab | ab;·exact pI x ab
  ·exact c4 x (.tail _ ab)
end
def aeq{g:cA}{s:ByteArray}{b:Nat}(k:Nat):(cd g s).ai k=wF ((fk g s b).ai k):=by
 unfold bm.ai cd fk;simp only[dB,yL];cases(jT g.ds)[k]?<;>rfl
def aq1{g:cA}{s:ByteArray}{b:Nat}(m:Nat->Nat->bo)(k a:Nat):ef (fk g s b) m k a=ef (cd g s) m k a:=by unfold ef;rw[aeq (b:=b) k];rfl
def N4{g:cA}{s:ByteArray}{b:Nat}:∀ n,fa (fk g s b) n=fa (cd g s) n
 |0=>rfl| n+1=>by funext k a;show ef (fk g s b) (fa (fk g s b) n) k a=ef (cd g s) (fa (cd g s) n) k a;rw[N4 n,aq1]
def JN{g:cA}{s:ByteArray}{b:Nat}(k a:Nat):bs (fk g s b) k a=bs (cd g s) k a:=by
 by_cases ah:∃ n,cn (fa (fk g s b) n k a)
 ·obtain⟨n,az⟩:=ah;have aa:cn (fa (cd g s) n k a):=by rw[<-N4 (b:=b)];exact az
  rw[CT az,CT aa,N4]
 ·have aa:¬ ∃ n,cn (fa (cd g s) n k a):=λ⟨n,az⟩=>ah ⟨n,by rw[N4];exact az⟩;unfold bs;rw[dif_neg ah,dif_neg aa]
def aq2{g:cA}(hm:ie g)(e3:∀ d∈g.ds,∀ n∈d.t.ns,0<=n.k){s:ByteArray}(ax:s.size<=4096)(gl:∀ k a,k<bI g.ds->a<=s.size->cn (bs (cd g s) k a)){rule b fuel:Nat}(al:rule<g.ds.length)(ag:b<=s.size){r:oq}(h:ot (fk g s b) (eF g rule) b fuel r)
  {o:o1} {e:Int} (aI:rW (cd g s) (eF g rule) b o e):r=.err 44\/(r.o=o/\r.e=e):=by
 have cV:=E2 hm e3 ag ax;have cg:(fk g s b).ns.length=bI g.ds:=Df g.ds;have Jl:A3 (fk g s b):=λk a U aa=>by rw[JN];exact gl k a (by rw[<-cg];exact U) aa
 have hA:=LN hm al s b;obtain⟨a3,a6⟩:=Zq cV Jl hA (b2 b) ag fuel;have ev:=gl (eF g rule) b (by rw[<-cg];exact hA) ag;have hP:∀ {c:bo} {S:fJ},ho (fk g s b) fuel (.begin (eF g rule) b) gU=.ok c S->c=h6 (bs (cd g s) (eF g rule) b)/\zJ (fk g s b) S:=λh=>by obtain⟨ed,dP⟩:=a6 _ _ h;rw[JN]at ed;exact⟨ed,dP⟩
 cases h with
 | @err a' h=>
  left
  rw[a3 a' h];rfl
 |fail h aa=>
  right
  obtain⟨aJ,-⟩:=hP h;have jn:(bs (cd g s) (eF g rule) b).ao=2:=by rw[aJ]at aa;exact aa
  rcases aI with⟨bW,da,dh⟩ | ⟨bW,da,dh⟩ | ⟨bW,fs,da,dh⟩ | ⟨bW,da,dh,fs,iV,kH,lO,ng⟩;·rw[bW]at jn;cases jn
  ·exact⟨da.symm,dh.symm⟩
  ·rw[bW]at jn;cases jn
  ·rw[bW]at jn;cases jn
 |many h af az=>
  right
  obtain⟨aJ,-⟩:=hP h;have er:(bs (cd g s) (eF g rule) b).ao=3:=by rw[aJ]at af;exact af
  have xm:65536<min (bs (cd g s) (eF g rule) b).n 65537:=by rw[aJ]at az;exact az
  rcases aI with⟨bW,da,dh⟩ | ⟨bW,da,dh⟩ | ⟨bW,fs,da,dh⟩ | ⟨bW,da,dh,fs,iV,kH,lO,ng⟩;·rw[bW]at er;cases er
  ·rw[bW]at er;cases er
  ·exact⟨da.symm,dh.symm⟩
  ·omega
 |zD h af az ar=>exact .inl rfl
 | @ok c S n l h af az ar aB aE=>
  right
  obtain⟨aJ,c2⟩:=hP h;have er:(bs (cd g s) (eF g rule) b).ao=3:=by rw[aJ]at af;exact af
  have xm:min (bs (cd g s) (eF g rule) b).n 65537<=65536:=by rw[aJ]at az;exact az
  have ix:c.av=(bs (cd g s) (eF g rule) b).av:=by rw[aJ];rfl
  rcases aI with⟨bW,da,dh⟩ | ⟨bW,da,dh⟩ | ⟨bW,fs,da,dh⟩ | ⟨bW,da,dh,fs,iV,kH,lO,ng⟩;·rw[bW]at er;cases er
  ·rw[bW]at er;cases er
  ·omega
  ·refine⟨?_,dh.symm⟩;obtain⟨N,jZ⟩:=lO;have bz:xM S.kn (λk p=>eP (cd g s) k (b+p)):=λk p ah=>by obtain⟨ed,dP⟩:=c2.kn k p ah;have aq3:b+p<=(cd g s).s.size:=dP;have aq4:S.kn k p=h6 (bs (fk g s b) k (b+p)):=ed;rw[aq4,JN];exact sI aq3
   have aq5:=aq0 (P:=fk g s b) (P':=cd g s) (kb:=λk p=>eP (cd g s) k (b+p)) (kn:=eP (cd g s)) (b:=b) (λk p=>rfl) (λk p h=>by
    obtain⟨oZ,v',C6⟩:=Ib (.inr h:cn (eP (cd g s) k p));have aA:eP (cd g s) k p=h6 (bs (cd g s) k p):=v';rw[aA]at h |-;exact((sG (cd g s) k p).ge h).1) rfl rfl (λk=>by rw[aeq (b:=b) k];exact⟨rfl,rfl,rfl,rfl⟩) (aB.le bz) (λx ab=>by rw[jw.1 ab];exact b2 _)
   have iH:=aq5.qB jZ;obtain⟨auM,JC,Mp⟩:=o;simp only at fs iV iH;subst fs;subst iH;show(⟨true,c.av,l⟩:o1)=⟨true,JC,l⟩;rw[ix,iV]
def JO(P:bm)(a:pP):Nat:=if a.d.k=6 then(if a.d.hi=-1 then P.s.size-P.aq+1 else a.d.hi.toNat)else a.bd.length
def wY(P:bm)(k:Nat):Nat:=JO P (P.ai k)
def qP(n:Nat)(f:Nat->Nat):Nat:=((List.range n).map f).sum
def Uo(n:Nat)(f:Nat->Nat):qP (n+1) f=qP n f+f n:=by unfold qP;rw[C8,gW,Cw];simp
def Up{f g:Nat->Nat}(h:∀ i,i<n->f i=g i):qP n f=qP n g:=by unfold qP;congr 1;exact xo λi hi=>h i (me.1 hi)
def Uq{f f':Nat->Nat}{k d:Nat}(h:∀ i,i≠k->f' i=f i)(e:f' k+d=f k):∀ {n:Nat},k<n->qP n f'+d=qP n f
 |0,ae=>by omega
 |n+1,ae=>by
  rw[Uo,Uo];by_cases aA:k=n;·subst aA;have:=Up (n:=k) (f:=f') (g:=f) λi hi=>h i (by omega);omega
  ·have:=Uq h e (n:=n) (by omega);have:=h n (λbx=>aA bx.symm);omega
def aq6(n c:Nat):qP n (λ_=>c)=c*n:=by
 induction n with
 |zero=>simp[qP]| succ n be=>rw[Uo,be,Nat.mul_succ]
def aer{α:Type}(F:α->Nat)(z:α):∀ l:List α,qP l.length (λk=>F (l.getD k z))=(l.map F).sum
 |[]=>rfl| x::l=>by have:=aer F z l;unfold qP at this |-;rw[eM,List.range_succ_eq_map,dQ,k',ms,dQ,k',<-this];rfl
def yE(N W:Nat)(w:Nat->Nat->Nat):Nat:=qP N λk=>qP W λp=>w k p
def aq7{w w':Nat->Nat->Nat}{k p d N W:Nat}(ae:k<N)(aK:p<W)(h:∀ i j,¬ (i=k/\j=p)->w' i j=w i j)(e:w' k p+d=w k p):yE N W w'+d=yE N W w:=by refine Uq (k:=k) (λi hi=>Up λj _=>h i j λe=>hi e.1) ?_ ae;exact Uq (k:=p) (λj an=>h k j λe=>an e.2) e aK
def ug(P:bm)(kn:Nat->Nat->bo)(k p:Nat):Nat:=if(kn k p).ao=0 then 1+wY P k else 0
def vm(P:bm)(op:List bC):Nat:=(op.map λf=>wY P f.aG-f.bu).sum
def l'(P:bm)(S:fJ):Nat:=yE P.ns.length (P.s.size-P.aq+1) (ug P S.kn)+vm P S.op
def JP(P:bm):uX->Nat
 | .stop (.err _)=>0| .stop (.ok _ S)=>l' P S| .more _ S=>l' P S
def aq8{P:bm}{kn:Nat->Nat->bo}{k p:Nat}(U:(kn k p).ao≠0)(aa:c.ao≠0):ug P (hn kn k p c)=ug P kn:=by
 funext i j;unfold ug;by_cases e:i=k/\j=p
 ·rw[e.1,e.2,nM,b8 U,b8 aa]
 ·rw[uZ e]
def aes{P:bm}{f:bC}{au:List bC}(cX:S.op=f::au)(hw:(S.kn f.aG (f.pl-P.aq)).ao=1)(ah:cn c):JP P (kT P c S)+(wY P f.aG-f.bu)<=l' P S:=by
 have aB:=aq8 (P:=P) (kn:=S.kn) (k:=f.aG) (p:=f.pl-P.aq) (c:=c) (by omega) (by unfold cn at ah;omega);have e:l' P S=yE P.ns.length (P.s.size-P.aq+1) (ug P S.kn)+((wY P f.aG-f.bu)+vm P au):=by unfold l';rw[cX];simp[vm]
 unfold kT;rw[cX];cases au with
 |nil=>show yE _ _ (ug P (hn S.kn f.aG (f.pl-P.aq) c))+vm P []+_<=_;rw[aB,e];omega| cons r bj=>show yE _ _ (ug P (hn S.kn f.aG (f.pl-P.aq) c))+vm P (r::bj)+_<=_;rw[aB,e];omega
def aet{P:bm}:JP P (iv P S)<=l' P S:=by
 unfold iv;split
 ·exact bF _
 ·simp only;cases Nat.beq (S.kn (bA P _).1 ((bA P _).2-P.aq)).ao 0 with
  |true=>exact b2 _
  |false=>cases Nat.beq (S.kn (bA P _).1 ((bA P _).2-P.aq)).ao 1 with
   |true=>exact bF _| false=>exact b2 _
def aq9{P:bm}(cV:iw P){f:bC}(ar:qy P f):f.bu<wY P f.aG:=by
 have af:=ar.k;have ix:=ar.av;have dg:=ar.lo;have hM:=(bm.rm cV ar.aG).one;unfold wY JO;by_cases bp:(P.ai f.aG).d.k=6
 ·rw[cF bp];obtain⟨hS,fP,hT⟩:=ar.kR bp;by_cases hi:(P.ai f.aG).d.hi=-1
  ·rw[cF hi];have:=fP hi;omega
  ·rw[b8 hi];have:=hT hi;omega
 ·rw[b8 bp];by_cases ara:(P.ai f.aG).d.k=4\/(P.ai f.aG).d.k=5
  ·exact ar.many ara
  ·have U:=hM (by omega);have aa:=(ar.one (by omega)).1;omega
def arb{P:bm}{f f':bC}{c':bo}(h:fQ P f c=.on f' c' false):f'.bu=f.bu+1/\f'.aG=f.aG:=by
 unfold fQ at h;simp only at h;have no:∀ {x y:bC} {a b:bo} {p:Prop},EJ.on x a true=EJ.on y b false->p:=λe=>by cases e
 have Ur:∀ {x y:bC} {a b:bo} {d:Bool},EJ.on x a d=EJ.on y b false->y=x:=λe=>by cases e;rfl
 cases U:decide ((P.ai f.aG).d.k<4)with
 |true=>rw[U]at h;exact no h
 |false=>
  rw[U,aQ]at h;cases aa:decide ((P.ai f.aG).d.k=4)with
  |true=>
   rw[aa,a4]at h;cases dk:Nat.beq c.ao 2 with
   |true=>rw[dk]at h;exact no h| false=>rw[dk,aQ]at h;rw[Ur h];exact⟨rfl,rfl⟩
  |false=>
   rw[aa,aQ]at h;cases af:decide ((P.ai f.aG).d.k=5)with
   |true=>
    rw[af,a4]at h;cases dk:Nat.beq c.ao 3 with
    |true=>rw[dk]at h;exact no h| false=>rw[dk,aQ]at h;rw[Ur h];exact⟨rfl,rfl⟩
   |false=>
    rw[af,aQ]at h;cases aN:decide ((P.ai f.aG).d.k=6)with
    |true=>
     rw[aN,a4]at h;cases dk:Nat.beq c.ao 2 with
     |true=>
      rw[dk,a4]at h;cases eX:decide ((f.bu:Int)<(P.ai f.aG).d.lo)<;>rw[eX]at h<;>exact no h
     |false=>
      rw[dk,aQ]at h;cases eX:decide ((P.ai f.aG).d.hi=-1)&&decide (c.av=f.av)with
      |true=>rw[eX]at h;cases h| false=>rw[eX,aQ]at h;rw[Ur h];exact⟨rfl,rfl⟩
    |false=>
     rw[aN,aQ]at h;cases bq:decide ((P.ai f.aG).d.k=7)with
     |true=>
      rw[bq,a4]at h;cases dk:Nat.beq c.ao 3<;>rw[dk]at h<;>exact no h
     |false=>
      rw[bq,aQ]at h;cases bp:decide ((P.ai f.aG).d.k=8)with
      |true=>
       rw[bp,a4]at h;cases dk:Nat.beq c.ao 2<;>rw[dk]at h<;>exact no h
      |false=>
       rw[bp,aQ]at h;cases dk:Nat.beq c.ao 3<;>rw[dk]at h<;>exact no h
def aeu{P:bm}(cV:iw P)(c2:kV P S)(a2:sw P S){q:nL}(aL:l1 P S q):JP P (pQ P q S)+1<=l' P S:=by
 cases q with
 |begin k a=>
  obtain⟨b1,ch,b9,cK,eT⟩:=aL;have ag:l' P (dC P k a S)+1=l' P S:=by
   have aB:=aq7 (w:=ug P S.kn) (w':=ug P (dC P k a S).kn) (k:=k) (p:=a-P.aq) (d:=1+wY P k) (N:=P.ns.length) (W:=P.s.size-P.aq+1) b1 (by omega) (λi j e=>by
    have qN:(dC P k a S).kn i j=S.kn i j:=uZ e;unfold ug;rw[qN]) (by
    have qN:((dC P k a S).kn k (a-P.aq)).ao=1:=by show(hn S.kn k (a-P.aq) _ k (a-P.aq)).ao=1;rw[nM]
    unfold ug;rw[qN,cF eT,b8 (by decide),dp])
   have aD:vm P (dC P k a S).op=wY P k+vm P S.op:=by simp[dC,vm]
   unfold l';rw[aD];omega
  show JP P (tG P k a S)+1<=_;unfold tG;cases az:ib P k a with
  |some c=>have:=aes (P:=P) (c:=c) (S:=dC P k a S) (f:=⟨k,a,0,a,0⟩) (au:=S.op) rfl (by show(hn S.kn k (a-P.aq) _ k (a-P.aq)).ao=1;rw[nM]) (Lt b9 az).1;simp only;omega| none=>have:=aet (P:=P) (S:=dC P k a S);simp only;omega
 |hand c=>
  obtain⟨f,au,cX,ah,aJ⟩:=aL;have ar:=c2.op f (by rw[cX];exact .head _);have hw:=(a2.ax f (by rw[cX];exact .head _)).w;have a0:=aq9 cV ar;have e:∀ x:bC,l' P ⟨S.kn,x::au,S.aU+1⟩=yE P.ns.length (P.s.size-P.aq+1) (ug P S.kn)+((wY P x.aG-x.bu)+vm P au):=λx=>by simp[l',vm]
  have b':l' P S=yE P.ns.length (P.s.size-P.aq+1) (ug P S.kn)+((wY P f.aG-f.bu)+vm P au):=by unfold l';rw[cX];simp[vm]
  show JP P (kw P c S)+1<=_;unfold kw;rw[cX];simp only;cases aR:fQ P f c with
  |loop=>show 0+1<=_;rw[b'];omega
  |on f' c' done=>
   have aD:=EL cV ar ah aJ aR;cases done with
   |true=>have:=aes (P:=P) (c:=c') (S:=⟨S.kn,f'::au,S.aU+1⟩) (f:=f') (au:=au) rfl (by rw[aD.same.1,aD.same.2];exact hw) (aD.Qd rfl).1;have U:=e f';simp only[a4];omega| false=>obtain⟨t1,t2⟩:=arb aR;have:=aet (P:=P) (S:=⟨S.kn,f'::au,S.aU+1⟩);have U:=e f';rw[t1,t2]at U;simp only[aQ];omega
def aev{P:bm}(cV:iw P):∀ (n:Nat) {q:nL} {S:fJ},kV P S->sw P S->l1 P S q->EO P S q->(l' P S<=n->ho P n q S≠.err 0)/\∀ {c:bo} {e5:fJ},ho P n q S=.ok c e5->e5.aU+l' P e5<=S.aU+l' P S
 |0,q,S,U,aa,af,aN=>by have:=aeu cV U aa af;exact⟨λh=>by omega,fun {c e5} h=>by cases h⟩
 |n+1,q,S,U,aa,af,aN=>by
  have e2:=aeu cV U aa af;have s1:=AX cV U af;have s2:=EQ cV U aa af aN;have yF:=@XU P q S;unfold ho;generalize pQ P q S=x at e2 s1 s2 yF
  match x,e2,s1,s2,yF with
  | .stop (.err e),e2,s1,s2,yF=>refine⟨λ_ h=>?_,fun {c e5} h=>by cases h⟩;simp only[zr.err.injEq]at h;exact yF h| .stop (.ok c my),e2,s1,s2,yF=>refine⟨λ_ h=>(by cases h),fun {c' e5} h=>?_⟩;cases h;have yF:my.aU=S.aU+1:=yF;have e2:l' P my+1<=l' P S:=e2;omega| .more dP my,e2,s1,s2,yF=>have yF:my.aU=S.aU+1:=yF;have e2:l' P my+1<=l' P S:=e2;obtain⟨i1,i2⟩:=aev cV n s1.1 s2.1 s1.2 s2.2;refine⟨λh=>i1 (by omega),fun {c e5} h=>?_⟩;have:=i2 h;omega
def aew{α:Type}{f g:α->Nat}:∀ {l:List α},(∀ x∈l,f x<=g x)->(l.map f).sum<=(l.map g).sum
 |[],_=>b2 _| x::l,h=>by have U:=h x (.head _);have aa:=aew (l:=l) λy aT=>h y (.tail _ aT);simp only[dQ,k'];omega
def aex(F:bh->Nat):∀ (b:Nat) (ds:List bD),((lg b ds).map λp=>F p.2).sum=(ds.map λd=>(d.t.ns.map F).sum).sum
 |b,[]=>rfl| b,d::ds=>by rw[lg,gW,Cw,aex F _ ds,ms,dQ,k'];rfl
structure N5(d:bh):Prop where
 kn:d.kn<400
 t:d.t.size<8020
structure aey(t:eH):Prop where
 n:t.n<400
 ns:∀ aG∈t.ns,N5 aG
structure JQ(d:bD):Prop where
 name:d.name.size<8020
 t:aey d.t
structure Us(g:cA):Prop where
 n:g.n<400
 ds:∀ d∈g.ds,JQ d
def HJ.Ge(h:HJ I d)(ax:N5 d):d.ok I:=
 ⟨h.k,h.e2,h.s1,h.s2,h.eK,h.ts,h.lo,h.hi,h.bj.P3 (by have:=ax.kn;omega),h.aS⟩
def EI.Ge{t:eH}(h:EI I t)(ax:aey t):t.ok I:=
 ⟨h.bj.P3 (by have:=ax.n;omega),λaG bV=>(h.ns aG bV).Ge (ax.ns aG bV),h.bR⟩
def zo.Ge{g:cA}(h:zo I g)(ax:Us g):g.ok I:=
 ⟨h.bj.P3 (by have:=ax.n;omega),λd ah=>⟨by have:=(ax.ds d ah).name;omega,(h.ds d ah).t.Ge (ax.ds d ah).t⟩⟩
structure arc(g:cA)(x:Nat×Nat):Prop where
 k:x.2<=g.n
 n:x.1<=2000
 small:x.1<400->x.2<=x.1/\∀ i (h:i<g.ds.length),i<x.2->JQ g.ds[i]
structure ard(g:cA)(t:eH)(k:Nat)(x:Nat×Nat):Prop where
 j:x.2<=t.n
 n:x.1<=2000
 small:x.1<400->t.n<400/\k+1<=x.1/\(∀ i (h:i<g.ds.length),i<k->JQ g.ds[i])/\(∀ h:k<g.ds.length,g.ds[k].name.size<8020)/\∀ i (h:i<t.ns.length),i<x.2->N5 t.ns[i]
structure aez(g:cA)(x:Nat×Nat):Prop where
 k:x.2<=g.n
 n:x.1<=2000
 small:x.1<300->x.2<=x.1/\∀ i (h:i<g.ds.length),i<x.2->JQ g.ds[i]
structure are(g:cA)(t:eH)(k:Nat)(x:Nat×Nat):Prop where
 j:x.2<=t.n
 n:x.1<=2000
 small:x.1<300->t.n<400/\k+1<=x.1/\(∀ i (h:i<g.ds.length),i<k->JQ g.ds[i])/\(∀ h:k<g.ds.length,g.ds[k].name.size<8020)/\∀ i (h:i<t.ns.length),i<x.2->N5 t.ns[i]
def aeA{g:cA}(aB:zo I g)(s:ByteArray) :
  Spec Tryz.prog 26 [g.val,.string s] I [] λv I' M'=>(∃ r,v=.bool r/\(r=false->Us g/\s.size<=30))/\I'=I/\M'=[]:=by
 refine bY [] aV Tryz.func26 rfl rfl rfl ?_;intro B ay;have gC:=aB.n;refine ea.inv (ι:=Nat×Nat) (λx=>{ bK:=[(1,.val (.string s)),(2,.ref 2 0),(5,.val (.int .i64 x.1)),(6,.val (.int .i64 x.2))],cl:=[(2,[.slice g.a g.n g.c])],dz:=I }) (λx=>aez g x/\0<=x.1) (λx=>g.n-x.2) ?_ ?_
 ·exact⟨(0,0),⟨⟨bF _,by simp only;omega,λ_=>⟨bF _,λi _ h=>by simp at h⟩⟩,b2 _⟩,.refl,fo,.cons rfl (.nil)⟩
 rintro⟨m,k⟩⟨⟨ae,hm,Ut⟩,cE⟩;simp only at ae hm Ut cE;have fin:(m<300->k=g.n)->m<300->Us g:=λU Js=>by obtain⟨s1,s2⟩:=Ut Js;have af:=U Js;refine⟨by omega,λd ah=>?_⟩;obtain⟨y,aT,rfl⟩:=vR ah;exact s2 y aT (by omega)
 refine c0.mk (λaf=>aM.mk (λaN=>?_) (λaN=>?_)) (λaf=>?_)
 ·have e4:k<g.n:=by simpa using af
  have uI:m<300:=by have bk:((m:Nat):Int)<300:=cm aN;omega
  obtain⟨s1,s2⟩:=Ut uI;have tr:k<g.ds.length:=by omega
  obtain⟨ad,b3,br⟩:=aB.bj.row bD.dc e4 tr;have ah:=aB.ds _ (dr tr);have tg:=ah.name;have hd:=ah.t;have arf:=hd.n;have hS:∀ M,cx I M ((ad.add (k*3)).add 0) 1 [.string g.ds[k].name]:=λM=>(br M).part (k:=0) (m:=1) (by decide);have fP:∀ M,cx I M ((ad.add (k*3)).add 1) 2 g.ds[k].t.cells:=λM=>(br M).part (k:=1) (m:=2) (by decide);have KL:∀ (q:Nat),q<8020->g.ds[k].name.size=q->∀ h:k<g.ds.length,g.ds[k].name.size<8020:=λq aL e h=>by rw[e];exact aL
  generalize fi:g.ds[k].name=nm at tg hS KL;generalize arh:g.ds[k].t=u at hd arf fP;refine bl.mk ad k b3 rfl e4 ?_;refine aw.mk _ (fP _) ?_;refine cq.draw aV rfl rfl rfl ?_;refine bb.mk ((m+1:Nat):Int) (ei (by omega) (by omega)) ?_;refine bb.mk ((m+1+min 300 u.n:Nat):Int) (ei (by omega) (by omega)) ?_;refine bl.mk ad k b3 rfl e4 ?_;refine aw.mk _ (hS _) ?_;refine qa.mk (by decide) ?_;refine bb.mk ((nm.size/20:Nat):Int) (ei (by rw[LS (by omega)];omega) (by omega)) ?_;refine bb.mk ((m+1+min 300 u.n+min 300 (nm.size/20):Nat):Int) (ei (by omega) (by omega)) ?_;refine ea.inv (ι:=Nat×Nat) (λx=>{ bK:=[(1,.val (.string s)),(2,.ref 2 0),(5,.val (.int .i64 x.1)),(6,.val (.int .i64 k)),(7,.ref 7 0),(8,.val (.int .i64 x.2))],cl:=[(2,[.slice g.a g.n g.c]),(7,u.cells)],dz:=I }) (λx=>are g u k x/\0<=x.1) (λx=>u.n-x.2) ?_ ?_;·exact⟨(_,0),⟨⟨bF _,by simp only;omega,λh=>by simp only at h;exact⟨by omega,by simp only;omega,s2,λh=>KL nm.size (by omega) rfl h,λi _ h=>by simp at h⟩⟩,by simp only;omega⟩,.refl,e7,.cons rfl (.cons rfl (.nil))⟩
  rintro⟨p,q⟩⟨⟨aL,aK,Uu⟩,Jn⟩;simp only at aL aK Jn Uu;have out:(p<300->q=u.n)->aez g (p,k+1):=λU=>by
   refine⟨by simp only;omega,aK,λaa=>?_⟩;simp only at aa;obtain⟨wO,sX,z0,Uv,Uw⟩:=Uu aa;have auN:=U aa;refine⟨sX,λi hi j1=>?_⟩;by_cases e:i=k
   ·subst e;refine⟨Uv hi,?_⟩;rw[arh];exact⟨wO,λaG bV=>by
     obtain⟨y,aT,rfl⟩:=vR bV;exact Uw y aT (by omega)⟩
   ·exact z0 i hi (by simp only at j1;omega)
  refine c0.mk (λbq=>aM.mk (λbp=>?_) (λbp=>?_)) (λbq=>?_)
  ·have gT:q<u.n:=by simpa using bq
   have pT:p<300:=by have bk:((p:Nat):Int)<300:=cm bp;omega
   obtain⟨wO,sX,z0,Uv,Uw⟩:=Uu pT;have pN:q<u.ns.length:=by omega
   obtain⟨N6,BM,aeB⟩:=hd.bj.row bh.dc gT pN;have bV:=hd.ns _ (dr pN);have eS:=bV.ts;have hT:∀ M,cx I M ((N6.add (q*9)).add 8) 1 [.slice u.ns[q].ml u.ns[q].kn u.ns[q].k7]:=λM=>(aeB M).part (k:=8) (m:=1) (by decide);have rl:∀ M,cx I M ((N6.add (q*9)).add 5) 1 [.string u.ns[q].t]:=λM=>(aeB M).part (k:=5) (m:=1) (by decide);generalize ari:u.ns[q]=aG at bV eS hT rl;refine cq.draw aV rfl rfl rfl ?_;refine bl.mk N6 q BM rfl gT ?_;refine aw.mk _ (hT _) ?_;refine bb.mk ((p+min 300 aG.kn:Nat):Int) (ei (by omega) (by omega)) ?_;refine bl.mk N6 q BM rfl gT ?_;refine aw.mk _ (rl _) ?_;refine qa.mk (by decide) ?_;refine bb.mk ((aG.t.size/20:Nat):Int) (ei (by rw[LS (by omega)];omega) (by omega)) ?_;refine bb.mk ((p+min 300 aG.kn+min 300 (aG.t.size/20):Nat):Int) (ei (by omega) (by omega)) ?_;refine bb.mk _ (c7 (i:=q) (by omega)) ?_;refine⟨(_,q+1),⟨⟨⟨by simp only;omega,by simp only;omega,λec=>?_⟩,by simp only;omega⟩,by simp only;omega⟩,.refl,e7,.cons rfl (.cons rfl (.nil))⟩;simp only at ec |-;refine⟨wO,by omega,z0,Uv,λi hi j1=>?_⟩;by_cases e:i=q;·subst e;rw[ari];exact⟨by omega,by omega⟩
   ·exact Uw i hi (by omega)
  ·have pT:300<=p:=by have bk:¬ ((p:Nat):Int)<300:=cu bp;omega
   refine bb.mk _ (c7 (i:=k) (by omega)) ?_;exact⟨(p,k+1),⟨⟨out λh=>by omega,Jn⟩,by simp only;omega⟩,.refl,fo,.cons rfl (.nil)⟩
  ·have gT:u.n<=q:=by simpa using bq
   refine bb.mk _ (c7 (i:=k) (by omega)) ?_;exact⟨(p,k+1),⟨⟨out λh=>by omega,Jn⟩,by simp only;omega⟩,.refl,fo,.cons rfl (.nil)⟩
 ·have uI:300<=m:=by have bk:¬ ((m:Nat):Int)<300:=cu aN;omega
  refine c0.mk (λa3=>?_) (λa3=>?_)
  ·have a3:decide ((300:Int)<=(m:Int))=false:=a3;have pb:m<300:=by have:=cu a3;omega
   refine⟨_,_,.refl,⟨_,rfl,λa6=>?_⟩,rfl,rfl⟩;have a6:decide ((30:Int)<(s.size:Int))=false:=a6;exact⟨fin (λh=>by omega) pb,by have:=cu a6;omega⟩
  ·exact⟨_,_,.refl,⟨true,rfl,λh=>by cases h⟩,rfl,rfl⟩
 ·have Xq:g.n<=k:=by simpa using af
  refine c0.mk (λa3=>?_) (λa3=>?_)
  ·have a3:decide ((300:Int)<=(m:Int))=false:=a3;have pb:m<300:=by have:=cu a3;omega
   refine⟨_,_,.refl,⟨_,rfl,λa6=>?_⟩,rfl,rfl⟩;have a6:decide ((30:Int)<(s.size:Int))=false:=a6;exact⟨fin (λh=>by omega) pb,by have:=cu a6;omega⟩
  ·exact⟨_,_,.refl,⟨true,rfl,λh=>by cases h⟩,rfl,rfl⟩
end Go.V
