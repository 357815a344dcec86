/- Part 7 of what the proofs of this seat share: the executor, data in memory, walks.
-/
import Derived.Test.YthnoknnlcnikbaaGreatDoorK6
import Derived.Test.YthnoknnlcnikbaaGreatDoorK4
import Derived.Test.YthnoknnlcnikbaaGreatDoorK5
import Derived.Lib.TrailingZeros
set_option linter.all false
set_option maxHeartbeats 8000000
set_option maxRecDepth 100000
namespace Go.V
open Go Go.Proofs
def xp:=@List.mem_or_eq_of_mem_set
def xq:=@List.sublist_append_left
def s':=@List.map_singleton
def C4:=@List.length_reverse
def AT:=@List.map_flatMap
def Fx:=@List.mem_of_mem_drop
def Tb:=@List.count_eq_zero_of_not_mem
def acp:=@List.getElem_concat_length
def Tc:=@List.idxOf_append
def Td:=@List.mem_reverse
variable{I:aJ}{M N M0:List aF}{w:World}{f b e n size Jd:Nat}{s:eb}{ay:List Int}{g:cg}{os:aQ}{l fG:List Nat}{F:List aR}{t:bn}{xs vs:List Value}{A:Nat->List Nat}{u:Value}{r:Int×Int}{text:List UInt8}{a cf:Option Addr}{α:Type}{L:List al}{fY:List (List al)}
def eN.yY(h:eN I M w)(aH:M.Perm N):eN I N w:=
 ⟨h.i,λx ad=>h.m x (aH.mem_iff.2 ad),λx ad=>h.d x (aH.mem_iff.2 ad),((aH.map (·.num)).nodup_iff).1 h.bX⟩
def Kept.yY{I':aJ}{M' yZ:List aF}{w':World}(h:Kept I M w I' M' w')(aH:M.Perm N)(vn:M'.Perm yZ):Kept I N w I' yZ w':=
 ⟨h.le,h.uM,λx ad=>by
  rcases h.wg x (vn.mem_iff.2 ad)with⟨y,aE,e⟩ | aa;·exact .inl ⟨y,aH.mem_iff.1 aE,e⟩
  ·exact .inr aa,λb ag aE=>h.dK b ag λy tt=>aE y (aH.mem_iff.1 tt),h.out,h.sz⟩
def Spec.yY{P:Program}{args:List Value}{p q:Value->aJ->List aF->Prop}(aH:M.Perm N)(aM:∀ v I' M',p v I' M'->∃ yZ,M'.Perm yZ/\q v I' yZ)(h:Spec P f args I M p):Spec P f args I N q:=by
 rcases h with⟨aa,ab⟩ | ab
 ·refine .inl ⟨aa,λw hw=>(ab w (hw.yY aH.symm)).mono ?_⟩;rintro e w'⟨v,I',M',ai,aL,bq,b'⟩;obtain⟨yZ,dZ,eX⟩:=aM _ _ _ aL;exact⟨v,I',yZ,ai,eX,bq.yY dZ,b'.yY aH dZ⟩
 ·refine .inr λw hw=>?_;obtain⟨v,w',I',M',ai,aL,bq,b'⟩:=ab w (hw.yY aH.symm);obtain⟨yZ,dZ,eX⟩:=aM _ _ _ aL;exact⟨v,w',I',yZ,ai,eX,bq.yY dZ,b'.yY aH dZ⟩
def eb.loop(s:eb)(i:Nat):eb:=⟨s.n,s.m,s.w ||| lB i⟩
def q4(pl:List (ByteArray×Int))(F:List aR)(s:eb)(i:Nat)(d:a0):eb:=
 bif oj d.t.ns (ev pl F d.t.ns [])then(s.marks i (gz pl F d.t.ns d.t.br).2).loop i else s.marks i (gz pl F d.t.ns d.t.br).2
def kC(n:Nat):eb:=⟨n,List.replicate 64 0,0⟩
def jZ(pl:List (ByteArray×Int))(F:List aR):Nat->List a0->eb->eb
 |_,[],s=>s| i,d::ds,s=>jZ pl F (i+1) ds (q4 pl F s i d)
def q5(ds:List a0)(F:List aR):eb:=jZ (bL ds) F 0 ds (kC ds.length)
def acq(pl:List (ByteArray×Int))(F:List aR)(s:eb)(i:Nat)(d:a0):(q4 pl F s i d).m.length=s.m.length:=by
 unfold q4;cases oj d.t.ns (ev pl F d.t.ns [])with
 |true=>exact eb.Fw _ s i| false=>exact eb.Fw _ s i
def acr(pl:List (ByteArray×Int))(F:List aR):∀ (l:List a0) (i:Nat) (s:eb) (d:a0),jZ pl F i (l++[d]) s=q4 pl F (jZ pl F i l s) (i+l.length) d
 |[],i,s,d=>rfl| a::l,i,s,d=>by rw[pN,jZ,jZ,acr pl F l];congr 1;simp;omega
def Te(pl:List (ByteArray×Int))(F:List aR):∀ (l:List a0) (i:Nat) (s:eb),(jZ pl F i l s).m.length=s.m.length
 |[],i,s=>rfl| d::l,i,s=>by rw[jZ,Te pl F l,acq]
def acs(bb:kB b s∈M):cY I M ((⟨b,0,none⟩:Addr).add 65) 1 [o9 s.w]:=by rw[eO _ rfl];refine⟨rfl,_,_,_,.inr ⟨_,bb,rfl,rfl⟩,?_,rfl⟩;show(s.cells.drop (0+65)).take 1=_;rw[eb.cells,dp,Ig,Hh (uj _)];rfl
def ao4(s:eb)(i:Nat):cq s.cells (0+65) [o9 (s.w ||| lB i)]=(s.loop i).cells:=by unfold eb.cells eb.loop cq;simp only[dp,eo,g3];rw[ry,sK (uj _),Ig,s4 (by simp[uj])];simp
def MX(bb:kB b s∈M):cY I M (⟨b,0,none⟩:Addr) 66 s.cells:=
 ⟨rfl,_,_,_,.inr ⟨_,bb,rfl,rfl⟩,by simp only[tA];exact fS (show s.cells.length<=66 by rw[eb.cH];exact b2 _),eb.cH s⟩
def ao5(bl:ff I ay)(ax:g.ok I)(jF:∀ d∈g.ds,vz d.t)(k6:du ay g=0->g.n<=64):Spec Tryz.prog 166 [g.val] I [] λv I' M'=>(∀ b o,I b=some o->I' b=some o)/\M'=[] /\
  ((du ay g≠0/\v=.tuple #[(kC 0).val,.int .i64 (du ay g)])\/(du ay g=0/\∃ F,hp g.ds F/\v=.tuple #[(q5 g.ds F).val,.int .i64 0])):=by
 refine b0 [1,2,6,7] a3 Tryz.func166 rfl rfl rfl ?_;intro B aw;have hL:=ax.n;have hy:=ax.ba.cap;refine bZ.mk λb1 iN QN=>?_;refine bZ.mk λbW iC Qj=>?_;refine aV.mk [.slice g.a g.n g.c] (dq (cs:=[.slice g.a g.n g.c]) (k:=0) (n:=1) (.tail _ (.head _)) (by simp)) ?_;refine bc.mk [] [kB bW (kC 0),⟨b1,.cells #[.slice g.a g.n g.c] 30 (0,0)⟩] _ (.refl _) (alf bl ax) ?_;rintro v I1 N -⟨db,⟨hm,rfl,rfl⟩|⟨hm,qT,F,rfl,rfl,bs⟩⟩
 ·refine a5.mk (λ_=>?_) (λh=>absurd h (by simp[hm]));refine cd.dF [] _ _ _ rfl rfl rfl rfl (kC 0).cells rfl ?_;refine aV.mk _ (MX (.head _)) ?_;exact⟨_,_,.sub (fC _) .refl,db,rfl,.inl ⟨hm,rfl⟩⟩
 refine a5.mk (λh=>absurd h (by simp)) (λ_=>?_);have bb:=LO hL hm;have acu:F.length=g.n:=by rw[bs.len,hL]
 have ao6:=k6 hm;refine aV.mk [.slice g.a g.n g.c] (dq (cs:=[.slice g.a g.n g.c]) (k:=0) (n:=1) (.tail _ (.tail _ (.head _))) (by simp)) ?_;refine bZ.mk λb6 Lo XU=>?_;refine cd.dF [] _ _ _ rfl rfl rfl rfl (kC g.n).cells rfl ?_;refine aV.mk [.slice g.a g.n g.c] (dq (cs:=[.slice g.a g.n g.c]) (k:=0) (n:=1) (.tail _ (.tail _ (.tail _ (.head _)))) (by simp)) ?_;refine dx.inv (ι:=Nat×aJ) (λx=>{ bp:=[(1,.val (ptr b1)),(2,.val (ptr bW)),(4,.val (.slice (some ⟨qT,0,none⟩) g.n g.n)),(6,.val (ptr b6)),(25,.val (.slice g.a g.n g.c)),(26,.val (.int .i64 g.n)),(27,.val (.int .i64 x.1))],cl:=[],cP:=x.2,da:=[kB b6 (jZ (bL g.ds) F 0 (g.ds.take x.1) (kC g.n)),fU qT F,kB bW (kC 0),⟨b1,.cells #[.slice g.a g.n g.c] 30 (0,0)⟩] }) (λx=>x.1<=g.n/\∀ b o,I b=some o->x.2 b=some o) (λx=>g.n-x.1) ?_ ?_
 ·exact⟨(0,I1),⟨dj _,db⟩,.refl,ru,.nil⟩
 rintro⟨i,J⟩⟨hi,a8⟩;simp only at hi a8;refine a5.mk (λh=>?_) (λh=>?_)
 rotate_left
 ·have c8:i=g.n:=by have:¬ (i:Int)<(g.n:Int):=dP h;omega
  refine aV.mk _ (MX (.head _)) ?_;refine cd.dF [kB b6 (jZ (bL g.ds) F 0 (g.ds.take i) (kC g.n)),fU qT F] _ _ _ rfl rfl rfl rfl (jZ (bL g.ds) F 0 (g.ds.take i) (kC g.n)).cells ?_ ?_;·rfl
  refine aV.mk _ (MX (.tail _ (.tail _ (.head _)))) ?_;refine⟨_,_,.sub (fC _) .refl,a8,rfl,.inr ⟨hm,F,bs,?_⟩⟩;rw[c8,fS (l:=g.ds) (by omega),q5,hL];rfl
 have a4:i<g.n:=by have:(i:Int)<(g.n:Int):=c5 h;omega
 have cJ:i<g.ds.length:=by omega
 have Je:=ax.mono a8;have ao7:=bl.mono a8;obtain⟨aP,bI,bt⟩:=Je.ba.row a0.cH a4 cJ;have hb:=bJ cJ;have ah:=Je.ds _ hb;have af:=bb.right _ hb;have eD:=bb.named _ hb;have S9:=jF _ hb;have mG:jZ (bL g.ds) F 0 (g.ds.take (i+1)) (kC g.n)=q4 (bL g.ds) F (jZ (bL g.ds) F 0 (g.ds.take i) (kC g.n)) i g.ds[i]:=by rw[gH cJ,acr,LX (by omega),dp]
 have g6:(jZ (bL g.ds) F 0 (g.ds.take i) (kC g.n)).m.length=64:=by rw[Te];rfl
 generalize g.ds[i]=d at bt ah af eD S9 mG;refine bA.mk aP i bI rfl a4 ?_;refine aV.mk _ (bt _) ?_;refine bZ.mk λb7 H8 LR=>?_;refine cd.dF [] _ _ _ rfl rfl rfl rfl [.int .i64 i] rfl ?_;refine aV.mk [.slice g.a g.n g.c] (dq (cs:=[.slice g.a g.n g.c]) (k:=0) (n:=1) (.tail _ (.tail _ (.tail _ (.tail _ (.head _))))) (by simp)) ?_;generalize axP:jZ (bL g.ds) F 0 (g.ds.take i) (kC g.n)=s at g6 mG |-;have eU:∀ {M:List aF},fU qT F∈M->l5 J M (some ⟨qT,0,none⟩) g.n F:=λyQ=>by have:=LN (I:=J) yQ;rwa [acu]at this
 have acv:Ah g F d.t=some (ev (bL g.ds) F d.t.ns []):=by rw[Ah,af,eD,iQ acu];rfl
 refine bc.whole _ (ala (lc:=g.n) ao7 Je ah.t (eU (.tail _ (.tail _ (.head _))))) ?_;rintro v cE dy -⟨cI,⟨aD,-,-⟩|⟨r,cr,aD,rfl,rfl⟩⟩
 ·rw[acv]at aD;cases aD
 rw[acv]at aD;obtain rfl:=e2 aD;refine cT.mk (λh=>?_) (λh=>?_)
 rotate_left
 ·cases h
 refine a5.mk (λh=>absurd h (by simp)) (λ_=>?_);have pQ:=lZ af;have AD:=acm (b1:=b1) (b6:=b6) (b7:=b7) (i:=i) (xa:=some ⟨cr,0,none⟩) (xc:=d.t.n) (F:=F) (Je.mono cI) ao6 (ah.t.mono cI) S9 af eD (by omega) (M1:=[fU cr (ev (bL g.ds) F d.t.ns []),⟨b7,.cells #[.int .i64 i] 3 (0,0)⟩,fU qT F,kB bW (kC 0),⟨b1,.cells #[.slice g.a g.n g.c] 30 (0,0)⟩]) (.tail _ (.tail _ (.tail _ (.tail _ (.head _))))) (.tail _ (.head _)) (by
  have:=LN (I:=cE) (M:=[fU cr (ev (bL g.ds) F d.t.ns []),⟨b7,.cells #[.int .i64 i] 3 (0,0)⟩,fU qT F,kB bW (kC 0),⟨b1,.cells #[.slice g.a g.n g.c] 30 (0,0)⟩]) (b:=cr) (l:=ev (bL g.ds) F d.t.ns []) (.head _);rw[HZ,ah.t.n]at this;simpa using this) d.t.ns.length d.t.br.toNat (by omega) (by omega) s g6
 rw[zS pQ.1]at AD;have ao8:=Spec.yY (q:=λv I' M'=>I'=cE/\M'=kB b6 (s.marks i (gz (bL g.ds) F d.t.ns d.t.br.toNat).2)::[fU cr (ev (bL g.ds) F d.t.ns []),⟨b7,.cells #[.int .i64 i] 3 (0,0)⟩,fU qT F,kB bW (kC 0),⟨b1,.cells #[.slice g.a g.n g.c] 30 (0,0)⟩]) (na (a:=kB b6 s) (l₁:=[fU cr (ev (bL g.ds) F d.t.ns []),⟨b7,.cells #[.int .i64 i] 3 (0,0)⟩]) (l₂:=[fU qT F,kB bW (kC 0),⟨b1,.cells #[.slice g.a g.n g.c] 30 (0,0)⟩])).symm (λv I' M' h=>⟨M',.refl _,h⟩) AD;refine bc.whole _ ao8 ?_;rintro v iG N -⟨jG,hC⟩;subst iG;subst N;generalize gj:s.marks i (gz (bL g.ds) F d.t.ns d.t.br.toNat).2=s1 at *;have axQ:s1.m.length=64:=by rw[<-gj,eb.Fw,g6]
 refine bc.whole _ (aoT (xs:=ev (bL g.ds) F d.t.ns []) (ah.t.mono cI) af ?_) ?_
 ·have:=LN (I:=cE) (M:=kB b6 s1::[fU cr (ev (bL g.ds) F d.t.ns []),⟨b7,.cells #[.int .i64 i] 3 (0,0)⟩,fU qT F,kB bW (kC 0),⟨b1,.cells #[.slice g.a g.n g.c] 30 (0,0)⟩]) (b:=cr) (l:=ev (bL g.ds) F d.t.ns []) (.tail _ (.head _));rw[HZ,ah.t.n]at this;simpa using this
 rintro v iG N -⟨aj,jG,hC⟩;subst iG;subst N;subst v;have fa:(kB b6 (q4 (bL g.ds) F s i d))=(kB b6 (bif oj d.t.ns (ev (bL g.ds) F d.t.ns [])then s1.loop i else s1)):=by rw[q4,<-gj];rfl
 refine a5.mk (λhe=>?_) (λhe=>?_)
 rotate_left
 ·have rA:oj d.t.ns (ev (bL g.ds) F d.t.ns [])=false:=he;refine be.mk _ (dc (i:=i) (by omega)) ?_;refine⟨(i+1,cE),⟨⟨a4,λb o h=>cI _ _ (a8 _ _ h)⟩,by simp only;omega⟩,.sub (.cons_cons _ (.cons _ (.cons _ (.refl _)))) (.l6 ?_),ru,.nil⟩;simp only;rw[mG,fa,rA];rfl
 have rA:oj d.t.ns (ev (bL g.ds) F d.t.ns [])=true:=he;refine c2.draw a3 rfl rfl rfl ?_;refine aV.mk _ (acs (.head _)) ?_;refine aV.mk [.int .i64 i] (dq (cs:=[.int .i64 i]) (k:=0) (n:=1) (.tail _ (.tail _ (.head _))) (by simp)) ?_;refine sy.mk i rfl ?_;refine be.mk _ (R3 (by omega)) ?_;refine cd.iP [] _ s1.cells _ rfl ?_ rfl (s1.loop i).cells ?_ ?_
 ·rw[eb.cH];rfl
 ·show cq s1.cells (0+65) [Value.int .u64 (k3 s1.w.toNat (lB i).toNat)]=_;rw[ui];exact ao4 s1 i
 refine be.mk _ (dc (i:=i) (by omega)) ?_;refine⟨(i+1,cE),⟨⟨a4,λb o h=>cI _ _ (a8 _ _ h)⟩,by simp only;omega⟩,.sub (.cons_cons _ (.cons _ (.cons _ (.refl _)))) (.l6 ?_),ru,.nil⟩;simp only;rw[mG,fa,rA];rfl
def Fy(l:List Nat):List Value:=l.map λn:Nat=>Value.int .i64 n
def AU(s:eb):List Nat:=bitsOf s.w 64
open Classical in
noncomputable def xr(s:eb):List Nat:=(List.range 64).filter λi=>decide (qU s.m i i)
def ao9{b:et}(h:∀ i,i<64->(b.getLsbD i=true ↔ qU s.m i i)):bitsOf b 64=xr s:=by
 unfold bitsOf xr;apply GU;intro i hi;have:=h i (by simpa using hi);by_cases ao:qU s.m i i
 ·simp[ao,this.2 ao]
 ·have:b.getLsbD i=false:=by
   cases ag:b.getLsbD i with
   |false=>rfl| true=>exact absurd (this.1 ag) ao
  simp[ao,this]
def acw(pl:List (ByteArray×Int))(F:List aR):∀ (l:List a0) (i:Nat) (s:eb),(jZ pl F i l s).n=s.n
 |[],i,s=>rfl
 |d::l,i,s=>by
  rw[jZ,acw pl F l];have hm:∀ (q:List Nat) (s:eb),(s.marks i q).n=s.n:=λq=>by
   induction q with
   |nil=>exact λs=>rfl
   |cons k q aN=>exact λs=>aN (s.mark i k)
  unfold q4;cases oj d.t.ns (ev pl F d.t.ns [])with
  |true=>exact hm _ s| false=>exact hm _ s
def apa(ds:List a0)(F:List aR):(q5 ds F).n=ds.length:=acw _ _ _ _ _
def apb(ds:List a0)(F:List aR):(q5 ds F).m.length=64:=by rw[q5,Te];rfl
noncomputable def Jf(e:Int)(s:eb):Int×Int:=
 if e≠0 then(0,e)else if 0<(xr s).length then(((xr s).headD 0:Nat),42)else if 0<(AU s).length then(((AU s).headD 0:Nat),43)else(0,0)
def aQ.pos(h:os.ok 1 (Fy l)):l.length=os.n:=by have:=h.len;simpa[Fy]using this
def acx(h:os.ok 1 (Fy l))(aA:0<l.length)(bb:os.ar e++M0=M):∃ aP,os.a.map (λg=>(⟨g,0,none⟩:Addr))=some aP/\cY I M (aP.add (0*1)) 1 [.int .i64 (l.headD 0:Nat)]:=by
 have aH:=aQ.pos h;cases a6:os.a with
 |none=>have:=(h.nil a6).1;omega
 |some b=>
  obtain⟨aa,ab,ai,aL⟩:=h.cap b a6;refine⟨⟨b,0,none⟩,rfl,?_⟩;subst bb;cases l with
  |nil=>simp at aA
  |cons a l=>
   cases ao:os.aU with
   |nil=>rw[ao]at aL;simp[Fy]at aL
   |cons x xs=>
    rw[ao]at aL;have aD:os.n*1=(os.n-1)+1:=by omega
    rw[aD,ry]at aL;have ad:x=.int .i64 a:=(List.cons.inj aL).1;refine⟨rfl,_,_,_,.inr ⟨⟨b,.cells os.aU.toArray e (0,0)⟩,?_,rfl,rfl⟩,?_,rfl⟩;·unfold aQ.ar;rw[a6];exact .head _
    ·rw[ao,ad];rfl
def apc(bl:ff I ay)(ax:g.ok I)(jF:∀ d∈g.ds,vz d.t)(k6:du ay g=0->g.n<=64):Spec Tryz.prog 103 [g.val] I [] λv I' M'=>(∀ b o,I b=some o->I' b=some o)/\M'=[] /\
  ∃ r:Int×Int,v=.tuple #[.int .i64 r.1,.int .i64 r.2]/\((du ay g≠0/\r=(0,du ay g))\/(du ay g=0/\∃ F,hp g.ds F/\r=Jf 0 (q5 g.ds F))):=by
 refine b0 [4] a3 Tryz.func103 rfl rfl rfl ?_;intro B aw;have hL:=ax.n;refine bc.mk [] [] _ (.refl _) (ao5 bl ax jF k6) ?_;rintro v I1 N -⟨db,rfl,⟨hm,rfl⟩|⟨hm,F,bs,rfl⟩⟩
 ·refine bZ.mk λea Cm Lv=>?_;refine cd.dF [] _ _ _ rfl rfl rfl rfl (kC 0).cells rfl ?_;refine a5.mk (λh=>?_) (λh=>absurd h (by simp[hm]));exact⟨_,_,.sub (fC _) .refl,db,rfl,(0,du ay g),rfl,.inl ⟨hm,rfl⟩⟩
 refine bZ.mk λea Cm Lv=>?_;refine cd.dF [] _ _ _ rfl rfl rfl rfl (q5 g.ds F).cells rfl ?_;have mG:=apa g.ds F;have g6:=apb g.ds F;have aD:=k6 hm;generalize av:q5 g.ds F=s at mG g6;refine a5.mk (λh=>absurd h (by simp)) (λ_=>?_);refine aV.mk _ (MX (.head _)) ?_;refine bc.whole _ (amu s ⟨g6,by omega⟩) ?_;rintro v J N -⟨rfl,rfl,b,rfl,ag⟩;refine bc.whole _ (aaA b) ?_;rintro v J N -⟨rfl,os,cc,rfl,rfl⟩;have cc:os.ok 1 (Fy (xr s)):=by rw[<-ao9 ag];exact cc
 have aH:=aQ.pos cc;refine a5.mk (λh=>?_) (λh=>?_)
 ·have bj:0<(xr s).length:=by have:(0:Int)<(os.n:Int):=c5 h;omega
  obtain⟨aP,bI,bt⟩:=acx (I:=J) cc bj rfl;refine bA.mk aP 0 bI rfl (by omega) ?_;refine aV.mk _ bt ?_;exact⟨_,_,.sub (fC _) .refl,db,rfl,(((xr s).headD 0:Nat),42),rfl,.inr ⟨hm,F,bs,by rw[av,Jf,bP (by simp),bT bj]⟩⟩
 have bj:¬ 0<(xr s).length:=by have:¬ (0:Int)<(os.n:Int):=dP h;omega
 refine aV.mk _ (acs (sF _ (.head _))) ?_;refine bc.whole _ (aaA s.w) ?_;rintro v cE N -⟨rfl,Tf,MY,rfl,rfl⟩;have MY:Tf.ok 1 (Fy (AU s)):=MY;have f':=aQ.pos MY;refine a5.mk (λh=>?_) (λh=>?_)
 ·have ab:0<(AU s).length:=by have:(0:Int)<(Tf.n:Int):=c5 h;omega
  obtain⟨aP,bI,bt⟩:=acx (I:=cE) MY ab rfl;refine bA.mk aP 0 bI rfl (by omega) ?_;refine aV.mk _ bt ?_;exact⟨_,_,.sub (fC _) .refl,db,rfl,(((AU s).headD 0:Nat),43),rfl,.inr ⟨hm,F,bs,by rw[av,Jf,bP (by simp),bP bj,bT ab]⟩⟩
 have ab:¬ 0<(AU s).length:=by have:¬ (0:Int)<(Tf.n:Int):=dP h;omega
 exact⟨_,_,.sub (fC _) .refl,db,rfl,(0,0),rfl,.inr ⟨hm,F,bs,by rw[av,Jf,bP (by simp),bP bj,bP ab]⟩⟩
def MZ(l:List Nat)(w:et):et:=l.foldl (λw k=>w ||| lB k) w
def apd(l:List Nat)(w:et){i:Nat}(hi:i<64):(MZ l w).getLsbD i=(w.getLsbD i||l.contains i):=alN l w hi
def p8(m:List et)(i:Nat):m.set i (m.getD i 0)=m:=by
 apply zU;intro j;rw[iv];by_cases h:i=j
 ·subst h;by_cases aA:i<m.length
  ·simp[aA,bM]
  ·simp[aA]
 ·simp[h]
def acy(i:Nat):∀ (l:List Nat) (s:eb),i<s.m.length->(s.marks i l).m=s.m.set i (MZ l (s.m.getD i 0))
 |[],s,h=>(p8 s.m i).symm| k::l,s,h=>by have aN:=acy i l (s.mark i k) (by simpa[eb.mark]using h);show((s.mark i k).marks i l).m=_;rw[aN,eb.mark];simp only;rw[Hj,R4 (by simpa using h)];rfl
def Tg(i:Nat):∀ (l:List Nat) (s:eb),(s.marks i l).w=s.w
 |[],s=>rfl| k::l,s=>Tg i l (s.mark i k)
def acz(pl:List (ByteArray×Int))(F:List aR)(s:eb)(i:Nat)(d:a0)(h:i<s.m.length):(q4 pl F s i d).m=s.m.set i (MZ (gz pl F d.t.ns d.t.br).2 (s.m.getD i 0)):=by
 unfold q4;rw[<-acy i _ s h];cases oj d.t.ns (ev pl F d.t.ns [])<;>rfl
def acA(pl:List (ByteArray×Int))(F:List aR)(s:eb)(i:Nat)(d:a0):(q4 pl F s i d).w=bif oj d.t.ns (ev pl F d.t.ns [])then s.w ||| lB i else s.w:=by
 unfold q4;cases oj d.t.ns (ev pl F d.t.ns [])
 ·exact Tg i _ s
 ·show(s.marks i _).w ||| lB i=_
  rw[Tg];rfl
def Th(pl:List (ByteArray×Int))(F:List aR):∀ (l:List a0) (i:Nat) (s:eb),s.m.length=64->i+l.length<=64 -> (∀ j,j<i\/i+l.length<=j->(jZ pl F i l s).m.getD j 0=s.m.getD j 0) /\ (∀ q (h:q<l.length),(jZ pl F i l s).m.getD (i+q) 0=MZ (gz pl F l[q].t.ns l[q].t.br).2 (s.m.getD (i+q) 0)) /\ (∀ j,j<64->j<i\/i+l.length<=j->(jZ pl F i l s).w.getLsbD j=s.w.getLsbD j) /\ (∀ q (h:q<l.length),(jZ pl F i l s).w.getLsbD (i+q)=(s.w.getLsbD (i+q)||oj l[q].t.ns (ev pl F l[q].t.ns [])))
 |[],i,s,_,_=>⟨λ_ _=>rfl,λ_ h=>absurd h (by simp),λ_ _ _=>rfl,λ_ h=>absurd h (by simp)⟩
 |d::l,i,s,av,aA=>by
  rw[eo]at aA;obtain⟨aa,ab,ai,aL⟩:=Th pl F l (i+1) (q4 pl F s i d) (by rw[acq,av]) (by omega);have hm:∀ j,j≠i->(q4 pl F s i d).m.getD j 0=s.m.getD j 0:=λj ak=>by rw[acz pl F s i d (by omega)];simp[bM,iv,su ak]
  have hw:∀ j,j<64->j≠i->(q4 pl F s i d).w.getLsbD j=s.w.getLsbD j:=λj ak bD=>by
   rw[acA];cases oj d.t.ns (ev pl F d.t.ns []);·rfl
   ·rw[cp,Ck,LW ak];simp[bD]
  refine⟨λj ak=>?_,λq h=>?_,λj ak tH=>?_,λq h=>?_⟩;·rw[eo]at ak;rw[jZ,aa j (by omega),hm j (by omega)]
  ·cases q with
   |zero=>rw[jZ,aa _ (by omega),acz pl F s i d (by omega)];rw[pD,R4 (by omega)];rfl| succ q=>have:=ab q (by simpa using h);rw[show i+1+q=i+(q+1) by omega]at this;rw[jZ,this,hm _ (by omega)];rfl
  ·rw[eo]at tH;rw[jZ,ai j ak (by omega),hw j ak (by omega)]
  ·cases q with
   |zero=>
    rw[jZ,ai _ (by omega) (by omega),acA,pD,tw];cases he:oj d.t.ns (ev pl F d.t.ns []);·simp
    ·rw[cp,Ck,LW (by omega)];simp
   |succ q=>
    have aM:q<l.length:=by simpa using h
    have:=aL q aM;rw[show i+1+q=i+(q+1) by omega]at this;rw[jZ,this,hw _ (by omega) (by omega)];rfl
def ma(ds:List a0)(F:List aR)(i:Nat):List Nat:=match ds[i]? with
 |some d=>(gz (bL ds) F d.t.ns d.t.br).2| none=>[]
def Jg(ds:List a0)(F:List aR)(i:Nat):Bool:=match ds[i]? with
 |some d=>oj d.t.ns (ev (bL ds) F d.t.ns [])| none=>false
def M2{ds:List a0}(aD:ds.length<=64){i k:Nat}(ae:k<64):((q5 ds F).m.getD i 0).getLsbD k=(ma ds F i).contains k:=by
 obtain⟨aa,ab,-,-⟩:=Th (bL ds) F ds 0 (kC ds.length) (by rfl) (by omega);have aw:∀ j,(kC ds.length).m.getD j 0=0#64:=λj=>by
  simp only[kC,bM,List.getElem?_replicate];by_cases h:j<64<;>simp[h]
 unfold ma q5;by_cases h:i<ds.length
 ·have:=ab i h;rw[dp]at this;rw[this,aw,apd _ _ ae,dt h];simp
 ·rw[aa i (by omega),aw,qv (by omega)];simp
def acB{ds:List a0}(aD:ds.length<=64){i:Nat}(hi:i<64):(q5 ds F).w.getLsbD i=Jg ds F i:=by
 obtain⟨-,-,aa,ab⟩:=Th (bL ds) F ds 0 (kC ds.length) (by rfl) (by omega);unfold Jg q5;by_cases h:i<ds.length
 ·have:=ab i h;rw[dp]at this;rw[this,dt h];simp[kC]
 ·rw[aa i hi (by omega),qv (by omega)];simp[kC]
section
end
section
end
def Ti(a b c d:Int):al:=⟨1,a,b,c,d,⟨#[]⟩,0,0,none,0,0,[]⟩
def acC{a b c d:Int}(a6:fl a)(ag:fl b)(ao:fl c)(ah:fl d):Spec Tryz.prog 55 [.agg #[.int .u64 a,.int .u64 b,.int .u64 c,.int .u64 d]] I [] λv I' M'=>(∀ b o,I b=some o->I' b=some o)/\∃ t:bn,v=t.val/\t.ok I'/\t.ns=[Ti a b c d]/\t.br=0/\M'=[]:=by refine b0 [] a3 Tryz.func55 rfl rfl rfl ?_;intro B aw;have bi:(Ti a b c d).ok I:=⟨⟨by show(0:Int)<=1;decide,by show(1:Int)<256;decide⟩,a6,ag,ao,ah,by show(0:Nat)<=_;decide,i0,i0,⟨rfl,⟨b2 _,by show 0*8<=_;omega⟩,.inl rfl⟩,λx ad=>by cases ad⟩;have aA:=Yu (I:=I) bi;have aj:(Ti a b c d).val=.agg #[.int .u8 1,.int .u64 a,.int .u64 b,.int .u64 c,.int .u64 d,.string ⟨#[]⟩,.int .i64 0,.int .i64 0,.slice none 0 0]:=rfl;rw[aj]at aA;refine bc.mk [] [] _ (.refl _) aA ?_;rintro v I' M' -⟨bB,t,rfl,au,aa,ab,rfl⟩;exact⟨_,_,.refl,bB,t,rfl,au,aa,ab,rfl⟩
structure acD(t:bn):Prop where
 n:t.n<2500
 ns:∀ bX∈t.ns,Qu bX
def wT.ok(h:wT I t)(av:acD t):t.ok I:=
 ⟨h.ba.Cq (by have:=av.n;omega),λbX bV=>(h.ns bX bV).ok (av.ns bX bV),h.br⟩
structure jE(L:List bn)(n0:Nat)(x:Nat×Nat):Prop where
 i:x.2<=L.length
 n:x.1<=6000
 ge:n0<=x.1
 small:x.1<2500->x.2<=x.1/\∀ j (h:j<L.length),j<x.2->acD L[j]
structure acE where
 l:List aR
 a:Option Addr
 n:Nat
 c:Nat
def acE.val(x:acE):Value:=.slice x.a x.n x.c
def M3{ds:List a0}{f:a0->aR}{i:Nat}(h:i<ds.length):(ds.map f).getD i ch=f ds[i]:=by simp[bM,h]
def o4.all{ds:List a0}{l:List aR}(h:o4 ds l):o4 ds (ds.map (iU (bL ds) l))/\dX l (ds.map (iU (bL ds) l)):=by
 have bk:dX l (ds.map (iU (bL ds) l)):=dX.of (by simp[h.len]) λi hi=>by rw[M3 (by rw[<-h.len];exact hi)];exact h.up i _
 refine⟨⟨by simp,λi hi=>?_,λm hm ao=>dX.of (by simp[hm]) λi hi=>?_⟩,bk⟩
 ·rw[M3 hi];exact H3 bk _
 ·have cG:i<ds.length:=by simpa using hi
  rw[M3 cG];exact(H3 (h.least m hm ao) _).trans (ao i cG)
def acF(ay:List Int)(g:cg)(l:List ee)(t:bn):Bool:=decide (l.length=g.n)&&(decide (du ay g=0)&&(right t&&vp (bL g.ds) t.ns))
def AV(b:Bool)(xs:List (aR×List Nat)):List Nat:=bif b then ke xs else xs.flatMap (·.2)
def ape(b:Bool):AV b []=[]:=by cases b<;>rfl
def apf(b:Bool)(x:aR×List Nat)(xs:List (aR×List Nat)):AV b (x::xs)=x.2++bif b && !x.1.z then []else AV b xs:=by
 cases b with
 |true=>
  cases bd:x.1.z<;>simp[AV,ke,bd]
 |false=>simp[AV]
def apg{pl:List (ByteArray×Int)}{d:al}{xs:List (aR×List Nat)}(ai:¬ d.k=3)(b':¬ (d.k=6/\d.hi=0)):lA pl d xs=AV (decide (d.k=4)) xs:=by
 unfold lA AV;rw[fo ai,cb];cases aL:decide (d.k=4)with
 |true=>rfl
 |false=>
  rw[cb,cb];by_cases a:d.k=6;·have b:¬ d.hi=0:=λe=>b' ⟨a,e⟩;rw[iQ a,fo b];rfl
  ·rw[fo a];rfl
def y0(pl:List (ByteArray×Int))(F:List aR)(d:al)(xs:List ((aR×List Nat)×Bool)):Bool:=xs.any λx=>(decide (d.k=6)&&(decide (d.hi=-1)&&x.1.1.z))||x.2
def h4(pl:List (ByteArray×Int))(F:List aR)(d:al)(xs:List ((aR×List Nat)×Bool)):(aR×List Nat)×Bool:=(r3 pl F d (xs.map (·.1)),y0 pl F d xs)
def pi(pl:List (ByteArray×Int))(F:List aR)(ns:List al)(j:Int):(aR×List Nat)×Bool:=mv ((ch,[]),false) (λd g=>h4 pl F d (d.aq.map g)) ns j
def acG{pl:List (ByteArray×Int)}(af:right t=true){j:Nat}(ak:j<t.ns.length):pi pl F t.ns j=h4 pl F t.ns[j] (t.ns[j].aq.map (pi pl F t.ns)):=
 Ea (λd g eu h=>by rw[fT h]) af ak
def M4{pl:List (ByteArray×Int)}{F:List aR}{t:bn}(af:right t=true):∀ (m j:Nat),j<m->j<t.ns.length->(pi pl F t.ns j).1=gz pl F t.ns j
 |0,j,h,_=>absurd h (ng _)
 |m+1,j,hm,ak=>by
  rw[acG af ak,Q7 af ak];have:(t.ns[j].aq.map (pi pl F t.ns)).map (·.1)=t.ns[j].aq.map (gz pl F t.ns):=by rw[gh];refine fT λk ae=>?_;obtain⟨aa,ab⟩:=ly af j ak k ae;obtain⟨q,rfl⟩:=eF aa;exact M4 af m q (by omega) (by omega)
  show r3 pl F t.ns[j] _=_;rw[this]
def aph(pl:List (ByteArray×Int))(F:List aR)(ns:List al)(j:Int):pi pl F (ns.map al.a1) j=pi pl F ns j:=by unfold pi mv;rw[H9 (f:=λd g=>h4 pl F d (d.aq.map g)) (g:=λd g=>h4 pl F d (d.aq.map g)) (λd q=>rfl)]
def pj(ds:List a0)(F:List aR)(i:Nat):List Nat:=(List.range ds.length).filter λk=>(ma ds F i).contains k
def Tj(p:Nat->Bool)(i:Nat):((List.range i).filter p).length<=i:=by have:=DR p (List.range i);simpa using this
def xt(ds:List a0)(F:List aR)(i:Nat):Bool:=match ds[i]? with
 |some d=>(pi (bL ds) F d.t.ns d.t.br).2| none=>false
def pk(ds:List a0)(F:List aR):List Nat:=(List.range ds.length).filter (xt ds F)
inductive kD(A:Nat->List Nat):Nat->Nat->Prop
 |one{i k}(h:k∈A i):kD A i k| step {i j k} (h:j∈A i) (t:kD A j k):kD A i k
def kD.snoc{i j k:Nat}(h:kD A i j)(ae:k∈A j):kD A i k:=by
 induction h with
 |one h=>exact .step h (.one ae)| step h t aN=>exact .step h (aN ae)
def vN:List Nat->List Nat->List Nat
 |[],l=>l| x::r,l=>vN r (bif l.contains x then l else l++[x])
def Fz:∀ (r l:List Nat) (x:Nat),x∈vN r l ↔ x∈l\/x∈r
 |[],l,x=>by simp[vN]
 |y::r,l,x=>by
  rw[vN,Fz r];cases h:l.contains y with
  |true=>
   have aE:y∈l:=by simpa using h
   rw[cp];constructor
   ·rintro(a | a)
    ·exact .inl a
    ·exact .inr (.tail _ a)
   ·rintro(a | a)
    ·exact .inl a
    ·rcases eA.1 a with rfl | a
     ·exact .inl aE
     ·exact .inr a
  |false=>
   rw[cb];rw[cC,eC,eA];constructor
   ·rintro((a | a) | a)
    ·exact .inl a
    ·exact .inr (.inl a)
    ·exact .inr (.inr a)
   ·rintro(a | a | a)
    ·exact .inl (.inl a)
    ·exact .inl (.inr a)
    ·exact .inr a
def acH:∀ (r l:List Nat),∃ s,vN r l=l++s
 |[],l=>⟨[],by simp[vN]⟩
 |y::r,l=>by
  obtain⟨s,av⟩:=acH r (bif l.contains y then l else l++[y]);rw[vN,av];cases l.contains y with
  |true=>exact⟨s,rfl⟩| false=>exact⟨[y]++s,by simp⟩
def acI:∀ (r l:List Nat),l.Nodup->(vN r l).Nodup
 |[],l,h=>h
 |y::r,l,h=>by
  rw[vN];apply acI r;cases ao:l.contains y with
  |true=>exact h
  |false=>
   have aE:y ∉ l:=by simpa using ao
   rw[cb,uG];refine⟨h,by simp,λa a6 b ag e=>?_⟩;have:b=y:=by simpa using ag
   subst this;subst e;exact aE a6
def acJ:∀ (n:Nat) (l:List Nat),l.Nodup->(∀ x∈l,x<n)->l.length<=n
 |0,[],_,_=>b2 _| 0,a::l,_,h=>absurd (h a (.head _)) (ng _)
 |n+1,l,ah,h=>by
  have aa:=acJ n (l.erase n) (ah.erase n) λx ad=>by have ab:=h x (List.mem_of_mem_erase ad);have ai:x≠n:=(ah.mem_erase_iff.1 ad).1;omega
  have aL:=List.length_erase (a:=n) (l:=l);split at aL<;>omega
def FA(A:Nat->List Nat):Nat->Nat->List Nat->List Nat
 |0,_,l=>l
 |f+1,k,l=>match l[k]? with
  |some x=>FA A f (k+1) (vN (A x) l)| none=>l
structure um(A:Nat->List Nat)(n k:Nat)(fG l:List Nat):Prop where
 bX:l.Nodup
 lt:∀ x∈l,x<n
 sub:∀ x∈fG,x∈l
 src:∀ x∈l,x∈fG\/∃ y∈fG,kD A y x
 Jh:∀ j x,j<k->l[j]?=some x->∀ y∈A x,y∈l
 k:k<=l.length
def um.len{k:Nat}(h:um A n k fG l):l.length<=n:=acJ n l h.bX h.lt
def um.next{k:Nat}(dI:∀ x,∀ y∈A x,y<n)(h:um A n k fG l){x:Nat}(ad:l[k]?=some x):um A n (k+1) fG (vN (A x) l):=by
 obtain⟨s,av⟩:=acH (A x) l;have ae:k<l.length:=by
  rcases Nat.lt_or_ge k l.length with aa | aa;·exact aa
  ·rw[qv aa]at ad;cases ad
 have kb:x∈l:=rv ad;refine⟨acI _ _ h.bX,λz bd=>?_,λz bd=>(Fz _ _ _).2 (.inl (h.sub z bd)),λz bd=>?_,λj z ak bd y aE=>?_,by rw[av];simp;omega⟩
 ·rcases(Fz _ _ _).1 bd with a | a
  ·exact h.lt z a
  ·exact dI x z a
 ·rcases(Fz _ _ _).1 bd with a | a
  ·exact h.src z a
  ·rcases h.src x kb with b | ⟨w,hw,b⟩
   ·exact .inr ⟨x,b,.one a⟩
   ·exact .inr ⟨w,hw,b.snoc a⟩
 ·have gO:l[j]?=some z:=by rw[av,qu (by omega)]at bd;exact bd
  by_cases e:j=k;·subst e;rw[ad]at gO;obtain rfl:=e2 gO;exact(Fz _ _ _).2 (.inr aE)
  ·exact(Fz _ _ _).2 (.inl (h.Jh j z (by omega) gO y aE))
def um.done{i:Nat}(h:um A n l.length (A i) l)(x:Nat):x∈l ↔ kD A i x:=by
 constructor
 ·intro ad;rcases h.src x ad with a | ⟨y,aE,a⟩
  ·exact .one a
  ·exact .step aE a
 ·have cl:∀ {y z:Nat},kD A y z->y∈l->z∈l:=fun {y z} ao=>by
   induction ao with
   |one ae=>intro aE;obtain⟨j,ak,e⟩:=hM aE;exact h.Jh j _ ak (by rw[dt ak,e]) _ ae
   |step ak t aN=>intro aE;refine aN ?_;obtain⟨q,aM,e⟩:=hM aE;exact h.Jh q _ aM (by rw[dt aM,e]) _ ak
  intro ao;cases ao with
  |one ae=>exact h.sub x ae| step ak t=>exact cl t (h.sub _ ak)
def Tk{pl:List (ByteArray×Int)}(af:right t=true){j:Nat}(ak:j<t.ns.length):(pi pl F t.ns j).2=true ↔ ∃ k∈t.ns[j].aq,(t.ns[j].k=6/\t.ns[j].hi=-1/\(ev pl F t.ns []).getD k.toNat ch=(ev pl F t.ns []).getD k.toNat ch/\((ev pl F t.ns []).getD k.toNat ch).z=true)\/(pi pl F t.ns k).2=true:=by
 have l3:∀ k∈t.ns[j].aq,(pi pl F t.ns k).1.1=(ev pl F t.ns []).getD k.toNat ch:=λk ae=>by obtain⟨aa,ab⟩:=ly af j ak k ae;obtain⟨q,rfl⟩:=eF aa;rw[M4 af (q+1) q (by omega) (by omega),Q8]
 rw[acG af ak];show y0 pl F t.ns[j] _=true ↔ _;unfold y0;rw[Fh];constructor
 ·rintro⟨x,ad,h⟩;obtain⟨k,ae,rfl⟩:=c0.1 ad;refine⟨k,ae,?_⟩;rw[l3 k ae]at h;simp only[kq,cw,hS]at h;rcases h with⟨a,b,c⟩ | h
  ·exact .inl ⟨a,b,rfl,c⟩
  ·exact .inr h
 ·rintro⟨k,ae,h⟩;refine⟨_,c0.2 ⟨k,ae,rfl⟩,?_⟩;rw[l3 k ae];simp only[kq,cw,hS];rcases h with⟨a,b,-,c⟩ | h
  ·exact .inl ⟨a,b,c⟩
  ·exact .inr h
def acK{pl:List (ByteArray×Int)}{F:List aR}{t:bn}(af:right t=true):∀ (m j:Nat),j<t.ns.length->t.ns.length-j<=m->(pi pl F t.ns j).2=true->(pi pl F t.ns t.br).2=true
 |0,j,ak,hm,_=>by omega
 |m+1,j,ak,hm,h=>by
  by_cases e:(j:Int)=t.br;·rw[<-e];exact h
  ·obtain⟨p,aH,ae,a4⟩:=YA af ak e;exact acK af m p aH (by omega) ((Tk af aH).2 ⟨_,ae,.inr h⟩)
def api{l:List Int}{k:Int}(ae:k∈l)(h:l.length=1):l.headD 0=k:=by
 match l,h with
 |[a],_=>exact(eC.1 ae).symm
def acL{pl:List (ByteArray×Int)}{F:List aR}{t:bn}(af:right t=true)(aa:∀ d∈t.ns,d.k=6->d.aq.length=1):∀ (m j:Nat),j<m->∀ (ak:j<t.ns.length),(pi pl F t.ns j).2=true->oj t.ns (ev pl F t.ns [])=true
 |0,j,h,_,_=>absurd h (ng _)
 |m+1,j,hm,ak,h=>by
  obtain⟨k,ae,⟨a,b,-,c⟩ | h⟩:=(Tk af ak).1 h;·refine Fh.2 ⟨t.ns[j],bJ ak,?_⟩;simp only[cw,hS];refine⟨a,b,?_⟩;rw[api ae (aa _ (bJ ak) a)];exact c
  ·obtain⟨ab,ai⟩:=ly af j ak k ae;obtain⟨q,rfl⟩:=eF ab;exact acL af aa m q (by omega) (by omega) h
def apj{pl:List (ByteArray×Int)}(af:right t=true)(aa:∀ d∈t.ns,d.k=6->d.aq.length=1):(pi pl F t.ns t.br).2=oj t.ns (ev pl F t.ns []):=by
 obtain⟨gG,hd⟩:=lZ af;obtain⟨r,en⟩:=eF gG;apply tj.2;constructor
 ·intro h;rw[en]at h;exact acL af aa (r+1) r (by omega) (by omega) h
 ·intro h;obtain⟨d,ah,h⟩:=Fh.1 h;obtain⟨j,ak,rfl⟩:=hM ah;simp only[cw,hS]at h;obtain⟨a,b,c⟩:=h;have aA:=aa _ ah a;have ae:t.ns[j].aq.headD 0∈t.ns[j].aq:=by
   match ad:t.ns[j].aq,aA with
   |[q],_=>simp
  exact acK af t.ns.length j ak (by omega) ((Tk af ak).2 ⟨_,ae,.inl ⟨a,b,rfl,c⟩⟩)
def acM{b:Bool}{x:Nat}:∀ {xs:List (aR×List Nat)},x∈AV b xs->∃ y∈xs,x∈y.2
 |[],h=>by rw[ape]at h;cases h
 |y::xs,h=>by
  rw[apf]at h;rcases cC.1 h with h | h;·exact⟨y,.head _,h⟩
  ·cases ag:b && !y.1.z with
   |true=>rw[ag]at h;cases h| false=>rw[ag]at h;obtain⟨z,bd,ad⟩:=acM (xs:=xs) h;exact⟨z,.tail _ bd,ad⟩
def acN{ds:List a0}{F:List aR}{t:bn}(af:right t=true)(eD:vp (bL ds) t.ns=true):∀ (m j:Nat),j<m->j<t.ns.length->∀ x∈(gz (bL ds) F t.ns j).2,x<ds.length
 |0,j,h,_=>absurd h (ng _)
 |m+1,j,hm,ak=>by
  intro x ad;rw[Q7 af ak]at ad;have ad:x∈lA (bL ds) t.ns[j] (t.ns[j].aq.map (gz (bL ds) F t.ns)):=ad;have mq:=fV.1 eD _ (bJ ak);by_cases ai:t.ns[j].k=3
  ·obtain⟨q,H0,tY,Ta⟩:=aci (nm:=t.ns[j].t) (ds:=ds) (by simpa[ai]using mq);rw[lA,iQ ai,cp,Ta]at ad;have:x=q:=by simpa using ad
   omega
  by_cases b':t.ns[j].k=6/\t.ns[j].hi=0;·rw[lA,fo ai,cb,fo (show ¬ t.ns[j].k=4 by omega),cb,iQ b'.1,iQ b'.2]at ad;cases ad
  ·rw[apg ai b']at ad;obtain⟨y,aE,apk⟩:=acM ad;obtain⟨k,ae,rfl⟩:=c0.1 aE;obtain⟨aa,ab⟩:=ly af j ak k ae;obtain⟨q,rfl⟩:=eF aa;exact acN af eD m q (by omega) (by omega) x apk
def Tl(bb:w0 g)(i:Nat):∀ k∈ma g.ds F i,k<g.ds.length:=by
 intro k ae;unfold ma at ae;by_cases h:i<g.ds.length
 ·rw[dt h]at ae;have hb:=bJ h;have af:=bb.right _ hb;obtain⟨gG,hd⟩:=lZ af;obtain⟨r,en⟩:=eF gG;have ae:k∈(gz (bL g.ds) F g.ds[i].t.ns g.ds[i].t.br).2:=ae;rw[en]at ae;exact acN af (bb.named _ hb) (r+1) r (by omega) (by omega) k ae
 ·rw[qv (by omega)]at ae;cases ae
def acO(bb:w0 g)(k6:g.ds.length<=64){i k:Nat}(hi:i<64):qU (q5 g.ds F).m i k ↔ kD (ma g.ds F) i k:=by
 constructor
 ·intro h
  induction h with
  |one ae h=>rw[M2 k6 ae]at h;exact .one (by simpa using h)| step h ak t aN=>rw[M2 k6 ak]at h;exact .step (by simpa using h) (aN ak)
 ·intro h
  induction h with
  |one h=>have:=Tl bb _ _ h;exact .one (by omega) (by rw[M2 k6 (by omega)];simpa using h)| step h t aN=>have:=Tl bb _ _ h;exact .step (by rw[M2 k6 (by omega)];simpa using h) (by omega) (aN (by omega))
def acP(aD:n<=64)(p q:Nat->Bool)(aa:∀ k,k<n->p k=q k)(ab:∀ k,n<=k->k<64->p k=false):(List.range 64).filter p=(List.range n).filter q:=by
 have k6:(List.range 64)=List.range n++(List.range' n (64-n)):=by rw[DE,DE,show 64=n+(64-n) by omega,<-List.range'_append_1];simp
 have ai:(List.range' n (64-n)).filter p=[]:=by rw[List.filter_eq_nil_iff];intro k ae;rw[List.mem_range'_1]at ae;rw[ab k (by omega) (by omega)];simp
 rw[k6,EM,ai,dD];apply GU;intro k ae;exact aa k (by simpa using ae)
def apl(ax:g.ok I)(bb:w0 g)(F:List aR)(i:Nat):xt g.ds F i=Jg g.ds F i:=by
 unfold xt Jg;by_cases h:i<g.ds.length
 ·rw[dt h];have hb:=bJ h;have af:=bb.right _ hb;have au:=(ax.ds _ hb).t;refine apj af λd ah ae=>?_;obtain⟨j,ak,rfl⟩:=hM ah;have bV:=au.ns _ ah;have:=(acb bV.k.1 (Eb af ak)).one (by omega);omega
 ·rw[qv (by omega)]
def apm(ax:g.ok I)(bb:w0 g)(k6:g.ds.length<=64)(F:List aR):AU (q5 g.ds F)=pk g.ds F:=by
 unfold AU pk bitsOf;refine acP k6 _ _ (λk ae=>?_) (λk ae e1=>?_)
 ·rw[acB k6 (by omega),apl ax bb]
 ·rw[acB k6 e1,Jg,qv ae]
open Classical in
noncomputable def q6(ds:List a0)(F:List aR):List Nat:=(List.range ds.length).filter λi=>decide (kD (ma ds F) i i)
def acQ{ds:List a0}{i:Nat}(h:ds.length<=i):ma ds F i=[]:=by rw[ma,qv h]
open Classical in
def apn(bb:w0 g)(k6:g.ds.length<=64)(F:List aR):xr (q5 g.ds F)=q6 g.ds F:=by
 unfold xr q6;refine acP k6 _ _ (λk ae=>?_) (λk ae e1=>?_)
 ·exact decide_eq_decide.2 (acO bb k6 (by omega))
 ·refine fo λao=>?_;have ao:=(acO bb k6 e1).1 ao;have aD:=acQ (F:=F) ae;cases ao with
  |one h=>rw[aD]at h;cases h| step h t=>rw[aD]at h;cases h
structure Tm(d:al):Prop where
 az:d.az<400
 t:d.t.size<8020
structure y1(t:bn):Prop where
 n:t.n<400
 ns:∀ bX∈t.ns,Tm bX
structure acR(d:a0):Prop where
 name:d.name.size<8020
 t:y1 d.t
structure AW(g:cg):Prop where
 n:g.n<400
 ds:∀ d∈g.ds,acR d
def wS.Ji{d:al}(h:wS I d)(av:Tm d):d.ok I:=
 ⟨h.k,h.cz,h.s1,h.s2,h.cV,h.e7,h.lo,h.hi,h.ba.Cq (by have:=av.az;omega),h.aq⟩
def wT.Ji(h:wT I t)(av:y1 t):t.ok I:=
 ⟨h.ba.Cq (by have:=av.n;omega),λbX bV=>(h.ns bX bV).Ji (av.ns bX bV),h.br⟩
def rZ.Ji(h:rZ I g)(av:AW g):g.ok I:=
 ⟨h.ba.Cq (by have:=av.n;omega),λd ah=>⟨by have:=(av.ds d ah).name;omega,(h.ds d ah).t.Ji (av.ds d ah).t⟩⟩
def Jj(h:du ay g=0):g.n<=64:=by
 unfold du at h;cases aa:decide ((g.n:Int)=0)with
 |true=>rw[aa]at h;simp at h
 |false=>
  rw[aa,cb]at h;cases ab:n' g.ds with
  |false=>rw[ab]at h;simp at h
  |true=>
   rw[ab]at h;cases ai:pX ay g with
   |true=>rw[ai]at h;simp at h| false=>unfold pX at ai;simp only[tI,sE]at ai;omega
def acS(ay:List Int)(g:cg)(r:Int)(l:List Nat):Prop:=((du ay g≠0\/r<0\/(g.n:Int)<=r)/\l=[])\/(du ay g=0/\∃ F k,r=(k:Nat)/\k<g.n/\hp g.ds F/\l=pj g.ds F k)
def acT(ay:List Int)(g:cg)(l:List Nat):Prop:=(du ay g≠0/\l=[])\/(du ay g=0/\∃ F,hp g.ds F/\l=pk g.ds F)
def acU(ay:List Int)(g:cg)(l:List Nat):Prop:=(du ay g≠0/\l=[])\/(du ay g=0/\∃ F,hp g.ds F/\l=q6 g.ds F)
def acV{A:Nat->List Nat}{n:Nat}{fG:List Nat}(dI:∀ x,∀ y∈A x,y<n):∀ (f k:Nat) (l:List Nat),um A n k fG l->n+1<=f+k->um A n (FA A f k l).length fG (FA A f k l)
 |0,k,l,h,aB=>by have:=h.len;have:=h.k;omega
 |f+1,k,l,h,aB=>by
  rw[FA];cases ad:l[k]? with
  |none=>
   have aa:k=l.length:=by have:=h.k;have:=List.getElem?_eq_none_iff.1 ad;omega
   subst aa;exact h
  |some x=>exact acV dI f (k+1) _ (h.next dI ad) (by omega)
def kD.congr{B:Nat->List Nat}(h:∀ i k,k∈A i->k∈B i){i k:Nat}(ao:kD A i k):kD B i k:=by
 induction ao with
 |one aa=>exact .one (h _ _ aa)| step aa t aN=>exact .step (h _ _ aa) aN
def kD.trans{i j k:Nat}(h:kD A i j)(bj:kD A j k):kD A i k:=by
 induction h with
 |one h=>exact .step h bj| step h t aN=>exact .step h (aN bj)
def acW(bb:w0 g){i k:Nat}:k∈pj g.ds F i ↔ k∈ma g.ds F i:=by
 unfold pj;rw[n4];constructor
 ·rintro⟨-,h⟩;simpa using h
 ·intro h;exact⟨by simpa using Tl bb i k h,by simpa using h⟩
def apo(bb:w0 g){i k:Nat}:kD (pj g.ds F) i k ↔ kD (ma g.ds F) i k:=
 ⟨kD.congr λ_ _ h=>(acW bb).1 h,kD.congr λ_ _ h=>(acW bb).2 h⟩
def acX{ds:List a0}{i k:Nat}(h:k∈pj ds F i):k<ds.length:=by unfold pj at h;simpa using(n4.1 h).1
def apq(ds:List a0)(F:List aR)(i:Nat):(pj ds F i).Nodup:=List.Nodup.sublist zT BJ
def um.start{ds:List a0}(i:Nat):um (pj ds F) ds.length 0 (pj ds F i) (pj ds F i):=
 ⟨apq ds F i,λx ad=>acX ad,λ_ h=>h,λ_ h=>.inl h,λj x ak=>absurd ak (ng _),dj _⟩
def C5(ds:List a0)(F:List aR):List Nat:=(List.range ds.length).filter λi=>(FA (pj ds F) (ds.length+1) 0 (pj ds F i)).contains i
open Classical in
def apr(bb:w0 g)(F:List aR):C5 g.ds F=q6 g.ds F:=by
 unfold C5 q6;refine GU λi _=>?_;have aa:=acV (λx y aE=>acX aE) (g.ds.length+1) 0 _ (um.start (ds:=g.ds) (F:=F) i) (by omega);have ab:=(aa.done i).trans (apo bb);cases ao:(FA (pj g.ds F) (g.ds.length+1) 0 (pj g.ds F i)).contains i with
 |true=>exact(iQ (ab.1 (by simpa using ao))).symm| false=>refine(fo λh=>?_).symm;have:=ab.2 h;rw[<-List.contains_iff_mem,ao]at this;cases this
def vO:List Bool->Nat
 |[]=>0| b::r=>bif b then vO r+1 else vO r
open Classical in
noncomputable def M5(ds:List a0):List aR:=if h:∃ F,hp ds F then h.choose else []
def Tn{ds:List a0}(h:hp ds F):M5 ds=F:=by have ad:∃ F,hp ds F:=⟨F,h⟩;unfold M5;rw[dif_pos ad];exact ad.choose_spec.unique h
def lI(ay:List Int)(g:cg)(r:Int×Int):Prop:=(du ay g≠0/\r=(0,du ay g))\/(du ay g=0/\∃ F,hp g.ds F/\r=if 0<(q6 g.ds F).length then((((q6 g.ds F).headD 0:Nat):Int),42)else if 0<(pk g.ds F).length then((((pk g.ds F).headD 0:Nat):Int),43)else(0,0))
def lI.eq{l m:Int×Int}(h:lI ay g l)(bj:lI ay g m):l=m:=by
 rcases h with⟨a,rfl⟩ | ⟨a,F,d,rfl⟩<;>rcases bj with⟨bN,rfl⟩ | ⟨bN,c9,d',rfl⟩
 ·rfl
 ·exact absurd bN a
 ·exact absurd a bN
 ·rw[d.unique d']
def aps(bl:ff I ay)(ax:g.ok I)(jF:∀ d∈g.ds,vz d.t):Spec Tryz.prog 103 [g.val] I [] λv I' M'=>(∀ b o,I b=some o->I' b=some o)/\M'=[] /\ ∃ r:Int×Int,v=.tuple #[.int .i64 r.1,.int .i64 r.2]/\lI ay g r:=
 Spec.mH (apc bl ax jF Jj) λv I' M' h=>by
  obtain⟨aa,ab,r,ai,bq⟩:=h;refine⟨aa,ab,r,ai,?_⟩;rcases bq with bq | ⟨hm,F,c,d⟩;·exact .inl bq
  ·have bb:=LO ax.n hm;have k6:=Jj hm;have hL:=ax.n;refine .inr ⟨hm,F,c,?_⟩;rw[d,Jf,bP (by simp),apn bb (by omega),apm ax bb (by omega)]
def M6(bl:ff I ay)(ax:g.ok I)(jF:∀ d∈g.ds,vz d.t):Spec Tryz.prog 49 [g.val] I [] λv I' M'=>(∀ b o,I b=some o->I' b=some o)/\M'=[] /\
  ∃ r:Int×Int,v=.int .i64 r.2/\lI ay g r:=by
 refine b0 [] a3 Tryz.func49 rfl rfl rfl ?_;intro B aw;refine bc.mk [] [] _ (.refl _) (aps bl ax jF) ?_;rintro v I1 N -⟨db,rfl,r,rfl,h⟩;exact⟨_,_,.refl,db,rfl,r,rfl,h⟩
section
end
structure sc where
 k:Int
 cz:Int
 s1:Int
 s2:Int
 cV:Int
 t:List UInt8
 lo:Int
 hi:Int
 aq:List Int
def sc.bX(c:sc)(a:Option Addr)(n k:Nat):al:=⟨c.k,c.cz,c.s1,c.s2,c.cV,⟨c.t.toArray⟩,c.lo,c.hi,a,n,k,c.aq⟩
inductive y2:List sc->List al->Prop
 |nil:y2 [] []| cons {c cs ns} (a:Option Addr) (n k:Nat) (t:y2 cs ns):y2 (c::cs) (c.bX a n k::ns)
structure nj where
 ns:List sc
 br:Int
structure FB(c:nj)(t:bn):Prop where
 ns:y2 c.ns t.ns
 br:t.br=c.br
structure kg where
 name:List UInt8
 t:nj
inductive qa:List kg->List a0->Prop
 |nil:qa [] []| cons {c cs ds} {t:bn} (h:FB c.t t) (k:qa cs ds):qa (c::cs) (⟨⟨c.name.toArray⟩,t⟩::ds)
def acY:Int->Bool
 | .ofNat k=>Nat.ble k 9223372036854775807| .negSucc k=>Nat.ble k 9223372036854775807
def acZ:Int->Bool
 | .ofNat k=>Nat.ble k 18446744073709551615| .negSucc _=>false
def okB:Int->Bool
 | .ofNat k=>Nat.ble k 255| .negSucc _=>false
def apt{x:Int}(h:acY x=true):ha x:=by
 cases x with
 |ofNat k=>have:=bK h;exact⟨by simp only[BZ];omega,by simp only[BZ];omega⟩| negSucc k=>have:=bK h;exact⟨by omega,by omega⟩
def apu{x:Int}(h:acZ x=true):fl x:=by
 cases x with
 |ofNat k=>have:=bK h;exact⟨by simp,by simp;omega⟩| negSucc k=>cases h
def apv{x:Int}(h:okB x=true):0<=x/\x<256:=by
 cases x with
 |ofNat k=>have:=bK h;exact⟨by simp,by simp;omega⟩| negSucc k=>cases h
noncomputable def To:ap->Option Int
 | .i .u8 n=>b4 (okB n) (some n) none| _=>none
noncomputable def FC:ap->Option Int
 | .i .u64 n=>b4 (acZ n) (some n) none| _=>none
noncomputable def FD:ap->Option Int
 | .i .i64 n=>b4 (acY n) (some n) none| _=>none
noncomputable def M7:ap->Option (List UInt8)
 | .s l=>b4 (Nat.ble l.length 140737488355328) (some l) none| _=>none
section
variable{D:bS}{v:ap}{u:Value}
def apw{n:Int}(h:To v=some n)(aj:aW D v u):u=.int .u8 n/\0<=n/\n<256:=by
 unfold To at h;split at h
 ·obtain⟨aa,ab⟩:=fZ h;cases ab;simp only[aW]at aj;exact⟨aj,apv aa⟩
 ·cases h
def M8{n:Int}(h:FC v=some n)(aj:aW D v u):u=.int .u64 n/\fl n:=by
 unfold FC at h;split at h
 ·obtain⟨aa,ab⟩:=fZ h;cases ab;simp only[aW]at aj;exact⟨aj,apu aa⟩
 ·cases h
def M9{n:Int}(h:FD v=some n)(aj:aW D v u):u=.int .i64 n/\ha n:=by
 unfold FD at h;split at h
 ·obtain⟨aa,ab⟩:=fZ h;cases ab;simp only[aW]at aj;exact⟨aj,apt aa⟩
 ·cases h
def ac0{l:List UInt8}(h:M7 v=some l)(aj:aW D v u):u=.string ⟨l.toArray⟩/\(⟨l.toArray⟩:ByteArray).size<=140737488355328:=by
 unfold M7 at h;split at h
 ·obtain⟨aa,ab⟩:=fZ h;cases ab;simp only[aW]at aj;exact⟨aj,bK aa⟩
 ·cases h
end
noncomputable def Jk{R:Type}(G:GT)(m:bm fx)(x:ap)(size b:Nat)(K:List ap->Option R):Option R:=match x with
 | .sn=>K []| .so=>K []| .sl id off n c=>b4 (Nat.ble n c) (b4 (Nat.ble (Nat.mul n b) 140737488355328) (uf G m (.p id off) (Nat.mul n size) K) none) none| .sx id off e n=>b4 (Nat.ble (Nat.mul n b) 140737488355328) (uf G m (.p id off) (Nat.mul n size) K) none| _=>none
noncomputable def ints:List ap->Option (List Int)
 |[]=>some []| v::l=>bx (FD v) none λn=>bx (ints l) none λr=>some (n::r)
noncomputable def Na(G:GT)(m:bm fx):List ap->Option (List sc)
 |[]=>some []
 |a::b::c::d::e::f::g::h::x::l=>bx (To a) none λa=>bx (FC b) none λb=>bx (FC c) none λc=>bx (FC d) none λd=>bx (FC e) none λe=>bx (M7 f) none λf=>bx (FD g) none λg=>bx (FD h) none λh=>
  bx (Jk G m x 1 8 ints) none λks=>bx (Na G m l) none λns=>some (⟨a,b,c,d,e,f,g,h,ks⟩::ns)
 |_=>none
noncomputable def Nb(G:GT)(m:bm fx)(x r:ap):Option nj:=bx (Jk G m x 9 96 (Na G m)) none λns=>bx (FD r) none λr=>some ⟨ns,r⟩
noncomputable def Nc(G:GT)(m:bm fx):List ap->Option (List kg)
 |[]=>some []| a::x::r::l=>bx (M7 a) none λa=>bx (Nb G m x r) none λt=>bx (Nc G m l) none λds=>some (⟨a,t⟩::ds)
 |_=>none
noncomputable def Tp(G:GT)(m:bm fx):ap->Option (List kg)
 | .a [x]=>Jk G m x 3 48 (Nc G m)| _=>none
section
variable{Y:gU}{D:bS}{m:bz}{I J:aJ}{M:List aF}
def Tq{R:Type}(h:df Y D m I M)(a8:uk I M J){x:ap}(ad:aW D x u){K:List ap->Option R}{r:R}(af:Jk Y.G m.t x size b K=some r) :
  ∃ a n c l vs,u=.slice a n c/\cD J a n c size b vs/\bO D l vs/\K l=some r:=by
 unfold Jk at af;split at af
 ·simp only[aW]at ad;exact⟨none,0,0,[],[],ad,⟨by simp,⟨b2 _,by omega⟩,.inl rfl⟩,by simp[bO],af⟩
 ·simp only[aW]at ad;obtain⟨a,c,ad⟩:=ad;exact⟨some a,0,c,[],[],ad,⟨by simp,⟨dj _,by omega⟩,.inl rfl⟩,by simp[bO],af⟩
 ·rename_i id off n c;obtain⟨aa,af⟩:=fZ af;obtain⟨ab,af⟩:=fZ af;simp only[aW]at ad;obtain⟨a,a6,ad⟩:=ad;obtain⟨aP,l,vs,aK,a7,ck,dM⟩:=xb h (x:=.p id off) (u:=.pointer (some ⟨a.b,a.o+off,none⟩)) (by simp only[aW];exact⟨a,a6,rfl⟩) af;cases aK;obtain⟨a',cs,T,f,bg,b5,gf⟩:=a7;exact⟨_,n,c,l,vs,ad,⟨gf,⟨bK aa,bK ab⟩,.inr ⟨_,rfl,rfl,cs,T,f,a8.az _ _ bg,b5⟩⟩,ck,dM⟩
 ·rename_i id off e n;obtain⟨ab,af⟩:=fZ af;simp only[aW]at ad;obtain⟨a,a6,ao,ad⟩:=ad;obtain⟨aP,l,vs,aK,a7,ck,dM⟩:=xb h (x:=.p id off) (u:=.pointer (some ⟨a.b,a.o+off,none⟩)) (by simp only[aW];exact⟨a,a6,rfl⟩) af;cases aK;obtain⟨a',cs,T,f,bg,b5,gf⟩:=a7;exact⟨_,n,a.c-e,l,vs,ad,⟨gf,⟨by omega,bK ab⟩,.inr ⟨_,rfl,rfl,cs,T,f,a8.az _ _ bg,b5⟩⟩,ck,dM⟩
 ·cases af
def ac1:∀ {l:List ap} {vs:List Value} {ks:List Int},ints l=some ks->bO D l vs->vs=ks.map (Value.int .i64 ·)/\∀ x∈ks,ha x
 |[],vs,ks,h,aj=>by cases h;simp only[bO]at aj;exact⟨aj,by simp⟩
 |v::l,vs,ks,h,aj=>by unfold ints at h;obtain⟨n,aa,h⟩:=cy h;obtain⟨r,ab,h⟩:=cy h;cases h;simp only[bO]at aj;obtain⟨x,xs,a',bg,rfl⟩:=aj;obtain⟨rfl,aK⟩:=M9 aa a';obtain⟨rfl,a7⟩:=ac1 ab bg;exact⟨rfl,λx ad=>(eA.1 ad).elim (λe=>e ▸ aK) (a7 x)⟩
def ac2(h:df Y D m I M)(a8:uk I M J):∀ (l:List ap) {vs:List Value} {cs:List sc},Na Y.G m.t l=some cs->bO D l vs->∃ ns:List al,vs=ns.flatMap al.cells/\y2 cs ns/\∀ d∈ns,d.ok J
 |[],vs,cs,af,aj=>by cases af;simp only[bO]at aj;exact⟨[],aj,.nil,by simp⟩
 |a::b::c::d::e::f::g::i::x::l,vs,cs,af,aj=>by
  unfold Na at af;obtain⟨bN,aa,af⟩:=cy af;obtain⟨jb,ab,af⟩:=cy af;obtain⟨c',ai,af⟩:=cy af;obtain⟨d',aL,af⟩:=cy af;obtain⟨cU,bq,af⟩:=cy af;obtain⟨tO,b',af⟩:=cy af;obtain⟨eu,dZ,af⟩:=cy af;obtain⟨gV,eX,af⟩:=cy af;obtain⟨ks,dT,af⟩:=cy af;obtain⟨iX,pL,af⟩:=cy af;cases af;simp only[bO]at aj;obtain⟨_,_,eK,⟨_,_,cR,⟨_,_,g',⟨_,_,my,⟨_,_,I8,⟨_,_,apx,⟨_,_,apy,⟨_,_,apz,⟨_,_,apA,apB,rfl⟩,rfl⟩,rfl⟩,rfl⟩,rfl⟩,rfl⟩,rfl⟩,rfl⟩,rfl⟩:=aj;obtain⟨rfl,aK⟩:=apw aa eK;obtain⟨rfl,a7⟩:=M8 ab cR;obtain⟨rfl,ck⟩:=M8 ai g';obtain⟨rfl,dM⟩:=M8 aL my;obtain⟨rfl,jR⟩:=M8 bq I8;obtain⟨rfl,kA⟩:=ac0 b' apx;obtain⟨rfl,vG⟩:=M9 dZ apy;obtain⟨rfl,xj⟩:=M9 eX apz;obtain⟨cf,az,cx,li,axR,rfl,xk,apC,apD⟩:=Tq h a8 apA dT;obtain⟨rfl,Tr⟩:=ac1 apD apC;obtain⟨ns,rfl,Ts,apE⟩:=ac2 h a8 l pL apB;refine⟨sc.bX ⟨bN,jb,c',d',cU,tO,eu,gV,ks⟩ cf az cx::ns,rfl,.cons cf az cx Ts,λy aE=>?_⟩;rcases eA.1 aE with rfl | aE;·exact⟨aK,a7,ck,dM,jR,ja kA (by decide),vG,xj,xk,Tr⟩
  ·exact apE y aE
def ac3(h:df Y D m I M)(a8:uk I M J){x r:ap}{w:Value}{c:nj}(af:Nb Y.G m.t x r=some c)(ad:aW D x u)(hw:aW D r w):∃ t:bn,u=.slice t.a t.n t.c/\w=.int .i64 t.br/\t.ok J/\FB c t:=by unfold Nb at af;obtain⟨ns,aa,af⟩:=cy af;obtain⟨k,ab,af⟩:=cy af;cases af;obtain⟨rfl,aK⟩:=M9 ab hw;obtain⟨a,n,c,l,vs,rfl,a7,ck,dM⟩:=Tq h a8 ad aa;obtain⟨ds,rfl,jR,kA⟩:=ac2 h a8 l dM ck;exact⟨⟨ds,a,n,c,k⟩,rfl,rfl,⟨a7,kA,aK⟩,⟨jR,rfl⟩⟩
def ac4(h:df Y D m I M)(a8:uk I M J):∀ (l:List ap) {vs:List Value} {cs:List kg},Nc Y.G m.t l=some cs->bO D l vs->∃ ds:List a0,vs=ds.flatMap a0.cells/\qa cs ds/\∀ d∈ds,d.ok J
 |[],vs,cs,af,aj=>by cases af;simp only[bO]at aj;exact⟨[],aj,.nil,by simp⟩
 |a::x::r::l,vs,cs,af,aj=>by
  unfold Nc at af;obtain⟨bN,aa,af⟩:=cy af;obtain⟨bf,ab,af⟩:=cy af;obtain⟨ds',ai,af⟩:=cy af;cases af;simp only[bO]at aj;obtain⟨_,_,eK,⟨_,_,cR,⟨_,_,g',my,rfl⟩,rfl⟩,rfl⟩:=aj;obtain⟨rfl,aK⟩:=ac0 aa eK;obtain⟨t,rfl,rfl,a7,ck⟩:=ac3 h a8 ab cR g';obtain⟨ds,rfl,dM,jR⟩:=ac4 h a8 l ai my;refine⟨⟨⟨bN.toArray⟩,t⟩::ds,rfl,.cons (c:=⟨bN,bf⟩) ck dM,λy aE=>?_⟩;rcases eA.1 aE with rfl | aE;·exact⟨aK,a7⟩
  ·exact jR y aE
def apF(h:df Y D m I M)(a8:uk I M J){x:ap}{cs:List kg}(af:Tp Y.G m.t x=some cs)(ad:aW D x u):∃ g:cg,u=g.val/\g.ok J/\qa cs g.ds:=by
 unfold Tp at af;split at af
 ·simp only[aW,bO]at ad;obtain⟨_,⟨y,_,ad,rfl,rfl⟩,rfl⟩:=ad;obtain⟨a,n,c,l,vs,rfl,a7,ck,dM⟩:=Tq h a8 ad af;obtain⟨ds,rfl,jR,kA⟩:=ac4 h a8 l dM ck;exact⟨⟨ds,a,n,c⟩,rfl,⟨a7,kA⟩,jR⟩
 ·cases af
end
noncomputable def FE(f g:Nat)(text:List UInt8):Option (List kg×Int×IntKind×Int):=bx (yL vL (lE vL f) g [.s text] ⟨.nil,0⟩) none λp=>match p.1 with
 | .t [x,.i .i64 a,.i k e]=>bx (Tp Jb p.2.t x) none λc=>some (c,a,k,e)
 |_=>none
noncomputable def xu(f g:Nat)(text:List UInt8):Option (nj×Int×IntKind×Int):=bx (yL vL (lE vL f) g [.s text] ⟨.nil,0⟩) none λp=>match p.1 with
 | .t [.a [x,r],.i .i64 a,.i k e]=>bx (Nb Jb p.2.t x r) none λc=>some (c,a,k,e)
 |_=>none
def apG(bl:ff I hN){g:Nat}{c:List kg}{a:Int}{k:IntKind}{e:Int}(h:FE f g text=some (c,a,k,e)) :
  Spec Tryz.prog g [.string ⟨text.toArray⟩] I [] λr J kQ=>kQ=[]/\(∀ b o,I b=some o->J b=some o)/\∃ G:cg,r=.tuple #[G.val,.int .i64 a,.int k e]/\G.ok J/\qa c G.ds:=by
 unfold FE at h;obtain⟨⟨v,m'⟩,aa,h⟩:=cy h;refine Spec.mH (aca bl aa (us:=[.string ⟨text.toArray⟩]) (by simp[bO,aW])) ?_;rintro r J kQ⟨rfl,bk,I',M',bG,aj,hm,a8⟩;refine⟨rfl,bk,?_⟩;simp only at h;split at h
 ·obtain⟨c',ab,h⟩:=cy h;cases h;simp only[aW,bO]at aj;obtain⟨_,⟨u,_,hu,⟨_,_,rfl,⟨_,_,rfl,rfl,rfl⟩,rfl⟩,rfl⟩,rfl⟩:=aj;obtain⟨G,rfl,a',bg⟩:=apF hm a8 ab hu;exact⟨G,rfl,a',bg⟩
 ·cases h
def ac5(bl:ff I hN){g:Nat}{c:nj}{a:Int}{k:IntKind}{e:Int}(h:xu f g text=some (c,a,k,e)) :
  Spec Tryz.prog g [.string ⟨text.toArray⟩] I [] λr J kQ=>kQ=[]/\(∀ b o,I b=some o->J b=some o)/\∃ t:bn,r=.tuple #[t.val,.int .i64 a,.int k e]/\t.ok J/\FB c t:=by
 unfold xu at h;obtain⟨⟨v,m'⟩,aa,h⟩:=cy h;refine Spec.mH (aca bl aa (us:=[.string ⟨text.toArray⟩]) (by simp[bO,aW])) ?_;rintro r J kQ⟨rfl,bk,I',M',bG,aj,hm,a8⟩;refine⟨rfl,bk,?_⟩;simp only at h;split at h
 ·obtain⟨c',ab,h⟩:=cy h;cases h;simp only[aW,bO]at aj;obtain⟨_,⟨u,_,⟨_,⟨_,_,ad,⟨_,_,af,rfl,rfl⟩,rfl⟩,rfl⟩,⟨_,_,rfl,⟨_,_,rfl,rfl,rfl⟩,rfl⟩,rfl⟩,rfl⟩:=aj;obtain⟨t,rfl,rfl,a',bg⟩:=ac3 hm a8 ab ad af;exact⟨t,rfl,a',bg⟩
 ·cases h
def sc.pl(c:sc):al:=c.bX none 0 0
def nj.jH(c:nj):bn:=⟨c.ns.map sc.pl,none,c.ns.length,0,c.br⟩
def kg.Tt(c:kg):a0:=⟨⟨c.name.toArray⟩,c.t.jH⟩
def q7(cs:List kg):cg:=⟨cs.map kg.Tt,none,cs.length,0⟩
def y2.a1{cs:List sc}{ns:List al}(h:y2 cs ns):ns.map al.a1=cs.map sc.pl:=by
 induction h with
 |nil=>rfl| cons a n k t aN=>rw[ca,ca,aN];rfl
def y2.len{cs:List sc}{ns:List al}(h:y2 cs ns):ns.length=cs.length:=by
 induction h with
 |nil=>rfl| cons a n k t aN=>simp[aN]
def FB.a1{c:nj}(h:FB c t)(au:t.ok I):t.a1=c.jH:=by unfold bn.a1 nj.jH;rw[h.ns.a1,h.br,<-au.n,h.ns.len]
def qa.a1{cs:List kg}{ds:List a0}(h:qa cs ds)(ah:∀ d∈ds,d.ok I):ds.map a0.a1=cs.map kg.Tt:=by
 induction h with
 |nil=>rfl| cons h k aN=>rw[ca,ca,aN λd fE=>ah d (.tail _ fE)];congr 1;unfold a0.a1 kg.Tt;rw[h.a1 (ah _ (.head _)).t]
def qa.len{cs:List kg}{ds:List a0}(h:qa cs ds):ds.length=cs.length:=by
 induction h with
 |nil=>rfl| cons h k aN=>simp[aN]
def Tu{cs:List kg}(h:qa cs g.ds)(ax:g.ok I):g.a1=q7 cs:=by unfold cg.a1 q7;rw[h.a1 ax.ds,<-ax.n,h.len]
def apH(c:nj):Bool:=c.ns.all λn=>decide (n.aq.length<=1000)
def apI{c:nj}(h:FB c t)(au:t.ok I)(ae:apH c=true):vz t:=λn aD=>by
 have aa:=(au.ns n aD).az;have ab:n.a1∈c.ns.map sc.pl:=by rw[<-h.ns.a1];exact c0.2 ⟨n,aD,rfl⟩
 obtain⟨x,ad,e⟩:=c0.1 ab;have ai:=c5 (fV.1 ae x ad);have aL:x.aq=n.aq:=congrArg al.aq e;rw[aL]at ai;omega
def apJ{cs:List kg}{ds:List a0}(h:qa cs ds)(ah:∀ d∈ds,d.ok I)(ae:(cs.all λd=>d.t.ns.all λn=>decide (n.aq.length<=1000))=true):∀ d∈ds,vz d.t:=by
 induction h with
 |nil=>intro d ah;cases ah
 |cons h k aN=>
  simp only[xN,cw]at ae;intro d hm;rcases eA.1 hm with rfl | hm;·exact apI h (ah _ (.head _)).t ae.1
  ·exact aN (λd fE=>ah d (.tail _ fE)) (by simpa using ae.2) d hm
def Tv(ds:List a0)(F:List aR)(i:Nat):ma (ds.map a0.a1) F i=ma ds F i:=by
 unfold ma;rw[ju,EE];cases ds[i]? with
 |none=>rfl| some d=>show(gz (bL ds) F (d.t.ns.map al.a1) d.t.br).2=_;rw[alM]
def apK(ds:List a0)(F:List aR)(i:Nat):xt (ds.map a0.a1) F i=xt ds F i:=by
 unfold xt;rw[ju,EE];cases ds[i]? with
 |none=>rfl| some d=>show(pi (bL ds) F (d.t.ns.map al.a1) d.t.br).2=_;rw[aph]
def apL(ds:List a0)(F:List aR):pj (ds.map a0.a1) F=pj ds F:=by funext i;unfold pj;rw[bE,Tv]
def Tw(ds:List a0)(F:List aR):pk (ds.map a0.a1) F=pk ds F:=by unfold pk;rw[bE];exact GU λi _=>apK ds F i
def apM(ds:List a0)(F:List aR):C5 (ds.map a0.a1) F=C5 ds F:=by unfold C5;rw[bE,apL]
def ac6{ds:List a0}{l:List aR}(h:hp (ds.map a0.a1) l):hp ds l:=by
 refine⟨by rw[h.len,bE],λi hi=>?_,λm hm ao=>?_⟩
 ·have:=h.fix i (by simpa using hi);rwa [EE,gg,LS]at this
 ·refine h.least m (by rw[hm,bE]) λi hi=>?_;rw[EE,gg,LS];exact ao i (by simpa using hi)
def Tx(ds:List a0)(F:List aR):Int×Int:=bif decide (0<(C5 ds F).length)then((((C5 ds F).headD 0:Nat):Int),42)else bif decide (0<(pk ds F).length)then((((pk ds F).headD 0:Nat):Int),43)else(0,0)
structure Jl(cs:List kg)(F:List aR):Prop where
 may:du hN (q7 cs)=0
 Jm:hp (q7 cs).ds F
 tV:(cs.all λd=>d.t.ns.all λn=>decide (n.aq.length<=1000))=true
def Jl.of{cs:List kg}(eG:Jl cs F)(ax:g.ok I)(aX:qa cs g.ds):du hN g=0/\hp g.ds F/\(∀ d∈g.ds,vz d.t):=by
 have ey:=Tu aX ax;have fD:g.ds.map a0.a1=(q7 cs).ds:=congrArg cg.ds ey;have hm:du hN g=0:=by rw[<-Cy,ey];exact eG.may
 refine⟨hm,?_,apJ aX ax.ds eG.tV⟩;have:=eG.Jm;rw[<-fD]at this;exact ac6 this
def apN{cs:List kg}(eG:Jl cs F)(ax:g.ok I)(aX:qa cs g.ds)(h:lI hN g r):r=Tx (q7 cs).ds F:=by
 obtain⟨hm,bs,-⟩:=eG.of ax aX;have fD:g.ds.map a0.a1=(q7 cs).ds:=congrArg cg.ds (Tu aX ax);have bb:=LO ax.n hm;rcases h with⟨a,-⟩ | ⟨-,c9,mP,rfl⟩
 ·exact absurd hm a
 ·obtain rfl:=bs.unique mP;rw[<-fD,Tx,apM,Tw,apr bb];by_cases aa:0<(q6 g.ds F).length
  ·rw[bT aa,iQ aa,cp]
  ·rw[bP aa,fo aa,cb];by_cases ab:0<(pk g.ds F).length
   ·rw[bT ab,iQ ab,cp]
   ·rw[bP ab,fo ab,cb]
def Jn(ds:List a0):Nat->List aR->List aR
 |0,L=>L| k+1,L=>Jn ds k (ds.map (iU (bL ds) L))
def ac7{ds:List a0}:∀ (k:Nat) {L:List aR},o4 ds L->ds.map (iU (bL ds) (Jn ds k L))=Jn ds k L->hp ds (Jn ds k L)
 |0,L,aH,h=>by refine⟨aH.len,λi hi=>?_,aH.least⟩;have:=M3 (f:=iU (bL ds) L) hi;have aa:ds.map (iU (bL ds) L)=L:=h;rw[aa]at this;exact this
 |k+1,L,aH,h=>ac7 k aH.all.1 h
def Nd(cs:List kg)(k:Nat):List aR:=Jn (q7 cs).ds k (List.replicate (q7 cs).ds.length ch)
def Jo(cs:List kg)(F:List aR)(k:Nat):Bool:=decide (du hN (q7 cs)=0)&&(decide (Nd cs k=F)&&(decide ((q7 cs).ds.map (iU (bL (q7 cs).ds) F)=F)&&cs.all λd=>d.t.ns.all λn=>decide (n.aq.length<=1000)))
def apO{cs:List kg}{k:Nat}(h:Jo cs F k=true):Jl cs F:=by simp only[Jo,cw,hS]at h;obtain⟨aa,ab,ai,aL⟩:=h;refine⟨aa,?_,by simpa using aL⟩;have:=ac7 k (o4.start (q7 cs).ds);unfold Nd at ab;rw[ab]at this;exact this ai
structure ac8 where
 l:List ee
 a:Option Addr
 n:Nat
 c:Nat
def ac8.val(x:ac8):Value:=.slice x.a x.n x.c
section
end
def ac9(g:cg)(l:List ee):Prop:=(du hN g=0/\∃ F,hp g.ds F/\alL g.ds F l)\/(du hN g≠0/\l=[])
def ac9.len{l:List ee}(h:ac9 g l):l.length<=g.ds.length:=by
 rcases h with⟨a,F,bs,h⟩ | ⟨a,h⟩
 ·rw[h.len];exact b2 _
 ·rw[h];exact dj _
def ada(g:cg)(l:List ee)(t:bn)(r:List ee):Prop:=(acF hN g l t=true/\∃ F,hp g.ds F/\r=If (bL g.ds) l (ev (bL g.ds) F t.ns []) t.ns [])\/(acF hN g l t=false/\r=[])
def ada.len{l:List ee}{r:List ee}(h:ada g l t r):r.length<=t.ns.length:=by
 rcases h with⟨a,F,bs,rfl⟩ | ⟨a,rfl⟩
 ·rw[Zt];simp
 ·exact dj _
section
end
def acS.len{r:Int}(h:acS ay g r l):l.length<=g.ds.length:=by
 rcases h with⟨-,rfl⟩ | ⟨-,F,k,-,-,-,rfl⟩
 ·exact dj _
 ·exact Tj _ _
def acT.len(h:acT ay g l):l.length<=g.ds.length:=by
 rcases h with⟨-,rfl⟩ | ⟨-,F,-,rfl⟩
 ·exact dj _
 ·exact Tj _ _
def acU.len(h:acU ay g l):l.length<=g.ds.length:=by
 rcases h with⟨-,rfl⟩ | ⟨-,F,-,rfl⟩
 ·exact dj _
 ·exact Tj _ _
def apP(ns:List al)(nm:ByteArray):Bool:=ns.any λn=>decide (n.k=3)&&decide (n.t=nm)
def apQ(g:cg)(i k:Nat):Bool:=match g.ds[i]?,g.ds[k]? with
 |some d,some e=>apP d.t.ns e.name| _,_=>false
def adb(g:cg)(i k:Nat):Bool:=decide (i=k)||apQ g i k
def om(g:cg):Nat->Nat->Nat->Prop
 |0,i,k=>adb g i k=true| m+1,i,k=>om g m i k\/(om g m i m/\om g m m k)
def om.bC{g:cg}{i k:Nat}(h:adb g i k=true):∀ m,om g m i k
 |0=>h| m+1=>.inl (om.bC h m)
def om.trans{g:cg}:∀ {m i j k:Nat},om g m i j->om g m j k->j<m->om g m i k
 |m+1,i,j,k,aa,ab,ak=>by
  by_cases e:j=m;·subst e;have cN:om g j i j:=aa.elim id (·.1);have ej:om g j j k:=ab.elim id (·.2);exact .inr ⟨cN,ej⟩
  ·have ak:j<m:=by omega
   rcases aa with aa | ⟨aa,tK⟩<;>rcases ab with ab | ⟨ab,m4⟩
   ·exact .inl (om.trans aa ab ak)
   ·exact .inr ⟨om.trans aa ab ak,m4⟩
   ·exact .inr ⟨aa,om.trans tK ab ak⟩
   ·exact .inr ⟨aa,m4⟩
def sR(R:List (List Bool))(i k:Nat):Bool:=(R.getD i []).getD k false
structure apR(n:Nat)(R:List (List Bool)):Prop where
 len:R.length=n
 row:∀ i (h:i<R.length),R[i].length=n
structure apS(g:cg)(m:Nat)(A R:List (List Bool))(done:Nat->Nat->Prop):Prop where
 sound:∀ i k,sR R i k=true->om g g.n i k
 grow:∀ i k,sR A i k=true->sR R i k=true
 new:∀ i k,done i k->sR A i m=true->sR A m k=true->sR R i k=true
structure ade(g:cg)(m:Nat)(R:List (List Bool)):Prop where
 axS:apR g.n R
 sound:∀ i k,sR R i k=true->om g g.n i k
 comp:∀ i k,i<g.n->k<g.n->om g m i k->sR R i k=true
def ade.begin{m:Nat}{R:List (List Bool)}(h:ade g m R):apS g m R R λ_ _=>False:=⟨h.sound,λ_ _ h=>h,λ_ _ h=>h.elim⟩
def lI.get(hm:du ay g=0)(h:lI ay g r):r.2=0 ↔ (q6 g.ds (M5 g.ds)).length=0/\(pk g.ds (M5 g.ds)).length=0:=by
 rcases h with⟨a,-⟩ | ⟨-,F,c,rfl⟩
 ·exact absurd hm a
 ·rw[Tn c];by_cases aa:0<(q6 g.ds F).length
  ·rw[bT aa];simp only;omega
  ·rw[bP aa];by_cases ab:0<(pk g.ds F).length
   ·rw[bT ab];simp only;omega
   ·rw[bP ab];exact⟨λ_=>⟨by omega,by omega⟩,λ_=>rfl⟩
def aQ.jq{J:aJ}(bs:uk I M J)(h:os.ok size xs)(bb:∀ x∈os.ar e,x∈M)(ag:os.n*b<=140737488355328):cD J (os.a.map λg=>⟨g,0,none⟩) os.n os.c size b xs:=by
 obtain⟨a,n,c,aU⟩:=os;cases a with
 |none=>obtain⟨aa,ab⟩:=h.nil rfl;exact⟨h.len,⟨by simp only at aa ab |-;omega,ag⟩,.inl aa⟩
 |some g=>obtain⟨aa,ab,ai,aL⟩:=h.cap g rfl;exact⟨h.len,⟨ab,ag⟩,.inr ⟨⟨g,0,none⟩,rfl,rfl,aU.toArray,e,(0,0),bs.az _ _ (.inr ⟨⟨g,.cells aU.toArray e (0,0)⟩,bb _ (.head _),rfl,rfl⟩),by simpa using aL⟩⟩
def cD.y3{c:Nat}(h:cD I a n c size b vs)(M:List aF)(aw:0<n):∃ aP,a=some aP/\cY I M aP (n*size) vs:=by
 rcases h.rd with aa | ⟨aP,aa,ab,cs,T,an,ai,aL⟩
 ·omega
 ·exact⟨aP,aa,ab,cs,T,an,.inl ai,aL,h.len⟩
def FF(l:List Int):fJ (l.map (.int .i64 ·))=true:=fV.2 λv aj=>by obtain⟨k,_,rfl⟩:=c0.1 aj;rfl
def Nf{f:α->List Value}(h:∀ x,fJ (f x)=true)(l:List α):fJ (l.flatMap f)=true:=fV.2 λv aj=>by obtain⟨x,_,ad⟩:=hc.1 aj;exact fV.1 (h x) v ad
def al.one(d:al):fJ d.cells=true:=rfl
def a0.one(d:a0):fJ d.cells=true:=rfl
def apT{c:Nat}(h:cD I a n c 1 8 vs)(aa:fJ vs=true):Spec Tryz.prog 230 [.slice a n c] I M0 λv I' M'=>I'=I/\∃ os:aQ,os.n=n/\os.ok 1 vs/\v=os.val/\M'=os.ar 3++M0:=by
 refine b0 [] a3 Tryz.func230 rfl rfl rfl ?_;intro B aw;have hy:=h.cap;refine fW.Sp a3 rfl rfl ?_;refine a5.mk (λao=>?_) (λao=>?_)
 ·have aD:n=0:=by
   rcases h.rd with ab | ⟨aP,ab,_⟩;·exact ab
   ·rw[ab]at ao;cases ao
  subst aD;have ai:vs=[]:=iD (by rw[h.len,zB]);subst ai;exact⟨_,_,.refl,rfl,h3,rfl,k0 1,rfl,rfl⟩
 refine bZ.mk λb ag wJ=>?_;refine bF.An a3 rfl (by simp) (e:=3) rfl rfl rfl ⟨some b,0,0,[]⟩ (xs:=[]) ⟨rfl,(λh=>by cases h),(λg h=>⟨rfl,b2 _,dj _,rfl⟩)⟩ rfl (sa:=a) (m:=n) (c':=c) (b3:=vs) rfl h.len (h.y3 _) aa [] M0 rfl (by simp only;omega) (by show(0+n)*8<=_;omega) ?_;intro os aD bB bi;rw[hX]at bi;exact⟨_,_,.refl,rfl,os,aD.trans (dp n),bi,rfl,rfl⟩
def apU{c:Nat}(h:cD I a n c 1 8 vs)(aa:fJ vs=true):Spec Tryz.prog 230 [.slice a n c] I M0 λv I' M'=>(∀ b o,I b=some o->I' b=some o)/\M'=M0/\∃ bN c',v=.slice bN n c'/\cD I' bN n c' 1 8 vs:=by refine Spec.mH (Spec.frame (Spec.jq (apT (M0:=[]) h aa))) ?_;rintro v J M⟨M',rfl,-,a8,rfl,-,I',M1,⟨rfl,os,rfl,cc,rfl,rfl⟩,bs⟩;have hy:=h.cap;exact⟨a8,rfl,_,_,rfl,aQ.jq bs cc (λz bd=>im _ bd) hy.2⟩
def apV{c:Nat}(h:cD I a n c 9 96 vs)(aa:fJ vs=true):Spec Tryz.prog 229 [.slice a n c] I M0 λv I' M'=>I'=I/\∃ os:aQ,os.n=n/\os.ok 9 vs/\v=os.val/\M'=os.ar 82++M0:=by
 refine b0 [] a3 Tryz.func229 rfl rfl rfl ?_;intro B aw;have hy:=h.cap;refine fW.Sp a3 rfl rfl ?_;refine a5.mk (λao=>?_) (λao=>?_)
 ·have aD:n=0:=by
   rcases h.rd with ab | ⟨aP,ab,_⟩;·exact ab
   ·rw[ab]at ao;cases ao
  subst aD;have ai:vs=[]:=iD (by rw[h.len,zB]);subst ai;exact⟨_,_,.refl,rfl,h3,rfl,k0 9,rfl,rfl⟩
 refine bZ.mk λb ag wJ=>?_;refine bF.An a3 rfl (by simp) (e:=82) rfl rfl rfl ⟨some b,0,0,[]⟩ (xs:=[]) ⟨rfl,(λh=>by cases h),(λg h=>⟨rfl,b2 _,dj _,rfl⟩)⟩ rfl (sa:=a) (m:=n) (c':=c) (b3:=vs) rfl h.len (h.y3 _) aa [] M0 rfl (by simp only;omega) (by show(0+n)*96<=_;omega) ?_;intro os aD bB bi;rw[hX]at bi;exact⟨_,_,.refl,rfl,os,aD.trans (dp n),bi,rfl,rfl⟩
def apW{c:Nat}(h:cD I a n c 3 48 vs)(aa:fJ vs=true):Spec Tryz.prog 228 [.slice a n c] I M0 λv I' M'=>I'=I/\∃ os:aQ,os.n=n/\os.ok 3 vs/\v=os.val/\M'=os.ar 59++M0:=by
 refine b0 [] a3 Tryz.func228 rfl rfl rfl ?_;intro B aw;have hy:=h.cap;refine fW.Sp a3 rfl rfl ?_;refine a5.mk (λao=>?_) (λao=>?_)
 ·have aD:n=0:=by
   rcases h.rd with ab | ⟨aP,ab,_⟩;·exact ab
   ·rw[ab]at ao;cases ao
  subst aD;have ai:vs=[]:=iD (by rw[h.len,zB]);subst ai;exact⟨_,_,.refl,rfl,h3,rfl,k0 3,rfl,rfl⟩
 refine bZ.mk λb ag wJ=>?_;refine bF.An a3 rfl (by simp) (e:=59) rfl rfl rfl ⟨some b,0,0,[]⟩ (xs:=[]) ⟨rfl,(λh=>by cases h),(λg h=>⟨rfl,b2 _,dj _,rfl⟩)⟩ rfl (sa:=a) (m:=n) (c':=c) (b3:=vs) rfl h.len (h.y3 _) aa [] M0 rfl (by simp only;omega) (by show(0+n)*48<=_;omega) ?_;intro os aD bB bi;rw[hX]at bi;exact⟨_,_,.refl,rfl,os,aD.trans (dp n),bi,rfl,rfl⟩
structure apX(I:aJ)(t:bn)(os0:aQ)(x:Nat×aQ×List al×aJ):Prop where
 i:x.1<=t.n
 ok:x.2.1.ok 9 (x.2.2.1.flatMap al.cells)
 a1:x.2.2.1.map al.a1=t.ns.map al.a1
 ns:∀ d∈x.2.2.1,d.ok x.2.2.2
 le:∀ b o,I b=some o->x.2.2.2 b=some o
 a:x.2.1.a=os0.a
 v:x.2.1.val=os0.val
def apY{i:Nat}(hi:i<L.length){d:al}(h:d.a1=L[i].a1):(L.set i d).map al.a1=L.map al.a1:=by
 rw[qy,h];refine zU λj=>?_;rw[iv];split
 ·rename_i e;subst e;rw[bE,bT hi,ju,dt hi];rfl
 ·rfl
def y4{bu:aQ}(h:os.val=bu.val):os.n=bu.n/\os.c=bu.c:=by
 unfold aQ.val at h;injection h with aa ab ai
 exact⟨ab,ai⟩
def apZ(au:t.ok I):Spec Tryz.prog 179 [t.val] I [] λv I' M'=>(∀ b o,I b=some o->I' b=some o)/\∃ (os:aQ) (L:List al),v=.agg #[os.val,.int .i64 t.br]/\os.n=t.n/\os.ok 9 (L.flatMap al.cells)/\M'=os.ar 82/\L.map al.a1=t.ns.map al.a1/\∀ d∈L,d.ok I':=by
 refine b0 [] a3 Tryz.func179 rfl rfl rfl ?_;intro B aw;have ho:=au.n;have hy:=au.ba.cap;refine bc.whole _ (apV au.ba (Nf al.one _)) ?_;rintro v J N -⟨rfl,os0,ap0,AX,rfl,hC⟩;subst N;refine dx.inv (ι:=Nat×aQ×List al×aJ) (λx=>{ bp:=[(1,.ref 1 0),(2,.ref 2 0),(10,.val os0.val),(11,.val (.int .i64 os0.n)),(12,.val (.int .i64 x.1))],cl:=[(1,[os0.val,.int .i64 t.br]),(2,[.slice none 0 0,.int .i64 0])],cP:=x.2.2.2,da:=x.2.1.ar 82++[] }) (λx=>apX J t os0 x) (λx=>t.n-x.1) ?_ ?_
 ·exact⟨(0,os0,t.ns,J),⟨dj _,AX,rfl,au.ns,λ_ _ h=>h,rfl,rfl⟩,.refl,il,.cons rfl (.cons rfl (.nil))⟩
 rintro⟨i,os,L,K⟩⟨hi,cc,ey,kO,bk,oh,lJ⟩;simp only at hi cc ey kO bk oh lJ;have FG:L.length=t.ns.length:=by simpa using congrArg List.length ey
 obtain⟨ic,adf⟩:=y4 lJ;refine a5.mk (λh=>?_) (λh=>?_)
 rotate_left
 ·exact⟨_,_,.refl,bk,os,L,by rw[lJ];rfl,by omega,cc,by rw[dD],ey,kO⟩
 have a4:i<t.n:=by have:(i:Int)<(os0.n:Int):=c5 h;omega
 have lD:i<L.length:=by omega
 obtain⟨aP,bI,bt⟩:=aQ.ok.row (I:=K) (M:=os.ar 82++[]) (e:=82) al.cH (by decide) cc (λz bd=>im _ bd) lD;have h5:=kO _ (bJ lD);have ta:=bI;rw[oh]at ta;refine bA.mk aP i ta rfl (by omega) ?_;refine aV.mk _ bt ?_;refine c2.draw a3 rfl rfl rfl ?_;refine eH.whole _ (apU h5.ba (FF _)) (λv I' M' h x ad=>by rw[h.2.1];exact ad) ?_;rintro v hg N -⟨sd,hC,bN,c',rfl,dr⟩;subst N;refine bA.mk aP i ta rfl (by omega) ?_;have eV:({ L[i]with cf:=bN,cx:=c' }:al).ok hg:={ h5.mono sd with ba:=dr };have Ty:({ L[i]with cf:=bN,cx:=c' }:al).a1=L[i].a1:=rfl;have g1:=apY lD Ty;refine aQ.E9 (e:=82) al.cells 9 al.cH cc lD 8 (vs:=[.slice bN L[i].az c']) (bK rfl) rfl { L[i]with cf:=bN,cx:=c' } rfl [] [] (by simp) bI ?_;intro iw lR nk lG ji;refine be.mk _ (dc (i:=i) (by omega)) ?_;refine⟨(i+1,iw,L.set i { L[i]with cf:=bN,cx:=c' },hg),⟨⟨a4,ji,g1.trans ey,λd ah=>?_,λb o h=>sd _ _ (bk _ _ h),nk.trans oh,lR.trans lJ⟩,by simp only;omega⟩,.refl,il,.cons rfl (.cons rfl (.nil))⟩;rcases xp ah with ah | rfl
 ·exact(kO _ ah).mono sd
 ·exact eV
def adg(au:t.ok I):Spec Tryz.prog 179 [t.val] I M0 λv I' M'=>(∀ b o,I b=some o->I' b=some o)/\M'=M0/\∃ bf:bn,v=bf.val/\bf.ok I'/\bf.a1=t.a1:=by refine Spec.mH (Spec.frame (Spec.jq (apZ au))) ?_;rintro v J M⟨M',rfl,-,a8,rfl,-,I',M1,⟨aa,os,L,rfl,aD,cc,rfl,ey,kO⟩,bs⟩;have hy:=au.ba.cap;refine⟨a8,rfl,⟨L,os.a.map λg=>⟨g,0,none⟩,os.n,os.c,t.br⟩,rfl,⟨aQ.jq bs cc (λ_ h=>h) (by omega),λd ah=>(kO d ah).mono bs.le,au.br⟩,?_⟩;unfold bn.a1;rw[ey,aD]
structure ap1(I:aJ)(g:cg)(os0:aQ)(x:Nat×aQ×List a0×aJ):Prop where
 i:x.1<=g.n
 ok:x.2.1.ok 3 (x.2.2.1.flatMap a0.cells)
 a1:x.2.2.1.map a0.a1=g.ds.map a0.a1
 ds:∀ d∈x.2.2.1,d.ok x.2.2.2
 le:∀ b o,I b=some o->x.2.2.2 b=some o
 a:x.2.1.a=os0.a
 v:x.2.1.val=os0.val
def ap2{L:List a0}{i:Nat}(hi:i<L.length){d:a0}(h:d.a1=L[i].a1):(L.set i d).map a0.a1=L.map a0.a1:=by
 rw[qy,h];refine zU λj=>?_;rw[iv];split
 ·rename_i e;subst e;rw[bE,bT hi,ju,dt hi];rfl
 ·rfl
def ap3(ax:g.ok I):Spec Tryz.prog 178 [g.val] I [] λv I' M'=>(∀ b o,I b=some o->I' b=some o)/\∃ (os:aQ) (L:List a0),v=.agg #[os.val]/\os.n=g.n/\os.ok 3 (L.flatMap a0.cells)/\M'=os.ar 59/\L.map a0.a1=g.ds.map a0.a1/\∀ d∈L,d.ok I':=by
 refine b0 [] a3 Tryz.func178 rfl rfl rfl ?_;intro B aw;have hL:=ax.n;have hy:=ax.ba.cap;refine bc.whole _ (apW ax.ba (Nf a0.one _)) ?_;rintro v J N -⟨rfl,os0,ap0,AX,rfl,hC⟩;subst N;refine dx.inv (ι:=Nat×aQ×List a0×aJ) (λx=>{ bp:=[(1,.ref 1 0),(2,.ref 2 0),(10,.val os0.val),(11,.val (.int .i64 os0.n)),(12,.val (.int .i64 x.1))],cl:=[(1,[os0.val]),(2,[.slice none 0 0])],cP:=x.2.2.2,da:=x.2.1.ar 59++[] }) (λx=>ap1 J g os0 x) (λx=>g.n-x.1) ?_ ?_
 ·exact⟨(0,os0,g.ds,J),⟨dj _,AX,rfl,ax.ds,λ_ _ h=>h,rfl,rfl⟩,.refl,il,.cons rfl (.cons rfl (.nil))⟩
 rintro⟨i,os,L,K⟩⟨hi,cc,ey,fD,bk,oh,lJ⟩;simp only at hi cc ey fD bk oh lJ;have FG:L.length=g.ds.length:=by simpa using congrArg List.length ey
 obtain⟨ic,adf⟩:=y4 lJ;refine a5.mk (λh=>?_) (λh=>?_)
 rotate_left
 ·exact⟨_,_,.refl,bk,os,L,by rw[lJ];rfl,by omega,cc,by rw[dD],ey,fD⟩
 have a4:i<g.n:=by have:(i:Int)<(os0.n:Int):=c5 h;omega
 have lD:i<L.length:=by omega
 obtain⟨aP,bI,bt⟩:=aQ.ok.row (I:=K) (M:=os.ar 59++[]) (e:=59) a0.cH (by decide) cc (λz bd=>im _ bd) lD;have h5:=fD _ (bJ lD);have ta:=bI;rw[oh]at ta;refine bA.mk aP i ta rfl (by omega) ?_;refine aV.mk _ bt ?_;refine c2.draw a3 rfl rfl rfl ?_;refine eH.whole _ (adg h5.t) (λv I' M' h x ad=>by rw[h.2.1];exact ad) ?_;rintro v hg N -⟨sd,hC,bf,rfl,jI,Tz⟩;subst N;refine bA.mk aP i ta rfl (by omega) ?_;have eV:(⟨L[i].name,bf⟩:a0).ok hg:=⟨h5.name,jI⟩;have Ty:(⟨L[i].name,bf⟩:a0).a1=L[i].a1:=by unfold a0.a1;rw[Tz]
 have g1:=ap2 lD Ty;refine aQ.E9 (e:=59) a0.cells 3 a0.cH cc lD 1 (vs:=[.slice bf.a bf.n bf.c,.int .i64 bf.br]) (bK rfl) rfl ⟨L[i].name,bf⟩ rfl [] [] (by simp) bI ?_;intro iw lR nk lG ji;refine be.mk _ (dc (i:=i) (by omega)) ?_;refine⟨(i+1,iw,L.set i ⟨L[i].name,bf⟩,hg),⟨⟨a4,ji,g1.trans ey,λd ah=>?_,λb o h=>sd _ _ (bk _ _ h),nk.trans oh,lR.trans lJ⟩,by simp only;omega⟩,.refl,il,.cons rfl (.cons rfl (.nil))⟩;rcases xp ah with ah | rfl
 ·exact(fD _ ah).mono sd
 ·exact eV
def ap4(ax:g.ok I):Spec Tryz.prog 178 [g.val] I M0 λv I' M'=>(∀ b o,I b=some o->I' b=some o)/\∃ (os:aQ) (L:List a0),v=.agg #[os.val]/\os.n=g.n/\os.ok 3 (L.flatMap a0.cells)/\M'=os.ar 59++M0/\L.map a0.a1=g.ds.map a0.a1/\∀ d∈L,d.ok I':=by refine Spec.mH (Spec.frame (ap3 ax)) ?_;rintro v J M⟨M',rfl,-,a8,aa,os,L,rfl,aD,cc,rfl,ey,fD⟩;exact⟨a8,os,L,rfl,aD,cc,rfl,ey,fD⟩
def ap5(f:α->List Value)(size:Nat)(aB:∀ x,(f x).length=size)(l:List α)(j:Nat):(l.drop j).flatMap f=(l.flatMap f).drop (j*size):=by
 by_cases h:j<=l.length
 ·have e:l.flatMap f=(l.take j).flatMap f++(l.drop j).flatMap f:=by rw[<-fX,pM]
  have ab:((l.take j).flatMap f).length=j*size:=by rw[gL f size aB,LX h]
  rw[e,<-ab,Ra]
 ·have aa:l.length<=j:=by omega
  rw[s4 aa,s4 (by rw[gL f size aB];exact qn _ aa)];rfl
def ap6(ax:g.ok I){u:Nat}(hu:u<g.ds.length)(aD:g.n<=1000000)(au:t.ok I):Spec Tryz.prog 114 [g.val,.int .i64 u,t.val] I [] λv I' M'=>(∀ b o,I b=some o->I' b=some o)/\∃ (os:aQ) (L:List a0),v=.tuple #[.agg #[os.val],.bool true]/\os.n=g.n/\os.ok 3 (L.flatMap a0.cells)/\M'=os.ar 59/\L.map a0.a1=(g.ds.set u ⟨g.ds[u].name,t⟩).map a0.a1/\∀ d∈L,d.ok I':=by
 refine b0 [] a3 Tryz.func114 rfl rfl rfl ?_;intro B aw;have hL:=ax.n;refine cT.mk (λ_=>?_) (λh=>absurd h (by simp));refine a5.mk (λh=>?_) (λ_=>?_)
 ·have:(g.n:Int)<=(u:Int):=c5 h;omega
 refine bc.whole _ (ap4 ax) ?_;rintro v J N -⟨a8,os,L,rfl,ic,cc,hC,ey,fD⟩;subst N;have FG:L.length=g.ds.length:=by simpa using congrArg List.length ey
 have Ng:u<L.length:=by omega
 refine c2.draw a3 rfl rfl rfl ?_;refine eH.whole _ (adg (au.mono a8)) (λv I' M' h x ad=>by rw[h.2.1];exact ad) ?_;rintro v hg N -⟨sd,hC,bf,rfl,jI,Tz⟩;subst N;obtain⟨aP,bI,bt⟩:=aQ.ok.row (I:=hg) (M:=os.ar 59++[]) (e:=59) a0.cH (by decide) cc (λz bd=>im _ bd) Ng;have n5:L[u].a1=g.ds[u].a1:=by
  have aa:(L.map a0.a1)[u]?=(g.ds.map a0.a1)[u]?:=by rw[ey]
  rw[ju,ju,dt Ng,dt hu]at aa;exact e2 aa
 have mq:L[u].name=g.ds[u].name:=by have aa:L[u].a1.name=g.ds[u].a1.name:=congrArg a0.name n5;exact aa
 have eV:(⟨L[u].name,bf⟩:a0).ok hg:=⟨(fD _ (bJ Ng)).name,jI⟩;refine bA.mk aP u bI rfl (show u<os.n by omega) ?_;refine aQ.E9 (e:=59) a0.cells 3 a0.cH cc Ng 1 (vs:=[.slice bf.a bf.n bf.c,.int .i64 bf.br]) (bK rfl) rfl ⟨L[u].name,bf⟩ rfl [] [] (by simp) bI ?_;intro iw lR nk lG ji;refine⟨_,_,.refl,λb o h=>sd _ _ (a8 _ _ h),iw,L.set u ⟨L[u].name,bf⟩,by rw[lR];rfl,by omega,ji,by simp,?_,λd ah=>?_⟩
 ·rw[qy,qy,ey];congr 1;unfold a0.a1;rw[Tz,mq]
 ·rcases xp ah with ah | rfl
  ·exact(fD _ ah).mono sd
  ·exact eV
def ap7(ax:g.ok I){u:Nat}(hu:u<g.ds.length)(aD:g.n<=1000000)(au:t.ok I):Spec Tryz.prog 114 [g.val,.int .i64 u,t.val] I M0 λv I' M'=>(∀ b o,I b=some o->I' b=some o)/\M'=M0/\∃ h:cg,v=.tuple #[h.val,.bool true]/\h.ok I'/\h.n=g.n/\h.ds.map a0.a1=(g.ds.set u ⟨g.ds[u].name,t⟩).map a0.a1:=by refine Spec.mH (Spec.frame (Spec.jq (ap6 ax hu aD au))) ?_;rintro v J M⟨M',rfl,-,a8,rfl,-,I',M1,⟨aa,os,L,rfl,ic,cc,rfl,ey,fD⟩,bs⟩;exact⟨a8,rfl,⟨L,os.a.map λg=>⟨g,0,none⟩,os.n,os.c⟩,rfl,⟨aQ.jq bs cc (λ_ h=>h) (by omega),λd ah=>(fD d ah).mono bs.le⟩,ic,ey⟩
def iH(z:Int):List Value:=[.int .i64 z]
def oo:∀ l:List Int,l.flatMap iH=l.map (.int .i64 ·)
 |[]=>rfl| z::l=>by rw[jf,oo l];rfl
structure ap8(fG:List Int)(I:aJ)(os0:aQ)(x:Nat×aQ×List Int):Prop where
 i:2*x.1<=fG.length+1
 ok:x.2.1.ok 1 (x.2.2.flatMap iH)
 len:x.2.2.length=fG.length
 aY:∀ k,k<fG.length->x.2.2[k]?=if k<x.1\/fG.length<=k+x.1 then fG[fG.length-1-k]? else fG[k]?
 a:x.2.1.a=os0.a
 v:x.2.1.val=os0.val
def adh{os0:aQ}{fG:List Int}(AX:os0.ok 1 (fG.map (.int .i64 ·)))(ag:os0.n<=1099511627776):Spec Tryz.prog 226 [os0.val] I (os0.ar 3++M0) λv I' M'=>I'=I/\∃ bu:aQ,bu.val=os0.val/\bu.ok 1 (fG.reverse.map (.int .i64 ·))/\M'=bu.ar 3++M0:=by
 refine b0 [] a3 Tryz.func226 rfl rfl rfl ?_;intro B aw;have s0:=AX.pY;refine be.mk ((fG.length:Int)-1) (by show IntKind.i64.wrap ((os0.n:Int)-1)=_;rw[wrap_i64 ⟨by omega,by omega⟩,s0]) ?_;refine dx.inv (ι:=Nat×aQ×List Int) (λx=>{ bp:=[(0,.val os0.val),(2,.val (.int .i64 x.1)),(3,.val (.int .i64 ((fG.length:Int)-1-x.1)))],cl:=[],cP:=I,da:=x.2.1.ar 3++M0 }) (λx=>ap8 fG I os0 x) (λx=>fG.length-x.1) ?_ ?_
 ·refine⟨(0,os0,fG),⟨by simp,by rw[oo];exact AX,rfl,λk ae=>?_,rfl,rfl⟩,.refl,.cons .refl (.cons .refl (.cons ?_ .nil)),.nil⟩
  ·simp only;rw[bP (by omega)]
  ·simp only[Int.ofNat_zero,Int.sub_zero];exact .refl
 rintro⟨i,os,l⟩⟨hi,cc,cQ,eU,oh,lJ⟩;simp only at hi cc cQ eU oh lJ;obtain⟨ic,adf⟩:=y4 lJ;refine a5.mk (λh=>?_) (λh=>?_)
 rotate_left
 ·have c8:¬ (i:Int)<(fG.length:Int)-1-i:=dP h;refine⟨_,_,.refl,rfl,os,lJ,?_,rfl⟩;have e:l=fG.reverse:=by
   refine zU λk=>?_;by_cases ae:k<fG.length
   ·rw[eU k ae,List.getElem?_reverse ae];split
    ·rfl
    ·congr 1;omega
   ·rw[qv (by omega),qv (by rw[C4];omega)]
  rw[<-e,<-oo];exact cc
 have a4:(i:Int)<(fG.length:Int)-1-i:=c5 h;obtain⟨j,ak⟩:∃ j:Nat,(fG.length:Int)-1-i=(j:Int):=⟨fG.length-1-i,by omega⟩;have ed:i<l.length:=by omega
 have gn:j<l.length:=by omega
 obtain⟨aP,bI,ap9⟩:=aQ.ok.row (I:=I) (M:=os.ar 3++M0) (e:=3) (f:=iH) (size:=1) (λ_=>rfl) (by decide) cc (λz bd=>im _ bd) gn;obtain⟨zE,Nh,aqa⟩:=aQ.ok.row (I:=I) (M:=os.ar 3++M0) (e:=3) (f:=iH) (size:=1) (λ_=>rfl) (by decide) cc (λz bd=>im _ bd) ed;obtain rfl:aP=zE:=e2 (bI.symm.trans Nh);have ta:=bI;rw[oh]at ta;have axT:l.length=os0.n:=by omega
 refine c2.draw a3 rfl rfl rfl ?_;refine bA.mk aP j ta ak (by omega) ?_;refine aV.mk _ ap9 ?_;refine bA.mk aP i ta rfl (by omega) ?_;refine aV.mk _ aqa ?_;refine bA.mk aP i ta rfl (by omega) ?_;refine aQ.IF iH 1 (λ_=>rfl) (e:=3) cc ed l[j] rfl [] M0 rfl bI ?_;intro iw lR nk lG ji;refine bA.mk aP j ta ak (by omega) ?_;refine aQ.IF iH 1 (λ_=>rfl) (e:=3) ji (show j<(l.set i l[j]).length by rw[rW];exact gn) l[i] rfl [] M0 rfl (by rw[nk];exact bI) ?_;intro Ni HP vP C6 zJ;refine be.mk _ (dc (i:=i) (by omega)) ?_;refine be.mk ((fG.length:Int)-1-((i+1:Nat):Int)) (by rw[wrap_i64 ⟨by omega,by omega⟩];omega) ?_;refine⟨(i+1,Ni,(l.set i l[j]).set j l[i]),⟨⟨by simp only;omega,zJ,by simp only[rW];exact cQ,λk ae=>?_,(vP.trans nk).trans oh,(HP.trans lR).trans lJ⟩,by simp only;omega⟩,.refl,fw,.nil⟩;have ob:=eU i (by omega);have Jc:=eU j (by omega);rw[bP (by omega),dt ed]at ob;rw[bP (by omega),dt gn]at Jc;simp only;rw[iv,iv,rW];by_cases aK:j=k
 ·subst aK;rw[bT rfl,bT gn,bT (by omega),ob];congr 1;omega
 ·rw[bP aK];by_cases a7:i=k
  ·subst a7;rw[bT rfl,bT ed,bT (by omega),Jc];congr 1;omega
  ·rw[bP a7,eU k ae];by_cases ck:k<i\/fG.length<=k+i
   ·rw[bT ck,bT (by omega)]
   ·rw[bP ck,bP (by omega)]
def aqb(au:t.ok I)(af:right t=true)(aD:t.n<=1099511627776){node:Nat}(FH:node<t.n) :
  Spec Tryz.prog 221 [t.val,.int .i64 node] I M0 λv I' M'=>I'=I/\∃ os:aQ,os.ok 1 ((Cu t.ns node).reverse.map (.int .i64 ·))/\v=os.val/\os.n<=t.n/\valid t.ns.length (Cu t.ns node).reverse/\M'=os.ar 3++M0:=by
 refine b0 [] a3 Tryz.func221 rfl rfl rfl ?_;intro B aw;have ho:=au.n;have axU:l4 t.ns node<=t.ns.length:=HU af t.ns.length node (by omega) (by omega);refine bZ.mk λb1 iN QN=>?_;refine dx.inv (ι:=aQ×List Int×aQ×List Int×Nat) (λx=>{ bp:=[(2,.ref 2 0),(5,.val x.2.2.1.val),(6,.val x.1.val)],cl:=[(2,t.cells)],cP:=I,da:=x.2.2.1.ar 3++(x.1.ar 3++M0) }) (akJ t node) (λx=>gS (l4 t.ns) x.2.1) ?_ ?_
 ·refine⟨(⟨some b1,1,1,[.int .i64 node]⟩,[(node:Int)],h3,[],t.ns.length+1),⟨⟨rfl,(λh=>by cases h),λeu jO=>⟨rfl,b2 _,by simp[maxLen],rfl⟩⟩,k0 1,λk ae=>?_,(λk ae=>by cases ae),?_,?_,rfl⟩,.refl,fw,.cons rfl (.nil)⟩
  ·simp only[eC]at ae;omega
  ·simp[gS]
  ·simp only[gS,ca,hH,hz,B0];omega
 rintro⟨todo,TA,back,gE,f⟩⟨FI,uo,Nj,FJ,FK,TB,B3⟩;simp only at FI uo Nj FJ FK TB B3;have kR:=uo.pY;have z5:=FI.pY;refine a5.mk (λh=>?_) (λh=>?_)
 ·have adi:0<todo.n:=by have:(0:Int)<(todo.n:Int):=c5 h;omega
  obtain⟨po,m,rfl⟩:∃ po m,TA=po++[m]:=by
   rcases zR TA with aa | ⟨r,p,aa⟩;·subst aa;simp at z5;omega
   ·exact⟨r,p,by simpa using aa⟩
  have hm:=Nj m (by simp);obtain⟨m,rfl⟩:=eF hm.1;have hn:m<t.n:=by omega
  have rK:m<t.ns.length:=by omega
  have axV:todo.n=po.length+1:=by simpa using z5
  have adj:=Ev af rK;rw[HV]at FK TB;have gj:gS (l4 t.ns) [(m:Int)]=l4 t.ns m:=by simp[gS]
  rw[gj,adj]at FK TB;have axW:po.length<=gS (l4 t.ns) po:=LK af λk ae=>Nj k (by simp[ae]);have axX:t.ns[m].aq.length<=gS (l4 t.ns) t.ns[m].aq:=LK af λk ae=>by have:=ly af m rK k ae;omega
  have xv:po.length+t.ns[m].aq.length<=t.ns.length:=by omega
  obtain⟨aP,bI,bt⟩:=aQ.Cr (I:=I) (e:=3) (M:=back.ar 3++(todo.ar 3++M0)) FI (λx ad=>by simp[ad]) (j:=po.length) (by simp);rw[acp rfl]at bt;have oq:=FI;rw[cS]at oq;have oq:=aQ.pop oq;have he:todo.n-1=po.length:=by omega
  rw[he]at oq;have Jp:po.length<=todo.c:=by
   cases AY:todo.a with
   |none=>have:=(FI.nil AY).1;omega| some Jq=>have:=(FI.cap Jq AY).2.1;omega
  obtain⟨lz,nN,jw⟩:=au.ba.row al.cH hn rK;have ah:=au.ns _ (bJ rK);have fh:=ah.az;have p0:=ah.ba.cap;have hZ:=ly af m rK;refine be.mk ((po.length:Nat):Int) (by show IntKind.i64.wrap ((todo.n:Int)-1)=_;rw[wrap_i64 ⟨by omega,by omega⟩];omega) ?_;refine bA.mk aP po.length bI rfl (show po.length<todo.n by omega) ?_;refine aV.mk _ bt ?_;refine c2.draw a3 rfl rfl rfl ?_;refine be.mk ((po.length:Nat):Int) (by show IntKind.i64.wrap ((todo.n:Int)-1)=_;rw[wrap_i64 ⟨by omega,by omega⟩];omega) ?_;refine lf.mk 0 po.length rfl rfl (dj _) Jp ?_;refine bA.mk lz m nN rfl hn ?_;refine aV.mk _ ((jw _).part (k:=8) (m:=1) (by decide)) ?_;have aqc:∀ M,0<t.ns[m].az->∃ aP,t.ns[m].cf=some aP/\cY I M aP (t.ns[m].az*1) (t.ns[m].aq.map (.int .i64 ·)):=λM aw=>ah.ba.y3 M aw;refine bF.An a3 rfl (by simp) (e:=3) rfl rfl rfl ⟨todo.a,po.length,todo.c,todo.aU⟩ oq rfl (sa:=t.ns[m].cf) (m:=t.ns[m].az) (c':=t.ns[m].cx) (b3:=t.ns[m].aq.map (.int .i64 ·)) rfl (by rw[bE,fh];show _=t.ns[m].az*1;omega) (aqc _) (FF _) (back.ar 3) M0 rfl (by simp only;omega) (by show(po.length+t.ns[m].az)*8<=_;omega) ?_;intro tb adk adl iO;rw[<-cS]at iO;refine bZ.mk λbW iC Qj=>?_;refine bF.l7 a3 rfl (by simp) (e:=3) rfl rfl rfl back uo rfl (cs:=[.int .i64 m]) rfl rfl rfl [] (tb.ar 3++M0) rfl (by omega) (by show(back.n+1)*8<=_;omega) ?_;intro TC axY axZ Jr;have Jr:TC.ok 1 ((gE++[(m:Int)]).map (.int .i64 ·)):=by rw[cS];exact Jr
  refine⟨(tb,po++t.ns[m].aq,TC,gE++[(m:Int)],f-1),⟨⟨iO,Jr,λk ae=>?_,λk ae=>?_,?_,?_,?_⟩,?_⟩,.refl,fw,.cons rfl (.nil)⟩
  ·rcases cC.1 ae with ae | ae
   ·exact Nj k (by simp[ae])
   ·have:=hZ k ae;omega
  ·rcases cC.1 ae with ae | ae
   ·exact FJ k ae
   ·simp only[eC]at ae;omega
  ·simp only[HV,cm,eo,g3];omega
  ·simp only[HV];omega
  ·obtain⟨tO,rfl⟩:∃ tO,f=tO+1:=⟨f-1,by omega⟩;rw[B3,YD,gN,gy rK];rfl
  ·simp only;rw[HV,HV,gj,adj];omega
 have aqd:TA=[]:=by have:¬ (0:Int)<(todo.n:Int):=dP h;exact iD (by omega)
 subst aqd;rw[YC]at B3;simp only[gS,hH,B0,dp]at FK;refine bc.whole _ (adh (os0:=back) uo (by omega)) ?_;rintro v J N -⟨rfl,os,lJ,cc,hC⟩;subst N;refine⟨_,os.ar 3++M0,.sub (.append (.refl _) (mT _ _)) .refl,rfl,os,by rw[B3];exact cc,lJ.symm,?_,λk ae=>FJ k (by rw[B3]at ae;exact Td.1 ae),rfl⟩;have:=(y4 lJ).1;omega
section
variable{X:c1}{β:Nat->Nat}{F:Fr}{C:dO}{I:aJ}{M:List aF}{o:Oper}{K:gr}
def bF.TD(aO:cX X.P X.E){x y:Operand}{t:Nat}(aC:o.op=.call { callee:=.builtin .copy,args:=#[x,y],argTypes:=#[t,t] })(ah:∀ d,o.dst=some d->d<X.n)
 {c6 aG:dR} (au:X.E t=some c6) (dz:c6.bQ=.slice e) (he:X.E e=some aG)
 {g c:Nat} {aU:List Value} (ad:bH F x=.val (.slice (some ⟨g,0,none⟩) n c)) (ao:n*aG.size<=aU.length)
  {sa:Option Addr} {c':Nat} (aE:bH F y=.val (.slice sa n c')) {b3:List Value} (aA:b3.length=n*aG.size) (aD:0<n->∃ aP,sa=some aP/\cY I M aP (n*aG.size) b3) (aa:fJ b3=true)
  (a9 post:List aF) (bb:M=a9++⟨g,.cells aU.toArray e (0,0)⟩::post)
  (k:K (put o.dst (.val (.int .i64 n)) F) C I (a9++⟨g,.cells (cq aU 0 b3).toArray e (0,0)⟩::post)):bF X o F C I M K:=by
 refine⟨λa w Q ⟨β,aX⟩=>?_⟩;have hu:=So aO au dz;obtain⟨inf,z,hi,fv,hW,ik,j4⟩:=(aO _ _ he).inf;have ax:w.heap[g]?=some (.cells aU.toArray e (0,0)):=aX.holds.m ⟨g,.cells aU.toArray e (0,0)⟩ (by rw[bb];simp);have fa:=run_storeCells_at X.P g 0 e b3 0 aU.toArray w ax (by rw[aA];simpa using ao) (zp aa);simp only[pD]at fa;have aB:(Builtin.firstCells aG.size n (.slice sa n c')).run X.P w=.ok b3.toArray w:=by
  by_cases aw:0<n
  ·obtain⟨aP,rfl,de,cs,T,an,fh,aj,aA⟩:=aD aw;refine run_firstCells_some (P:=X.P) w aG.size n aP n c' b3 aA λj v ak=>?_;rw[eO _ de,ts (fh.heap aX.holds)];rw[<-aj,k9]at ak;split at ak
   ·rw[nw]at ak;simpa using ak
   ·cases ak
  ·have ab:n=0:=by omega
   subst ab;have ai:b3=[]:=iD (by rw[aA,zB]);subst ai;cases sa with
   |none=>simp[Builtin.firstCells]| some aP=>exact run_firstCells_some (P:=X.P) w aG.size 0 aP 0 c' [] (by simp) λj v ak=>by simp at ak
 have ex:=dh aX.an ad;have oP:=dh aX.an aE;refine iJ (by rw[aC];simp) (v:=.int .i64 n) (w':=w.setRow g (cq aU 0 b3).toArray) ?_ ⟨_,_,_,_,⟨β,cL.put (x:=.val (.int .i64 n)) ?_ ah rfl⟩,k⟩
 ·have e':(Builtin.copy_ #[t,t] o.type #[.slice (some ⟨g,0,none⟩) n c,.slice sa n c']).run X.P w=.ok (.int .i64 n) (w.setRow g (cq aU 0 b3).toArray):=by rw[<-fv]at aB;simp[Builtin.copy_,run_underlying hu,Builtin.lenOf,sizeOf,typeInfo,hi,aB,fa,cq,goInt]
  unfold execOp;simp only[aC,resolve,invoke,builtin,cu,c7,bY,rz,ca,hH,ex,oP,e']
 ·exact aX.xU bb
end
structure adm(d:al)(dU:List Int)(y:Nat×aQ×List Int):Prop where
 k:y.1<=d.az
 ok:y.2.1.ok 1 (y.2.2.flatMap iH)
 n:y.2.1.n=d.az
 eq:y.2.2=(d.aq.take y.1).map (λk=>dU.getD k.toNat 0)++d.aq.drop y.1
def aqe(au:t.ok I)(af:right t=true)(aD:t.n<=1099511627776){node:Nat}(FH:node<t.n) :
  Spec Tryz.prog 172 [t.val,.int .i64 node] I [] λv I' M'=>(∀ b o,I b=some o->I' b=some o)/\M'=[]/\∃ bf:bn,v=bf.val/\bf.ok I'/\p2 t node bf:=by
 refine x2 [] a3 Tryz.func172 rfl rfl rfl ?_;intro B aw;have ho:=au.n;have hy:=au.ba.cap;refine bc.mk [] [] _ (.refl _) (aqb (M0:=[]) au af aD FH) ?_;rintro v Js N -⟨x0,back,uo,rfl,GM,FJ,rfl⟩;subst Js;obtain⟨rb,ot⟩:∃ rb,(Cu t.ns node).reverse=rb:=⟨_,rfl⟩;rw[ot]at uo FJ;have kR:=uo.pY;refine pE.mk t.n t.n rfl rfl (b2 _) (by show 8*t.n<=_;omega) (by omega) ?_;refine bZ.mk λb9 m8 Ce=>?_;refine pE.mk 0 back.n rfl rfl (dj _) (by show 96*back.n<=_;omega) (by omega) ?_;refine bZ.mk λb7 H8 LR=>?_;have xk:(rowOf [Value.int .i64 0] (t.n*1))=(List.replicate t.n (0:Int)).map (Value.int .i64):=by rw[BX,BI,gP]
 refine dx.uR (ι:=Nat×List Int×aQ×List al×aJ) (λx=>{ bp:=[(2,.ref 2 0),(4,.ref 4 0),(5,.val back.val),(6,.val (.slice (some ⟨b9,0,none⟩) t.n t.n)),(7,.val x.2.2.1.val),(24,.val back.val),(25,.val (.int .i64 back.n)),(26,.val (.int .i64 x.1))],cl:=[(2,t.cells),(4,[.slice none 0 0,.int .i64 0])],cP:=x.2.2.2.2,da:=dL b9 x.2.1::(x.2.2.1.ar 82++(back.ar 3++[])) }) (YE I t rb) (λx=>rb.length-x.1) ?_ ?_
 ·intro _;refine⟨(0,List.replicate t.n 0,⟨some b7,0,back.n,rowOf [.int .u8 0,.int .u64 0,.int .u64 0,.int .u64 0,.int .u64 0,.string ⟨#[]⟩,.int .i64 0,.int .i64 0,.slice none 0 0] (back.n*9)⟩,[],I),⟨dj _,by simp[ho],⟨rfl,(λh=>by cases h),λeu jO=>⟨by simp[tp,madeCells],dj _,by unfold maxLen;simp only;omega,by simp⟩⟩,rfl,(by rw[ho];rfl),(λd ah=>by cases ah),λ_ _ h=>h,(λc ao=>by have:=Qb ao;omega),(λd ah=>by cases ah)⟩,.perm (List.Perm.swap _ _ _) (.l6 (by rw[xk];simp only[dD];rfl)),kL,.cons rfl (.cons rfl (.nil))⟩
 rintro⟨j,P,out,hq,J⟩⟨ak,AZ,se,ic,uq,A0,a8,Jt,jF⟩;simp only at ak AZ se ic uq A0 a8 Jt jF;have vQ:out.n=j:=by have:=se.len;rw[gL _ 9 al.cH,ic]at this;omega
 subst vQ;refine a5.mk (λh=>?_) (λh=>?_)
 ·have y5:out.n<rb.length:=by have:(out.n:Int)<(back.n:Int):=c5 h;omega
  have hm:=FJ _ (bJ y5);obtain⟨m,y6⟩:=eF hm.1;rw[y6]at hm;have hn:m<t.n:=by omega
  have rK:m<t.ns.length:=by omega
  obtain⟨aP,bI,Ju⟩:=aQ.Cr (I:=J) (e:=3) (M:=dL b9 P::(out.ar 82++(back.ar 3++[]))) uo (λx ad=>by simp[ad]) y5;rw[y6]at Ju;obtain⟨lz,nN,jw⟩:=(au.ba.mono a8).row al.cH hn rK;have ah:=(au.ns _ (bJ rK)).mono a8;have fh:=ah.az;have p0:=ah.ba.cap;have hZ:=ly af m rK;have mI:nodeAt t.ns m=t.ns[m]:=gy rK;generalize fk:t.ns[m]=d at ah fh p0 hZ jw mI;have g1:=oT P m (by omega) (out.n:Int);generalize uc:P.set m (out.n:Int)=dU at g1;have Nk:dU.length=t.ns.length:=by rw[<-uc];simpa using AZ
  have C7:∀ c∈dU,0<=c/\c<=rb.length:=λc ao=>by
   rw[<-uc]at ao;rcases xp ao with ao | rfl;·exact Jt c ao
   ·omega
  refine bA.mk aP out.n bI rfl (show _<back.n by omega) ?_;refine aV.mk _ Ju ?_;refine bA.mk ⟨b9,0,none⟩ m rfl rfl hn ?_;refine cd.iP [] (out.ar 82++(back.ar 3++[])) (P.map (Value.int .i64)) 3 rfl (by rw[nO,bE];show 0+m*1+1<=_;omega) rfl (dU.map (Value.int .i64)) (by rw[dp,gP];exact g1) ?_;refine bA.mk lz m nN rfl hn ?_;refine aV.mk _ (jw _) ?_;have wJ:(out.n+1)*96<=140737488355328:=by omega
  refine a5.mk (λaa=>?_) (λaa=>?_)
  ·have lv:0<d.az:=by have:(0:Int)<(d.az:Int):=c5 aa;omega
   refine pE.mk d.az d.az rfl rfl (b2 _) (by show 8*d.az<=_;omega) (by omega) ?_;refine bZ.mk λadn ax0 ax1=>?_;have bd:(rowOf [Value.int .i64 0] (d.az*1)).length=d.az:=by simp[tp,madeCells]
   have de:cq (rowOf [Value.int .i64 0] (d.az*1)) 0 (d.aq.map (.int .i64 ·))=d.aq.map (.int .i64 ·):=by unfold cq;rw[qx,hX,dp,s4 (by rw[bd,bE];omega),dD]
   refine bF.TD a3 rfl (by simp) (e:=3) rfl rfl rfl (g:=adn) (n:=d.az) (c:=d.az) (aU:=rowOf [Value.int .i64 0] (d.az*1)) rfl (by rw[bd];show d.az*1<=_;omega) (sa:=d.cf) (c':=d.cx) rfl (b3:=d.aq.map (.int .i64 ·)) (by rw[bE];show _=d.az*1;omega) (λaw=>ah.ba.y3 _ aw) (FF _) [] (dL b9 dU::(out.ar 82++(back.ar 3++[]))) rfl ?_;rw[de];refine dx.inv (ι:=Nat×aQ×List Int) (λy=>{ bp:=[(2,.ref 2 0),(4,.ref 4 0),(5,.val back.val),(6,.val (.slice (some ⟨b9,0,none⟩) t.n t.n)),(7,.val out.val),(8,.val (.int .i64 out.n)),(9,.val (.int .i64 m)),(10,.ref 10 0),(11,.val y.2.1.val),(24,.val back.val),(25,.val (.int .i64 back.n)),(26,.val (.int .i64 out.n)),(52,.val y.2.1.val),(53,.val (.int .i64 d.az)),(54,.val (.int .i64 y.1))],cl:=[(2,t.cells),(4,[.slice none 0 0,.int .i64 0]),(10,d.cells)],cP:=J,da:=y.2.1.ar 3++(dL b9 dU::(out.ar 82++(back.ar 3++[]))) }) (λy=>adm d dU y) (λy=>d.az-y.1) ?_ ?_;·exact⟨(0,⟨some adn,d.az,d.az,d.aq.map (.int .i64 ·)⟩,d.aq),⟨dj _,⟨by rw[oo,bE];simp only;omega,(λh=>by cases h),λeu jO=>⟨by simp only[bE];omega,b2 _,by unfold maxLen;simp only;omega,by rw[oo];exact fS (by rw[bE];simp only;omega)⟩⟩,rfl,by simp⟩,.refl,ahW,.cons rfl (.cons rfl (.cons rfl (.nil)))⟩
   rintro⟨k,eh,fz⟩⟨ae,iF,FL,cW⟩;simp only at ae iF FL cW;have TE:∀ x∈eh.ar 3,x∈eh.ar 3++(dL b9 dU::(out.ar 82++(back.ar 3++[]))):=λx ad=>im _ ad;have TF:dL b9 dU∈eh.ar 3++(dL b9 dU::(out.ar 82++(back.ar 3++[]))):=by simp
   have Ez:fz.length=d.aq.length:=by rw[cW,cm,bE,fR,qw];omega
   refine a5.mk (λab=>?_) (λab=>?_)
   ·have e0:k<d.az:=by have:(k:Int)<(d.az:Int):=c5 ab;omega
    have jc:k<d.aq.length:=by omega
    have vR:k<fz.length:=by omega
    have aj:=hZ _ (bJ jc);have vS:d.aq[k].toNat<dU.length:=by omega
    have C8:dU.getD d.aq[k].toNat 0=dU[d.aq[k].toNat]:=by simp[bM,vS]
    have Jv:fz[k]=d.aq[k]:=by
     have ai:fz[k]?=d.aq[k]?:=by rw[cW,lx (by rw[bE,fR];omega),bE,fR,pC (by omega),mD,nw,pD]
     rw[dt vR,dt jc]at ai;exact e2 ai
    obtain⟨gv,fm,fe⟩:=aQ.ok.row (I:=J) (M:=eh.ar 3++(dL b9 dU::(out.ar 82++(back.ar 3++[])))) (e:=3) (f:=iH) (size:=1) (λ_=>rfl) (by decide) iF TE vR;rw[Jv]at fe;refine bA.mk gv k fm rfl (show k<eh.n by omega) ?_;refine aV.mk _ fe ?_;refine bA.mk ⟨b9,0,none⟩ d.aq[k].toNat rfl (by omega) (by omega) ?_;refine aV.mk _ (Hk TF vS) ?_;refine bA.mk gv k fm rfl (show k<eh.n by omega) ?_;refine aQ.IF iH 1 (λ_=>rfl) (e:=3) iF vR dU[d.aq[k].toNat] rfl [] (dL b9 dU::(out.ar 82++(back.ar 3++[]))) rfl fm ?_;intro o3 lR nk lG ji;refine be.mk _ (dc (i:=k) (by omega)) ?_;refine⟨(k+1,o3,fz.set k dU[d.aq[k].toNat]),⟨⟨e0,ji,lG.trans FL,?_⟩,by simp only;omega⟩,.refl,.cons .refl (.cons .refl (.cons .refl (.cons .refl (.cons .refl (.cons .refl (.cons .refl (.cons .refl (.cons ?_ (.cons .refl (.cons .refl (.cons .refl (.cons ?_ (x3))))))))))))),.cons rfl (.cons rfl (.cons rfl (.nil)))⟩;·simp only;rw[cW,gH jc,cS,ca,hH,C8,Ch _ _ (by rw[bE,fR];omega),bE,fR,pC (by omega),mD,fi jc,Ci,ec];rfl
    ·simp only;rw[lR];exact .refl
    ·simp only;rw[lR];exact .refl
   have c8:k=d.az:=by have:¬ (k:Int)<(d.az:Int):=dP ab;omega
   subst c8;rw[fS (by omega),s4 (by omega),dD]at cW;rw[oo]at iF;refine bZ.mk λado adp adq=>?_;have bV:∃ bX:al,bX=⟨d.k,d.cz,d.s1,d.s2,d.cV,d.t,d.lo,d.hi,eh.a.map λg=>⟨g,0,none⟩,eh.n,eh.c,fz⟩:=⟨_,rfl⟩;obtain⟨bX,bV⟩:=bV;have Jw:bX.cells=[.int .u8 d.k,.int .u64 d.cz,.int .u64 d.s1,.int .u64 d.s2,.int .u64 d.cV,.string d.t,.int .i64 d.lo,.int .i64 d.hi,.slice (eh.a.map λg=>⟨g,0,none⟩) eh.n eh.c]:=by rw[bV];rfl
   refine bF.l7 a3 rfl (by simp) (e:=82) rfl rfl rfl out se rfl (cs:=[.int .u8 d.k,.int .u64 d.cz,.int .u64 d.s1,.int .u64 d.s2,.int .u64 d.cV,.string d.t,.int .i64 d.lo,.int .i64 d.hi,.slice (eh.a.map λg=>⟨g,0,none⟩) eh.n eh.c]) rfl rfl rfl (eh.ar 3++[dL b9 dU]) (back.ar 3++[]) (by simp;rfl) (by omega) (by show(out.n+1)*96<=_;omega) ?_;intro nl TG adr A1;refine be.mk _ (dc (i:=out.n) (by omega)) ?_;have A2:∀ c∈fz,0<=c/\c<=rb.length:=λc ao=>by
    rw[cW]at ao;obtain⟨q,aM,rfl⟩:=c0.1 ao;have wY:=hZ q aM;have Jx:q.toNat<dU.length:=by omega
    exact C7 (dU.getD q.toNat 0) (by simp only[bM,dt Jx,kK];exact bJ _)
   intro eS;obtain⟨mJ,hw,bk,dr⟩:=aQ.Lw (I:=J) (b:=8) (e:=3) iF (by omega) (λg ax=>eS.d ⟨g,.cells eh.aU.toArray 3 (0,0)⟩ (by simp[aQ.ar,ax])) (dL b9 dU::(nl.ar 82++(back.ar 3++[])));refine⟨(out.n+1,dU,nl,hq++[bX],mJ),⟨⟨by simp only;omega,Nk,?_,by simp[ic],?_,?_,λb o h=>bk _ _ (a8 _ _ h),C7,?_⟩,by simp only;omega⟩,?_,kL,.cons rfl (.cons rfl (.nil))⟩
   ·simp only;rw[fX];have:([bX].flatMap al.cells)=bX.cells:=by simp
    rw[this,Jw];exact A1
   ·simp only;rw[gH y5,tT,uq,kl,HI,y6];show(P.set m ((hq.map al.a1).length:Int),hq.map al.a1++[(nodeAt t.ns m).ep ((nodeAt t.ns m).aq.map λk=>(P.set m ((hq.map al.a1).length:Int)).getD k.toNat 0)])=_;rw[bE,ic,uc,mI,<-cW,cS,bV];rfl
   ·simp only;intro x ad;rcases cC.1 ad with ad | ad
    ·exact(A0 x ad).mono bk
    ·simp only[eC]at ad;rw[ad,bV];refine⟨ah.k,ah.cz,ah.s1,ah.s2,ah.cV,ah.t,ah.lo,ah.hi,dr,λc ao=>?_⟩;have:=A2 c ao;exact⟨by omega,by omega⟩
   ·simp only;intro x ad;rcases cC.1 ad with ad | ad
    ·exact jF x ad
    ·simp only[eC]at ad;rw[ad,bV];exact A2
   ·simp only;refine .perm (M1:=eh.ar 3++(dL b9 dU::(nl.ar 82++(back.ar 3++[])))) ?_ hw;simp
  ·have lv:d.az=0:=by have:¬ (0:Int)<(d.az:Int):=dP aa;omega
   have aqf:d.aq=[]:=iD (by omega);refine dx.inv (ι:=Nat×aQ×List Int) (λy=>{ bp:=[(2,.ref 2 0),(4,.ref 4 0),(5,.val back.val),(6,.val (.slice (some ⟨b9,0,none⟩) t.n t.n)),(7,.val out.val),(8,.val (.int .i64 out.n)),(9,.val (.int .i64 m)),(10,.ref 10 0),(11,.val y.2.1.val),(24,.val back.val),(25,.val (.int .i64 back.n)),(26,.val (.int .i64 out.n)),(52,.val y.2.1.val),(53,.val (.int .i64 d.az)),(54,.val (.int .i64 y.1))],cl:=[(2,t.cells),(4,[.slice none 0 0,.int .i64 0]),(10,d.cells)],cP:=J,da:=y.2.1.ar 3++(dL b9 dU::(out.ar 82++(back.ar 3++[]))) }) (λy=>adm d dU y) (λy=>d.az-y.1) ?_ ?_;·refine⟨(0,h3,d.aq),⟨dj _,by rw[aqf];exact k0 1,lv.symm,by simp⟩,.refl,.cons .refl (.cons .refl (.cons .refl (.cons .refl (.cons .refl (.cons .refl (.cons .refl (.cons .refl (.cons .refl (.cons .refl (.cons .refl (.cons .refl (.cons .refl (.cons ?_ (.cons .refl .nil)))))))))))))),.cons rfl (.cons rfl (.cons rfl (.nil)))⟩;simp only;rw[lv];exact .refl
   rintro⟨k,eh,fz⟩⟨ae,iF,FL,cW⟩;simp only at ae iF FL cW;have TE:∀ x∈eh.ar 3,x∈eh.ar 3++(dL b9 dU::(out.ar 82++(back.ar 3++[]))):=λx ad=>im _ ad;have TF:dL b9 dU∈eh.ar 3++(dL b9 dU::(out.ar 82++(back.ar 3++[]))):=by simp
   have Ez:fz.length=d.aq.length:=by rw[cW,cm,bE,fR,qw];omega
   refine a5.mk (λab=>?_) (λab=>?_)
   ·have e0:k<d.az:=by have:(k:Int)<(d.az:Int):=c5 ab;omega
    have jc:k<d.aq.length:=by omega
    have vR:k<fz.length:=by omega
    have aj:=hZ _ (bJ jc);have vS:d.aq[k].toNat<dU.length:=by omega
    have C8:dU.getD d.aq[k].toNat 0=dU[d.aq[k].toNat]:=by simp[bM,vS]
    have Jv:fz[k]=d.aq[k]:=by
     have ai:fz[k]?=d.aq[k]?:=by rw[cW,lx (by rw[bE,fR];omega),bE,fR,pC (by omega),mD,nw,pD]
     rw[dt vR,dt jc]at ai;exact e2 ai
    obtain⟨gv,fm,fe⟩:=aQ.ok.row (I:=J) (M:=eh.ar 3++(dL b9 dU::(out.ar 82++(back.ar 3++[])))) (e:=3) (f:=iH) (size:=1) (λ_=>rfl) (by decide) iF TE vR;rw[Jv]at fe;refine bA.mk gv k fm rfl (show k<eh.n by omega) ?_;refine aV.mk _ fe ?_;refine bA.mk ⟨b9,0,none⟩ d.aq[k].toNat rfl (by omega) (by omega) ?_;refine aV.mk _ (Hk TF vS) ?_;refine bA.mk gv k fm rfl (show k<eh.n by omega) ?_;refine aQ.IF iH 1 (λ_=>rfl) (e:=3) iF vR dU[d.aq[k].toNat] rfl [] (dL b9 dU::(out.ar 82++(back.ar 3++[]))) rfl fm ?_;intro o3 lR nk lG ji;refine be.mk _ (dc (i:=k) (by omega)) ?_;refine⟨(k+1,o3,fz.set k dU[d.aq[k].toNat]),⟨⟨e0,ji,lG.trans FL,?_⟩,by simp only;omega⟩,.refl,.cons .refl (.cons .refl (.cons .refl (.cons .refl (.cons .refl (.cons .refl (.cons .refl (.cons .refl (.cons ?_ (.cons .refl (.cons .refl (.cons .refl (.cons ?_ (x3))))))))))))),.cons rfl (.cons rfl (.cons rfl (.nil)))⟩;·simp only;rw[cW,gH jc,cS,ca,hH,C8,Ch _ _ (by rw[bE,fR];omega),bE,fR,pC (by omega),mD,fi jc,Ci,ec];rfl
    ·simp only;rw[lR];exact .refl
    ·simp only;rw[lR];exact .refl
   have c8:k=d.az:=by have:¬ (k:Int)<(d.az:Int):=dP ab;omega
   subst c8;rw[fS (by omega),s4 (by omega),dD]at cW;rw[oo]at iF;refine bZ.mk λado adp adq=>?_;have bV:∃ bX:al,bX=⟨d.k,d.cz,d.s1,d.s2,d.cV,d.t,d.lo,d.hi,eh.a.map λg=>⟨g,0,none⟩,eh.n,eh.c,fz⟩:=⟨_,rfl⟩;obtain⟨bX,bV⟩:=bV;have Jw:bX.cells=[.int .u8 d.k,.int .u64 d.cz,.int .u64 d.s1,.int .u64 d.s2,.int .u64 d.cV,.string d.t,.int .i64 d.lo,.int .i64 d.hi,.slice (eh.a.map λg=>⟨g,0,none⟩) eh.n eh.c]:=by rw[bV];rfl
   refine bF.l7 a3 rfl (by simp) (e:=82) rfl rfl rfl out se rfl (cs:=[.int .u8 d.k,.int .u64 d.cz,.int .u64 d.s1,.int .u64 d.s2,.int .u64 d.cV,.string d.t,.int .i64 d.lo,.int .i64 d.hi,.slice (eh.a.map λg=>⟨g,0,none⟩) eh.n eh.c]) rfl rfl rfl (eh.ar 3++[dL b9 dU]) (back.ar 3++[]) (by simp;rfl) (by omega) (by show(out.n+1)*96<=_;omega) ?_;intro nl TG adr A1;refine be.mk _ (dc (i:=out.n) (by omega)) ?_;have A2:∀ c∈fz,0<=c/\c<=rb.length:=λc ao=>by
    rw[cW]at ao;obtain⟨q,aM,rfl⟩:=c0.1 ao;have wY:=hZ q aM;have Jx:q.toNat<dU.length:=by omega
    exact C7 (dU.getD q.toNat 0) (by simp only[bM,dt Jx,kK];exact bJ _)
   intro eS;obtain⟨mJ,hw,bk,dr⟩:=aQ.Lw (I:=J) (b:=8) (e:=3) iF (by omega) (λg ax=>eS.d ⟨g,.cells eh.aU.toArray 3 (0,0)⟩ (by simp[aQ.ar,ax])) (dL b9 dU::(nl.ar 82++(back.ar 3++[])));refine⟨(out.n+1,dU,nl,hq++[bX],mJ),⟨⟨by simp only;omega,Nk,?_,by simp[ic],?_,?_,λb o h=>bk _ _ (a8 _ _ h),C7,?_⟩,by simp only;omega⟩,?_,kL,.cons rfl (.cons rfl (.nil))⟩
   ·simp only;rw[fX];have:([bX].flatMap al.cells)=bX.cells:=by simp
    rw[this,Jw];exact A1
   ·simp only;rw[gH y5,tT,uq,kl,HI,y6];show(P.set m ((hq.map al.a1).length:Int),hq.map al.a1++[(nodeAt t.ns m).ep ((nodeAt t.ns m).aq.map λk=>(P.set m ((hq.map al.a1).length:Int)).getD k.toNat 0)])=_;rw[bE,ic,uc,mI,<-cW,cS,bV];rfl
   ·simp only;intro x ad;rcases cC.1 ad with ad | ad
    ·exact(A0 x ad).mono bk
    ·simp only[eC]at ad;rw[ad,bV];refine⟨ah.k,ah.cz,ah.s1,ah.s2,ah.cV,ah.t,ah.lo,ah.hi,dr,λc ao=>?_⟩;have:=A2 c ao;exact⟨by omega,by omega⟩
   ·simp only;intro x ad;rcases cC.1 ad with ad | ad
    ·exact jF x ad
    ·simp only[eC]at ad;rw[ad,bV];exact A2
   ·simp only;refine .perm (M1:=eh.ar 3++(dL b9 dU::(nl.ar 82++(back.ar 3++[])))) ?_ hw;simp
 have c8:out.n=rb.length:=by have:¬ (out.n:Int)<(back.n:Int):=dP h;omega
 refine be.mk ((hq.length:Int)-1) (by show IntKind.i64.wrap ((out.n:Int)-1)=_;rw[wrap_i64 ⟨by omega,by omega⟩,ic]) ?_;intro eS;obtain⟨mJ,hw,bk,dr⟩:=aQ.Lw (I:=J) (b:=96) (e:=82) se (by omega) (λg ax=>eS.d ⟨g,.cells out.aU.toArray 82 (0,0)⟩ (by simp[aQ.ar,ax])) [];refine⟨mJ,[],.sub (M1:=out.ar 82++[]) (by rw[dD];exact .cons _ (xq _ _)) hw,λb o h=>bk _ _ (a8 _ _ h),rfl,⟨hq,out.a.map λg=>⟨g,0,none⟩,out.n,out.c,(hq.length:Int)-1⟩,rfl,⟨dr,λd ah=>(A0 d ah).mono bk,⟨by simp only;omega,by simp only;omega⟩⟩,⟨?_,rfl⟩⟩;rw[fS (by omega)]at uq;rw[wU,ot,<-ho]at *;rw[uq]
def TH(au:t.ok I)(af:right t=true)(aD:t.n<=1099511627776){node:Nat}(FH:node<t.n) :
  Spec Tryz.prog 172 [t.val,.int .i64 node] I M0 λv I' M'=>(∀ b o,I b=some o->I' b=some o)/\M'=M0/\∃ bf:bn,v=bf.val/\bf.ok I'/\p2 t node bf:=by
 refine Spec.mH (Spec.frame (aqe au af aD FH)) ?_;rintro v J M⟨M',rfl,-,-,aa,rfl,bf,rfl,ab,ai⟩;exact⟨aa,rfl,bf,rfl,ab,ai⟩
def aqg(bl:ff I ay)(au:t.ok I)(af:right t=true)(aD:t.n<=1099511627776){r:Nat}(en:t.br=(r:Int)) :
  Spec Tryz.prog 107 [t.val] I M0 λv I' M'=>(∀ b o,I b=some o->I' b=some o)/\M'=M0/\∃ bf:bn,v=bf.val/\bf.ok I'/\p2 t r bf:=by
 refine b0 [] a3 Tryz.func107 rfl rfl rfl ?_;intro B aw;have ho:=au.n;obtain⟨gG,hd⟩:=lZ af;refine bc.mk [] M0 _ (.refl _) (oR bl.c au) ?_;rintro v J N -⟨rfl,a8,rfl⟩;subst J;refine a5.mk (λh=>absurd h (by simp[af])) (λ_=>?_);have de:=TH (M0:=M0) au af aD (node:=r) (by omega);rw[<-en]at de;refine bc.whole _ de ?_;rintro v J N -⟨a8,hC,bf,rfl,jI,av⟩;subst N;rw[en]at av;exact⟨_,_,.refl,a8,rfl,bf,rfl,jI,av⟩
def jJ(hh:Int)(d:al):al:=d.ep (d.aq.map (·+hh))
structure aqh(I:aJ)(ds:List al)(hh:Int)(os0:aQ)(x:Nat×aQ×List al×aJ):Prop where
 i:x.1<=ds.length
 ok:x.2.1.ok 9 (x.2.2.1.flatMap al.cells)
 a1:x.2.2.1.map al.a1=(ds.take x.1).map (jJ hh)++(ds.drop x.1).map al.a1
 ns:∀ d∈x.2.2.1,d.ok x.2.2.2
 le:∀ b o,I b=some o->x.2.2.2 b=some o
 a:x.2.1.a=os0.a
 v:x.2.1.val=os0.val
structure aqi(d:al)(hh:Int)(os0:aQ)(y:Nat×aQ×List Int):Prop where
 k:y.1<=d.az
 ok:y.2.1.ok 1 (y.2.2.flatMap iH)
 eq:y.2.2=(d.aq.take y.1).map (·+hh)++d.aq.drop y.1
 a:y.2.1.a=os0.a
 v:y.2.1.val=os0.val
def aqj{ds:List al}{hh:Int}{i:Nat}(hi:i<ds.length)(ey:L.map al.a1=(ds.take i).map (jJ hh)++(ds.drop i).map al.a1){d:al}(ah:d.a1=jJ hh ds[i]):(L.set i d).map al.a1=(ds.take (i+1)).map (jJ hh)++(ds.drop (i+1)).map al.a1:=by rw[qy,ey,gH hi,cS,fi hi,ca,ah,Ch _ _ (by rw[bE,fR];omega),bE,fR,pC (by omega),mD,Ci,ec];rfl
def aqk{ds:List al}{hh:Int}{i:Nat}(hi:i<ds.length)(lD:i<L.length)(ey:L.map al.a1=(ds.take i).map (jJ hh)++(ds.drop i).map al.a1):L[i].a1=ds[i].a1:=by
 have aa:(L.map al.a1)[i]?=some ds[i].a1:=by rw[ey,lx (by rw[bE,fR];omega),bE,fR,pC (by omega),mD,fi hi,ca];rfl
 rw[ju,dt lD]at aa;exact e2 aa
def ads{c:Nat}{ds:List al}(h:cD I a n c 9 96 (ds.flatMap al.cells))(fD:∀ d∈ds,d.ok I)(hh:Int)(Jy:∀ d∈ds,∀ k∈d.aq,ha (k+hh)) :
  Spec Tryz.prog 108 [.slice a n c,.int .i64 hh] I [] λv I' M'=>(∀ b o,I b=some o->I' b=some o)/\∃ (os:aQ) (L:List al),v=os.val/\os.n=n/\os.ok 9 (L.flatMap al.cells)/\M'=os.ar 82/\L.map al.a1=ds.map (jJ hh)/\∀ d∈L,d.ok I':=by
 refine x2 [] a3 Tryz.func108 rfl rfl rfl ?_;intro B aw;have hy:=h.cap;have cQ:=h.len;rw[gL _ 9 al.cH]at cQ;have aD:ds.length=n:=by omega
 refine pE.mk n n rfl rfl (b2 _) (by show 96*n<=_;omega) (by omega) ?_;refine bZ.mk λea Cm Lv=>?_;have bd:∀ z:List Value,z.length=9->(rowOf z (n*9)).length=n*9:=λz _=>by simp[tp,madeCells]
 refine bF.TD a3 rfl (by simp) (e:=82) rfl rfl rfl (g:=ea) (n:=n) (c:=n) rfl (by rw[bd _ rfl];exact b2 _) (sa:=a) (c':=c) rfl (b3:=ds.flatMap al.cells) h.len (λaw=>h.y3 _ aw) (Nf al.one _) [] [] rfl ?_;have de:∀ z:List Value,z.length=9->cq (rowOf z (n*9)) 0 (ds.flatMap al.cells)=ds.flatMap al.cells:=λz gO=>by unfold cq;rw[qx,hX,dp,s4 (by rw[bd z gO,h.len];exact b2 _),dD]
 have l3:(ds.flatMap al.cells).length=n*9:=h.len;obtain⟨os0,Jz⟩:∃ os0:aQ,os0=⟨some ea,n,n,cq (rowOf [.int .u8 0,.int .u64 0,.int .u64 0,.int .u64 0,.int .u64 0,.string ⟨#[]⟩,.int .i64 0,.int .i64 0,.slice none 0 0] (n*9)) 0 (ds.flatMap al.cells)⟩:=⟨_,rfl⟩;have AX:os0.ok 9 (ds.flatMap al.cells):=by
  rw[Jz];refine⟨l3,(λh=>by cases h),λeu jO=>⟨?_,b2 _,by unfold maxLen;simp only;omega,?_⟩⟩;·simp only;rw[de _ rfl,l3]
  ·simp only;rw[de _ rfl];exact fS (by rw[l3];exact b2 _)
 have Ja:os0.val=.slice (some ⟨ea,0,none⟩) n n:=by rw[Jz];rfl
 have Nl:os0.a=some ea:=by rw[Jz]
 have qG:os0.n=n:=by rw[Jz]
 refine dx.uR (ι:=Nat×aQ×List al×aJ) (λx=>{ bp:=[(1,.val (.int .i64 hh)),(5,.val (.slice (some ⟨ea,0,none⟩) n n)),(16,.val (.slice (some ⟨ea,0,none⟩) n n)),(17,.val (.int .i64 n)),(18,.val (.int .i64 x.1))],cl:=[],cP:=x.2.2.2,da:=x.2.1.ar 82++[] }) (λx=>aqh I ds hh os0 x) (λx=>n-x.1) ?_ ?_
 ·intro _;refine⟨(0,os0,ds,I),⟨dj _,AX,by simp,fD,λ_ _ h=>h,rfl,rfl⟩,.l6 (by rw[Jz];rfl),il,.nil⟩
 rintro⟨i,os,L,J⟩⟨hi,cc,ey,kO,bk,oh,lJ⟩;simp only at hi cc ey kO bk oh lJ;have FG:L.length=ds.length:=by have:=congrArg List.length ey;rw[bE,cm,bE,bE,fR,qw]at this;omega
 have aql:os.a=some ea:=oh.trans Nl;refine a5.mk (λab=>?_) (λab=>?_)
 rotate_left
 ·have c8:i=n:=by have:¬ (i:Int)<(n:Int):=dP ab;omega
  intro eS;refine⟨_,_,.refl,bk,os,L,by rw[lJ,Ja],by rw[(y4 lJ).1,qG],cc,by rw[dD],?_,kO⟩;rw[ey,fS (by omega),s4 (by omega),hH,dD]
 have a4:i<n:=by have:(i:Int)<(n:Int):=c5 ab;omega
 have kf:i<ds.length:=by omega
 have lD:i<L.length:=by omega
 have Nm:=aqk kf lD ey;have h5:=kO _ (bJ lD);have gu:L[i].aq=ds[i].aq:=by have:L[i].a1.aq=ds[i].a1.aq:=congrArg al.aq Nm;exact this
 have adt:=Jy _ (bJ kf);obtain⟨aP,bI,bt⟩:=aQ.ok.row (I:=J) (M:=os.ar 82++[]) (e:=82) al.cH (by decide) cc (λz bd=>im _ bd) lD;obtain rfl:aP=⟨ea,0,none⟩:=by rw[aql]at bI;exact(e2 bI).symm
 have iS:∀ d:al,d.a1=jJ hh ds[i]->(L.set i d).map al.a1=(ds.take (i+1)).map (jJ hh)++(ds.drop (i+1)).map al.a1:=λd ah=>aqj kf ey ah;have fk:∃ d,L[i]=d:=⟨_,rfl⟩;obtain⟨d,ah⟩:=fk;have fh:=h5.az;refine bA.mk ⟨ea,0,none⟩ i rfl rfl a4 ?_;refine aV.mk _ bt ?_;refine bA.mk ⟨ea,0,none⟩ i rfl rfl a4 ?_;refine aQ.E9 (e:=82) al.cells 9 al.cH cc lD 8 (vs:=[.slice none 0 0]) (bK rfl) rfl (L[i].ep []) rfl [] [] (by simp) bI ?_;intro iw lR nk lG ji;rw[ah]at Nm h5 gu fh;refine a5.mk (λai=>?_) (λai=>?_)
 ·have lv:d.az=0:=by have:((L[i].az:Nat):Int)=0:=c5 ai;rw[ah]at this;omega
  have lq:d.aq=[]:=iD (by omega);refine be.mk _ (dc (i:=i) (by omega)) ?_;intro eS;refine⟨(i+1,iw,L.set i (L[i].ep []),J),⟨⟨by simp only;omega,ji,iS _ ?_,λx ad=>?_,bk,nk.trans oh,lR.trans lJ⟩,by simp only;omega⟩,.refl,il,.nil⟩;·rw[ah];show d.a1.ep []=jJ hh ds[i];rw[Nm,jJ,<-gu,lq];rfl
  ·rcases xp ad with ad | rfl
   ·exact kO _ ad
   ·rw[ah];exact⟨h5.k,h5.cz,h5.s1,h5.s2,h5.cV,h5.t,h5.lo,h5.hi,⟨rfl,⟨b2 _,(show 0*8<=140737488355328 by decide)⟩,.inl rfl⟩,λk ae=>by cases ae⟩
 ·have lv:0<d.az:=by have:¬ ((L[i].az:Nat):Int)=0:=dP ai;rw[ah]at this;omega
  have p0:=h5.ba.cap;have aqm:=h5.ba;have BV:L[i].cf=d.cf/\L[i].az=d.az/\L[i].cx=d.cx:=by rw[ah];exact⟨rfl,rfl,rfl⟩
  refine pE.mk d.az d.az (by rw[BV.2.1]) (by rw[BV.2.1]) (b2 _) (by show 8*d.az<=_;omega) (by omega) ?_;refine bZ.mk λdQ sZ ak1=>?_;have adu:(rowOf [Value.int .i64 0] (d.az*1)).length=d.az:=by simp[tp,madeCells]
  have aqn:cq (rowOf [Value.int .i64 0] (d.az*1)) 0 (d.aq.map (.int .i64 ·))=d.aq.map (.int .i64 ·):=by unfold cq;rw[qx,hX,dp,s4 (by rw[adu,bE];omega),dD]
  refine bF.TD a3 rfl (by simp) (e:=3) rfl rfl rfl (g:=dQ) (n:=d.az) (c:=d.az) (aU:=rowOf [Value.int .i64 0] (d.az*1)) rfl (by rw[adu];show d.az*1<=_;omega) (sa:=d.cf) (c':=d.cx) (by rw[<-BV.1,<-BV.2.1,<-BV.2.2];rfl) (b3:=d.aq.map (.int .i64 ·)) (by rw[bE];show _=d.az*1;omega) (λaw=>aqm.y3 _ aw) (FF _) [] (iw.ar 82++[]) rfl ?_;obtain⟨y7,FM⟩:∃ y7:aQ,y7=⟨some dQ,d.az,d.az,cq (rowOf [Value.int .i64 0] (d.az*1)) 0 (d.aq.map (.int .i64 ·))⟩:=⟨_,rfl⟩;have aqo:y7.ok 1 (d.aq.flatMap iH):=by rw[FM,oo,aqn];refine⟨by rw[bE];simp only;omega,(λh=>by cases h),λeu jO=>⟨by simp only[bE];omega,b2 _,by unfold maxLen;simp only;omega,fS (by rw[bE];simp only;omega)⟩⟩
  have ax2:y7.val=.slice (some ⟨dQ,0,none⟩) d.az d.az:=by rw[FM];rfl
  have aqp:y7.a=some dQ:=by rw[FM]
  have adv:y7.n=d.az:=by rw[FM]
  refine dx.inv (ι:=Nat×aQ×List Int) (λy=>{ bp:=[(1,.val (.int .i64 hh)),(5,.val (.slice (some ⟨ea,0,none⟩) n n)),(6,.val (.int .i64 i)),(7,.ref 7 0),(8,.val (.slice (some ⟨dQ,0,none⟩) d.az d.az)),(16,.val (.slice (some ⟨ea,0,none⟩) n n)),(17,.val (.int .i64 n)),(18,.val (.int .i64 i)),(39,.val (.slice (some ⟨dQ,0,none⟩) d.az d.az)),(40,.val (.int .i64 d.az)),(41,.val (.int .i64 y.1))],cl:=[],cP:=J,da:=y.2.1.ar 3++(iw.ar 82++[]) }) (λy=>aqi d hh y7 y) (λy=>d.az-y.1) ?_ ?_;·exact⟨(0,y7,d.aq),⟨dj _,aqo,by simp,rfl,rfl⟩,.l6 (by rw[FM];rfl),GO,.nil⟩
  rintro⟨k,eh,fz⟩⟨ae,iF,cW,FN,hZ⟩;simp only at ae iF cW FN hZ;have adw:eh.a=some dQ:=FN.trans aqp;have Ez:fz.length=d.aq.length:=by rw[cW,cm,bE,fR,qw];omega
  refine a5.mk (λaL=>?_) (λaL=>?_)
  ·have e0:k<d.az:=by have:(k:Int)<(d.az:Int):=c5 aL;omega
   have jc:k<d.aq.length:=by omega
   have vR:k<fz.length:=by omega
   have Jv:fz[k]=d.aq[k]:=by
    have ai:fz[k]?=d.aq[k]?:=by rw[cW,lx (by rw[bE,fR];omega),bE,fR,pC (by omega),mD,nw,pD]
    rw[dt vR,dt jc]at ai;exact e2 ai
   obtain⟨gv,fm,fe⟩:=aQ.ok.row (I:=J) (M:=eh.ar 3++(iw.ar 82++[])) (e:=3) (f:=iH) (size:=1) (λ_=>rfl) (by decide) iF (λz bd=>im _ bd) vR;obtain rfl:gv=⟨dQ,0,none⟩:=by rw[adw]at fm;exact(e2 fm).symm
   rw[Jv]at fe;have gR:ha (d.aq[k]+hh):=adt _ (by rw[<-gu];exact bJ jc);refine bA.mk ⟨dQ,0,none⟩ k rfl rfl e0 ?_;refine aV.mk _ fe ?_;refine be.mk (d.aq[k]+hh) (wrap_i64 gR) ?_;refine bA.mk ⟨dQ,0,none⟩ k rfl rfl e0 ?_;refine aQ.IF iH 1 (λ_=>rfl) (e:=3) iF vR (d.aq[k]+hh) rfl [] (iw.ar 82++[]) rfl fm ?_;intro o3 aqq aqr ax3 aqs;refine be.mk _ (dc (i:=k) (by omega)) ?_;refine⟨(k+1,o3,fz.set k (d.aq[k]+hh)),⟨⟨e0,aqs,?_,aqr.trans FN,aqq.trans hZ⟩,by simp only;omega⟩,.refl,GO,.nil⟩;simp only;rw[cW,gH jc,cS,ca,hH,Ch _ _ (by rw[bE,fR];omega),bE,fR,pC (by omega),mD,fi jc,Ci,ec];rfl
  have c8:k=d.az:=by have:¬ (k:Int)<(d.az:Int):=dP aL;omega
  rw[fS (by omega),s4 (by omega),dD]at cW;rw[oo]at iF;refine bA.mk ⟨ea,0,none⟩ i rfl rfl a4 ?_;have hW:i<(L.set i (L[i].ep [])).length:=by rw[rW];exact lD
  have m6:(L.set i (L[i].ep []))[i]=d.ep []:=by rw[List.getElem_set_self,ah]
  have bV:∃ bX:al,bX=⟨d.k,d.cz,d.s1,d.s2,d.cV,d.t,d.lo,d.hi,some ⟨dQ,0,none⟩,d.az,d.az,fz⟩:=⟨_,rfl⟩;obtain⟨bX,bV⟩:=bV;refine aQ.E9 (e:=82) al.cells 9 al.cH ji hW 8 (vs:=[.slice (some ⟨dQ,0,none⟩) d.az d.az]) (bK rfl) rfl bX (by rw[m6,bV];rfl) (eh.ar 3) [] rfl (by rw[nk];exact bI) ?_;intro Ni HP vP C6 zJ;rw[Hj]at zJ;refine be.mk _ (dc (i:=i) (by omega)) ?_;intro eS;obtain⟨mJ,hw,gl,dr⟩:=aQ.Lw (I:=J) (b:=8) (e:=3) iF (by rw[(y4 hZ).1,adv];omega) (λg ax=>eS.d ⟨g,.cells eh.aU.toArray 3 (0,0)⟩ (by simp[aQ.ar,ax])) (Ni.ar 82++[]);refine⟨(i+1,Ni,L.set i bX,mJ),⟨⟨by simp only;omega,zJ,iS _ ?_,λx ad=>?_,λb o h=>gl _ _ (bk _ _ h),(vP.trans nk).trans oh,(HP.trans lR).trans lJ⟩,by simp only;omega⟩,hw,il,.nil⟩;·rw[bV,cW];show d.a1.ep (d.aq.map (·+hh))=jJ hh ds[i];rw[Nm,jJ,gu];rfl
  ·rcases xp ad with ad | rfl
   ·exact(kO _ ad).mono gl
   ·rw[adw,(y4 hZ).1,(y4 hZ).2,adv]at dr;have zM:y7.c=d.az:=by rw[FM]
    rw[zM]at dr;rw[bV];refine⟨h5.k,h5.cz,h5.s1,h5.s2,h5.cV,h5.t,h5.lo,h5.hi,dr,λq aM=>?_⟩;have aM:q∈fz:=aM;rw[cW]at aM;obtain⟨z,bd,rfl⟩:=c0.1 aM;exact adt z (by rw[<-gu];exact bd)
def aQ.aqt(h:os.ok size xs)(bb:∀ x∈os.ar e,x∈M)(aw:0<os.n):∃ aP,os.a.map (λg=>(⟨g,0,none⟩:Addr))=some aP/\cY I M aP (os.n*size) xs:=by
 obtain⟨a,n,c,aU⟩:=os;cases a with
 |none=>have:=(h.nil rfl).1;simp only at this aw;omega| some g=>obtain⟨aa,ab,ai,aL⟩:=h.cap g rfl;exact⟨_,rfl,rfl,aU.toArray,e,(0,0),.inr ⟨⟨g,.cells aU.toArray e (0,0)⟩,bb _ (.head _),rfl,rfl⟩,by simpa using aL,h.len⟩
def aqu{c:Nat}{ds:List al}(h:cD I a n c 9 96 (ds.flatMap al.cells))(fD:∀ d∈ds,d.ok I)(hh:Int)(Jy:∀ d∈ds,∀ k∈d.aq,ha (k+hh)) :
  Spec Tryz.prog 108 [.slice a n c,.int .i64 hh] I M0 λv I' M'=>(∀ b o,I b=some o->I' b=some o)/\∃ (os:aQ) (L:List al),v=os.val/\os.n=n/\os.ok 9 (L.flatMap al.cells)/\M'=os.ar 82++M0/\L.map al.a1=ds.map (jJ hh)/\∀ d∈L,d.ok I':=by
 refine Spec.mH (Spec.frame (ads h fD hh Jy)) ?_;rintro v J M⟨M',rfl,-,-,aa,os,L,rfl,ab,ai,rfl,aL,bq⟩;exact⟨aa,os,L,rfl,ab,ai,rfl,aL,bq⟩
def aqv(n:Nat)(l:List al):l.map (jJ (n:Int))=l.map λx=>x.ep (x.aq.map λk=>(n:Int)+k):=fT λx _=>by unfold jJ;congr 1;exact fT λk _=>Int.add_comm _ _
def adx(z:Int)(ds:List al):(ds.map al.a1).map (jJ z)=ds.map (jJ z):=by rw[gh];rfl
def aqw(bl:ff I ay){d:al}(ah:d.ok I){L:List bn}(bt:cD I cf L.length Jd 2 32 (L.flatMap bn.cells))(b8:∀ t∈L,t.ok I/\right t=true)(aD:(L.map (·.n)).sum<=1099511627776)(aA:L.length<=1099511627776)(aB:fits d L.length=true) :
  Spec Tryz.prog 175 [d.val,.slice cf L.length Jd] I [] λv I' M'=>(∀ b o,I b=some o->I' b=some o) /\
   ∃ (os cj:aQ) (hq:List al) (bX:al),v=.tuple #[.agg #[os.val,.int .i64 ((hq.length:Nat):Int)],.bool true]/\os.n=hq.length+1/\os.n<=1099511627777/\os.ok 9 ((hq++[bX]).flatMap al.cells)/\M'=os.ar 82++(cj.ar 3++[])/\(∀ x∈hq,x.ok I') /\
    cj.ok 1 (bX.aq.map (.int .i64 ·))/\cj.n<=1099511627776/\bX.cf=cj.a.map (λg=>(⟨g,0,none⟩:Addr))/\bX.az=cj.n/\bX.cx=cj.c/\bX.a1=d.ep bX.aq/\(∀ k∈bX.aq,ha k)/\(hq++[bX]).map al.a1=sX d (L.map tW):=by
 refine b0 [] a3 Tryz.func175 rfl rfl rfl ?_;intro B aw;refine bc.mk [] [] _ (.refl _) (PA bl.c ah L.length) ?_;rintro v Js N -⟨rfl,x0,rfl⟩;subst Js;refine a5.mk (λh=>absurd h (by simp[aB])) (λ_=>?_);refine dx.inv (ι:=Nat×aQ×List al×aQ×List Int×aJ) (λx=>{ bp:=[(2,.ref 2 0),(4,.ref 4 0),(6,.val x.2.1.val),(7,.val x.2.2.2.1.val),(16,.val (.slice cf L.length Jd)),(17,.val (.int .i64 L.length)),(18,.val (.int .i64 x.1))],cl:=[(2,d.cells),(4,[.slice none 0 0,.int .i64 0])],cP:=x.2.2.2.2.2,da:=x.2.1.ar 82++(x.2.2.2.1.ar 3++[]) }) (akW I L) (λx=>L.length-x.1) ?_ ?_
 ·exact⟨(0,h3,[],h3,[],I),⟨dj _,k0 9,k0 1,rfl,rfl,(λd ah=>by cases ah),λ_ _ h=>h,dj _,(λk ae=>by cases ae)⟩,.refl,ru,.cons rfl (.cons rfl (.nil))⟩
 rintro⟨i,out,hq,cj,TI,J⟩⟨hi,se,jQ,cW,uq,bi,a8,ic,jF⟩;simp only at hi se jQ cW uq bi a8 ic jF;have dz:=YI L i;have vQ:out.n=hq.length:=by have:=se.len;rw[gL _ 9 al.cH]at this;omega
 have ax4:=jQ.pY;refine a5.mk (λh=>?_) (λh=>?_)
 ·have a4:i<L.length:=by have:(i:Int)<(L.length:Int):=c5 h;omega
  obtain⟨aP,bI,ady⟩:=(bt.mono a8).row (f:=bn.cells) (λ_=>rfl) a4 a4;obtain⟨TJ,pq⟩:=b8 _ (bJ a4);have JA:=TJ.mono a8;have Nn:=YI L (i+1);rw[YJ L i a4]at Nn;have adz:(L.take (i+1)).map tW=(L.take i).map tW++[tW L[i]]:=by rw[gH a4,cS];rfl
  have aqx:=YJ L i a4;generalize ax5:L[i]=t at TJ pq JA ady Nn adz aqx;obtain⟨gG,hd⟩:=lZ pq;obtain⟨r,en⟩:=eF gG;have ho:=TJ.n;refine bA.mk aP i bI rfl a4 ?_;refine aV.mk _ (ady _) ?_;refine bc.mk [] (out.ar 82++(cj.ar 3++[])) _ (.refl _) (oR (bl.mono a8).c JA) ?_;rintro v Js N -⟨rfl,x0,rfl⟩;subst Js;refine a5.mk (λh=>absurd h (by simp[pq])) (λ_=>?_);have adA:=TH (M0:=out.ar 82++(cj.ar 3++[])) JA pq (by omega) (node:=r) (by omega);rw[<-en]at adA;refine bc.whole _ adA ?_;rintro v ix N -⟨hr,hC,t1,rfl,tR,av⟩;subst N;have oD:=av;rw[en]at oD;have h9:=Zu pq (show r<t.ns.length by omega) oD;have u0:=Zv pq (show r<t.ns.length by omega) oD;have dk:=HU pq t.ns.length r (by omega) (by omega);have TK:=tR.n;have dm:tW t=t1.ns.map al.a1:=av.a1.symm;refine bc.whole _ (aqu (M0:=out.ar 82++(cj.ar 3++[])) tR.ba tR.ns out.n λx ad k ae=>?_) ?_;·obtain⟨q,aM,rfl⟩:=hM ad;have:=ly h9 q aM k ae;exact⟨by omega,by omega⟩
  rintro v cE N -⟨cI,BA,TL,rfl,IS,adB,hC,adC,aqy⟩;subst N;have ax6:TL.length=t1.n:=by have:=congrArg List.length adC;rw[bE,bE]at this;omega
  refine bF.An a3 rfl (by simp) (e:=82) rfl rfl rfl out se rfl (sa:=BA.a.map λg=>⟨g,0,none⟩) (m:=BA.n) (c':=BA.c) (b3:=TL.flatMap al.cells) rfl adB.len (λaw=>aQ.aqt adB (λz bd=>im _ bd) aw) (Nf al.one _) (BA.ar 82) (cj.ar 3++[]) rfl (by omega) (by show(out.n+BA.n)*96<=_;omega) ?_;intro nl TG ax7 ji;refine be.mk ((nl.n:Int)-1) (by show IntKind.i64.wrap ((nl.n:Int)-1)=_;rw[wrap_i64 ⟨by omega,by omega⟩]) ?_;refine bZ.mk λgT Fb amv=>?_;refine bF.l7 a3 rfl (by simp) (e:=3) rfl rfl rfl cj jQ rfl (cs:=[.int .i64 ((nl.n:Int)-1)]) rfl rfl rfl (BA.ar 82++nl.ar 82) [] (by rw[ec];rfl) (by omega) (by show(cj.n+1)*8<=_;omega) ?_;intro aqz FL ax8 aqA;refine be.mk _ (dc (i:=i) (by omega)) ?_;have aqB:(tW t).length=t1.n:=by rw[dm,bE];exact TK
  refine⟨(i+1,nl,hq++TL,aqz,TI++[(nl.n:Int)-1],cE),⟨⟨a4,?_,?_,by simp only[cm,eo,g3];omega,?_,λx ad=>?_,λb o h=>cI _ _ (hr _ _ (a8 _ _ h)),?_,λk ae=>?_⟩,by simp only;omega⟩,.sub (by rw[ec];exact mT _ _) .refl,ru,.cons rfl (.cons rfl (.nil))⟩;·simp only;rw[fX];exact ji
  ·simp only;rw[cS];exact aqA
  ·simp only;rw[adz,tT,uq,kl,HI];show(hq.map al.a1++(tW t).map (λx=>x.ep (x.aq.map λk=>((hq.map al.a1).length:Int)+k)),TI++[(((hq.map al.a1).length+(tW t).length:Nat):Int)-1])=_;rw[cS,adC,bE,aqB,dm,<-adx,<-vQ,aqv];congr 3;omega
  ·rcases cC.1 ad with ad | ad
   ·exact(bi x ad).mono λb o h=>cI _ _ (hr _ _ h)
   ·exact aqy x ad
  ·simp only[cm];omega
  ·simp only at ae |-;rcases cC.1 ae with ae | ae
   ·have:=jF k ae;omega
   ·rw[eC]at ae;omega
 have c8:i=L.length:=by have:¬ (i:Int)<(L.length:Int):=dP h;omega
 subst c8;rw[fS (b2 _)]at uq ic jF;refine bZ.mk λax9 aya ayb=>?_;refine bF.l7 a3 rfl (by simp) (e:=82) rfl rfl rfl out se rfl (cs:=[.int .u8 d.k,.int .u64 d.cz,.int .u64 d.s1,.int .u64 d.s2,.int .u64 d.cV,.string d.t,.int .i64 d.lo,.int .i64 d.hi,cj.val]) rfl rfl rfl [] (cj.ar 3++[]) rfl (by omega) (by show(out.n+1)*96<=_;omega) ?_;intro os FO adD aqC;refine be.mk ((hq.length:Nat):Int) (by show IntKind.i64.wrap ((os.n:Int)-1)=_;rw[wrap_i64 ⟨by omega,by omega⟩];omega) ?_;refine⟨_,_,.refl,a8,os,cj,hq,⟨d.k,d.cz,d.s1,d.s2,d.cV,d.t,d.lo,d.hi,cj.a.map λg=>⟨g,0,none⟩,cj.n,cj.c,TI⟩,rfl,by omega,by omega,?_,rfl,bi,jQ,by omega,rfl,rfl,rfl,rfl,λk ae=>?_,?_⟩
 ·rw[fX];exact aqC
 ·have:=jF k ae;exact⟨by omega,by omega⟩
 ·rw[sX,uq,cS];rfl
def aqD(bl:ff I ay){d:al}(ah:d.ok I){L:List bn}(bt:cD I cf L.length Jd 2 32 (L.flatMap bn.cells))(b8:∀ t∈L,t.ok I/\right t=true)(aD:(L.map (·.n)).sum<=1099511627776)(aA:L.length<=1099511627776)(aB:fits d L.length=true) :
  Spec Tryz.prog 175 [d.val,.slice cf L.length Jd] I M0 λv I' M'=>(∀ b o,I b=some o->I' b=some o)/\M'=M0 /\
   ∃ bf:bn,v=.tuple #[bf.val,.bool true]/\bf.ok I'/\bf.br=(bf.ns.length:Int)-1/\bf.ns.map al.a1=sX d (L.map tW):=by
 refine Spec.mH (Spec.frame (Spec.jq (aqw bl ah bt b8 aD aA aB))) ?_;rintro v J M⟨M',rfl,-,a8,rfl,-,I',M1,⟨aa,os,cj,hq,bX,rfl,ic,MD,cc,rfl,bi,jQ,jF,aK,a7,ck,dM,ob,ey⟩,bs⟩;have fe:=aQ.jq (b:=8) bs jQ (λz bd=>sF _ (im _ bd)) (by omega);have f:∀ {α:Type} (p:al->α),p bX.a1=p (d.ep bX.aq):=λp=>by rw[dM]
 refine⟨a8,rfl,⟨hq++[bX],os.a.map λg=>⟨g,0,none⟩,os.n,os.c,(hq.length:Nat)⟩,rfl,⟨aQ.jq bs cc (λz bd=>im _ bd) (by omega),λx ad=>?_,⟨by simp only;omega,by simp only;omega⟩⟩,by simp,ey⟩;rcases cC.1 ad with ad | ad
 ·exact(bi x ad).mono bs.le
 ·rw[eC]at ad;subst ad;have ur:=ah.mono a8;refine⟨?_,?_,?_,?_,?_,?_,?_,?_,by rw[aK,a7,ck];exact fe,ob⟩
  ·have:x.k=d.k:=f al.k;rw[this];exact ur.k
  ·have:x.cz=d.cz:=f al.cz;rw[this];exact ur.cz
  ·have:x.s1=d.s1:=f al.s1;rw[this];exact ur.s1
  ·have:x.s2=d.s2:=f al.s2;rw[this];exact ur.s2
  ·have:x.cV=d.cV:=f al.cV;rw[this];exact ur.cV
  ·have:x.t=d.t:=f al.t;rw[this];exact ur.t
  ·have:x.lo=d.lo:=f al.lo;rw[this];exact ur.lo
  ·have:x.hi=d.hi:=f al.hi;rw[this];exact ur.hi
def TM{A K B:List Int}(ah:hQ (A++(K++B))){x:Int}(ad:x∈K):k2 (A++(K++B)) x=k2 K x+(A.length:Int):=by have dI:x ∉ A:=λh=>(rV.1 ah).2.2 x h x (im _ ad) rfl;unfold k2;rw[Tc,bP dI,Tc,bT ad];omega
def adE{No:List Int}{k:Int}(ah:hQ (No++[k])):k2 (No++[k]) k=(No.length:Int):=by have dI:k ∉ No:=λh=>(rV.1 ah).2.2 k h k (.head _) rfl;unfold k2;rw[Tc,bP dI,List.idxOf_cons_self];omega
section
variable{t:bn}(af:hf t)
include af
theorem TN{j:Nat}(ak:j<t.ns.length){a9 post:List Int}{k:Int}(ae:(nodeAt t.ns j).aq=a9++k::post):er t.ns j=a9.flatMap (er t.ns)++(er t.ns k++(post.flatMap (er t.ns)++[(j:Int)])):=by rw[k1 af ak,ae,fX,jf,ec,ec]
theorem aqE{j:Nat}(ak:j<t.ns.length){a9 post:List Int}{k:Int}(ae:(nodeAt t.ns j).aq=a9++k::post):k2 (er t.ns j) k=((a9.flatMap (er t.ns)).length:Int)+(er t.ns k).length-1:=by
 have Np:k∈(nodeAt t.ns j).aq:=by rw[ae];simp
 obtain⟨aw,aa⟩:=af.node ak Np;obtain⟨q,rfl⟩:=eF aw;have aM:q<t.ns.length:=by omega
 have ah:=Ia af j ak;rw[TN af ak ae]at ah |-;rw[TM ah (Zl af aM)];have gu:=Ia af q aM;have e:=k1 af aM;rw[e]at gu |-;rw[adE gu,cm,eo,g3];omega
theorem aqF{j:Nat}(ak:j<t.ns.length){a9 post:List Int}{k:Int}(ae:(nodeAt t.ns j).aq=a9++k::post) :
  (((wU t.ns j).drop (a9.flatMap (er t.ns)).length).take (er t.ns k).length).map (jJ (-((a9.flatMap (er t.ns)).length:Int)))=wU t.ns k:=by
 have Np:k∈(nodeAt t.ns j).aq:=by rw[ae];simp
 obtain⟨aw,aa⟩:=af.node ak Np;obtain⟨q,rfl⟩:=eF aw;have aM:q<t.ns.length:=by omega
 have ah:=Ia af j ak;have aH:=QX af q aM;have av:=TN af ak ae;rw[EH af ak,EH af aM];rw[av]at ah;have aK:(((er t.ns j).map (nR t.ns (er t.ns j))).drop (a9.flatMap (er t.ns)).length).take (er t.ns q).length=(er t.ns q).map (nR t.ns (er t.ns j)):=by rw[<-KR,<-KS];congr 1;rw[av,Ra,wv]
 rw[aK,gh];refine fT λb ag=>?_;show jJ _ (nR t.ns (er t.ns j) b)=nR t.ns (er t.ns q) b;show(nodeAt t.ns b.toNat).ep (((nodeAt t.ns b.toNat).aq.map (k2 (er t.ns j))).map _)=(nodeAt t.ns b.toNat).ep _;congr 1;rw[gh];refine fT λx ad=>?_;obtain⟨i,hi,rfl⟩:=hM ag;have aqG:x∈er t.ns q:=u5 (aH i hi x ad);show k2 (er t.ns j) x+_=_;rw[av,TM ah aqG];omega
end
def aqH{c:Nat}{ds:List al}(h:cD I a n c 9 96 (ds.flatMap al.cells))(fD:∀ d∈ds,d.ok I)(hh:Int)(Jy:∀ d∈ds,∀ k∈d.aq,ha (k+hh)) :
  Spec Tryz.prog 108 [.slice a n c,.int .i64 hh] I M0 λv I' M'=>(∀ b o,I b=some o->I' b=some o)/\M'=M0/\∃ (bN:Option Addr) (c':Nat) (L:List al),v=.slice bN n c'/\cD I' bN n c' 9 96 (L.flatMap al.cells)/\L.map al.a1=ds.map (jJ hh)/\∀ d∈L,d.ok I':=by
 refine Spec.mH (Spec.frame (Spec.jq (ads h fD hh Jy))) ?_;rintro v J M⟨M',rfl,-,a8,rfl,-,I',M1,⟨aa,os,L,rfl,rfl,bi,rfl,ey,kO⟩,bs⟩;exact⟨a8,rfl,_,_,L,rfl,aQ.jq bs bi (λ_ h=>h) h.cap.2,ey,λd ah=>(kO d ah).mono bs.le⟩
def cD.TO{c:Nat}{f:α->List Value}(aB:∀ x,(f x).length=size){l:List α}(h:cD I a n c size b (l.flatMap f)){lo hi:Nat}(aa:lo<=hi)(ab:hi<=n)(aA:l.length=n) :
  cD I (if c=lo then a else a.map (·.add (lo*size))) (hi-lo) (c-lo) size b (((l.drop lo).take (hi-lo)).flatMap f):=by
 have cQ:(((l.drop lo).take (hi-lo)).flatMap f).length=(hi-lo)*size:=by rw[gL f size aB,fR,qw,aA,pC (by omega)]
 have hy:=h.cap;refine⟨cQ,⟨by omega,ja (qn b (show hi-lo<=n by omega)) hy.2⟩,?_⟩;by_cases aw:hi-lo=0
 ·exact .inl aw
 ·right
  rcases h.rd with aD | ⟨aP,rfl,de,cs,T,an,bB,aj⟩;·omega
  ·have bD:¬ c=lo:=by omega
   rw[bP bD];refine⟨aP.add (lo*size),rfl,?_,cs,T,an,?_,?_⟩;·rw[eO _ de]
   ·rw[eO _ de];exact bB
   ·rw[eO _ de];have aK:((l.drop lo).take (hi-lo)).flatMap f=((l.flatMap f).drop (lo*size)).take ((hi-lo)*size):=by
     have au:∀ (l:List α) (k:Nat),(l.take k).flatMap f=(l.flatMap f).take (k*size):=λl k=>by
      by_cases ae:k<=l.length
      ·have e:l.flatMap f=(l.take k).flatMap f++(l.drop k).flatMap f:=by rw[<-fX,pM]
       have ab:((l.take k).flatMap f).length=k*size:=by rw[gL f size aB,LX ae]
       rw[e,<-ab,wv]
      ·rw[fS (by omega),fS (by rw[gL f size aB];exact qn _ (by omega))]
     rw[au,ap5 f size aB]
    rw[aK,<-aj,DT,DU,zA];congr 1;have:(hi-lo)*size<=n*size-lo*size:=by rw[<-Nat.sub_mul];exact qn _ (by omega)
    omega
structure aqI(I:aJ)(t:bn)(ks:List Int)(x:Nat×aQ×List bn×aJ):Prop where
 i:x.1<=ks.length
 os:x.2.1.ok 2 (x.2.2.1.flatMap bn.cells)
 len:x.2.2.1.length=x.1
 le:∀ b o,I b=some o->x.2.2.2 b=some o
 all:∀ q (h:q<x.2.2.1.length),(x.2.2.1[q]).ok x.2.2.2/\p2 t (ks.getD q 0) x.2.2.1[q]
def aqJ(bl:ff I ay)(au:t.ok I)(af:right t=true)(aD:t.n<=1099511627776){r:Nat}(en:t.br=(r:Int)) : Spec Tryz.prog 53 [t.val] I M0 λv I' M'=>(∀ b o,I b=some o->I' b=some o)/\∃ (os:aQ) (L:List bn),os.ok 2 (L.flatMap bn.cells)/\v=os.val/\M'=os.ar 56++M0 /\
  L.length=(nodeAt t.ns r).aq.length/\∀ q (h:q<L.length),(L[q]).ok I'/\p2 t ((nodeAt t.ns r).aq.getD q 0) L[q]:=by
 refine b0 [] a3 Tryz.func53 rfl rfl rfl ?_;intro B aw;have aX:=jm.1 af;have ho:=au.n;obtain⟨gG,hd⟩:=lZ af;have eJ:r<t.ns.length:=by omega
 refine bc.whole _ (aqg bl au af aD en) ?_;rintro v J N -⟨a8,hC,t1,rfl,tR,av⟩;subst N;have u0:=Zv af eJ av;have dk:=HU af t.ns.length r eJ (by omega);have TK:=tR.n;have j5:=EH aX eJ;have rQ:=QY aX r eJ;have FP:t1.ns.length=(er t.ns r).length:=by have:=congrArg List.length av.a1;rw[bE,j5,bE]at this;exact this
 have SB:=k1 aX eJ;have gC:0<(er t.ns r).length:=by rw[SB];simp
 obtain⟨ks,eL⟩:∃ ks,(nodeAt t.ns r).aq=ks:=⟨_,rfl⟩;have EJ:(t1.ns[t1.ns.length-1]'(by omega)).aq=ks.map (k2 (er t.ns r)):=by
  have aa:(t1.ns.map al.a1)[t1.ns.length-1]?=some (nR t.ns (er t.ns r) r):=by
   rw[av.a1,j5,ju];have:(er t.ns r)[t1.ns.length-1]?=some (r:Int):=by rw[FP,<-X5];exact Zm aX eJ
   rw[this];rfl
  rw[ju,dt (by omega)]at aa;have ab:(t1.ns[t1.ns.length-1]'(by omega)).a1.aq=(nR t.ns (er t.ns r) r).aq:=congrArg al.aq (e2 aa);rw[<-eL];exact ab
 refine a5.mk (λh=>?_) (λ_=>?_)
 ·have:(t1.n:Int)=0:=c5 h;omega
 have pQ:t1.br=((t1.ns.length-1:Nat):Int):=by rw[av.br];omega
 obtain⟨lz,nN,jw⟩:=tR.ba.row al.cH (show t1.ns.length-1<t1.n by omega) (show t1.ns.length-1<t1.ns.length by omega);have h5:=tR.ns _ (bJ (show t1.ns.length-1<t1.ns.length by omega));generalize t1.ns[t1.ns.length-1]'(by omega)=d at EJ jw h5;have fh:=h5.az;have cW:ks.length=d.az:=by have:=congrArg List.length EJ;rw[bE]at this;omega
 have p0:=h5.ba.cap;have jF:ks.length<=t.ns.length:=by
  have aK:=Ev af eJ;have a7:t.ns[r].aq=ks:=by rw[<-eL,gy eJ]
  have ck:ks.length<=gS (l4 t.ns) ks:=LK af λk ae=>by have:=aX.node eJ (k:=k) (by rw[eL];exact ae);omega
  rw[a7]at aK;omega
 refine bA.mk lz (t1.ns.length-1) nN pQ (by omega) ?_;refine aV.mk _ ((jw _).part (k:=8) (m:=1) (by decide)) ?_;refine dx.inv (ι:=Nat×aQ×List bn×aJ) (λx=>{ bp:=[(1,.ref 1 0),(3,.val x.2.1.val),(4,.val (.int .i64 ((ks.take x.1).flatMap (er t.ns)).length)),(19,.val (.slice d.cf d.az d.cx)),(20,.val (.int .i64 d.az)),(21,.val (.int .i64 x.1))],cl:=[(1,t1.cells)],cP:=x.2.2.2,da:=x.2.1.ar 56++M0 }) (λx=>aqI J t ks x) (λx=>ks.length-x.1) ?_ ?_
 ·exact⟨(0,h3,[],J),⟨dj _,k0 2,rfl,λ_ _ h=>h,λq h=>absurd h (ng _)⟩,.refl,zz,.cons rfl (.nil)⟩
 rintro⟨i,os,tU,cE⟩⟨hi,cc,AM,cI,eI⟩;simp only at hi cc AM cI eI;have FO:os.n=i:=by have:=cc.len;rw[gL _ 2 (λ_=>rfl),AM]at this;omega
 refine a5.mk (λh=>?_) (λh=>?_)
 rotate_left
 ·have c8:i=d.az:=by have:¬ (i:Int)<(d.az:Int):=dP h;omega
  exact⟨_,_,.refl,λb o h=>cI _ _ (a8 _ _ h),os,tU,cc,rfl,rfl,by rw[eL];omega,by rw[eL];exact eI⟩
 have a4:i<d.az:=by have:(i:Int)<(d.az:Int):=c5 h;omega
 have y8:i<ks.length:=by omega
 have TP:(nodeAt t.ns r).aq=ks.take i++ks[i]::ks.drop (i+1):=by rw[eL,<-fi y8,pM]
 have JB:=aqE aX eJ TP;have TQ:=aqF aX eJ TP;have gk:ks[i]∈(nodeAt t.ns r).aq:=by rw[eL];exact bJ y8
 have aqK:=aX.node eJ gk;have mo:0<(er t.ns ks[i]).length:=by obtain⟨q,aM⟩:=eF aqK.1;have:=k1 aX (j:=q) (by omega);rw[aM,this];simp
 have adF:((ks.take i).flatMap (er t.ns)).length+(er t.ns ks[i]).length<=t1.n:=by have:=congrArg List.length (TN aX eJ TP);simp only[cm,eo,g3]at this;omega
 have ob:(ks.map (k2 (er t.ns r)))[i]'(by rw[bE];exact y8)=((ks.take i).flatMap (er t.ns)).length+(er t.ns ks[i]).length-1:=by rw[gg];exact JB
 obtain⟨gv,fm,fe⟩:=(h5.mono cI).ba.one a4 (show i<d.aq.length by omega);have aqL:d.aq[i]'(by omega)=(((ks.take i).flatMap (er t.ns)).length:Int)+(er t.ns ks[i]).length-1:=by simp only[EJ];exact ob
 rw[aqL]at fe;have TR:((ks.take (i+1)).flatMap (er t.ns)).length=((ks.take i).flatMap (er t.ns)).length+(er t.ns ks[i]).length:=by rw[gH y8,fX,cm];simp
 have aqM:ks.getD i 0=ks[i]:=by simp[bM,y8]
 have TS:=tR.mono cI;generalize((ks.take i).flatMap (er t.ns)).length=A at TQ adF fe TR;generalize ayc:(er t.ns ks[i]).length=qb at TQ adF fe TR mo;have dr:=cD.TO al.cH TS.ba (lo:=A) (hi:=A+qb) (by omega) (by omega) TK;have h9:=Zu af eJ av;refine bA.mk gv i fm rfl a4 ?_;refine aV.mk _ (fe _) ?_;refine be.mk ((A+qb:Nat):Int) (by rw[wrap_i64 ⟨by omega,by omega⟩];omega) ?_;refine lf.mk A (A+qb) rfl rfl (by omega) (by have:=TS.ba.cap.1;omega) ?_;refine be.mk (-(A:Int)) (by first | exact wrap_i64 ⟨by omega,by omega⟩ | (rw[wrap_i64 ⟨by omega,by omega⟩];omega)) ?_;refine bc.whole _ (aqH (M0:=os.ar 56++M0) dr (λx ad=>TS.ns x (Fx (u5 ad))) (-(A:Int)) λx ad k ae=>?_) ?_
 ·obtain⟨q,aM,rfl⟩:=hM (Fx (u5 ad));have:=ly h9 q aM k ae;exact⟨by omega,by omega⟩
 rintro v iG N -⟨jG,hC,bN,c',Nq,rfl,adG,aqN,aqO⟩;subst N;have aqP:Nq.length=qb:=by have:=adG.len;rw[gL _ 9 al.cH]at this;omega
 refine be.mk ((qb:Int)-1) (by rw[wrap_i64 ⟨by omega,by omega⟩];omega) ?_;refine bZ.mk λayd aye ayf=>?_;refine bF.l7 a3 rfl (by simp) (e:=56) rfl rfl rfl os cc rfl (cs:=[.slice bN (A+qb-A) c',.int .i64 ((qb:Int)-1)]) rfl rfl rfl [] M0 rfl (by omega) (by show(os.n+1)*32<=_;omega) ?_;intro iw lG gx ji;refine be.mk ((A+qb:Nat):Int) (by rw[wrap_i64 ⟨by omega,by omega⟩];omega) ?_;refine be.mk _ (dc (i:=i) (by omega)) ?_;have eV:bn.ok iG ⟨Nq,bN,A+qb-A,c',(qb:Int)-1⟩:=⟨adG,aqO,⟨by simp only;omega,by simp only;omega⟩⟩;have j9:p2 t ks[i] ⟨Nq,bN,A+qb-A,c',(qb:Int)-1⟩:=by refine⟨?_,by simp only[aqP]⟩;simp only;rw[aqN,<-TQ,<-adx,KS,KR,av.a1,show A+qb-A=qb by omega]
 refine⟨(i+1,iw,tU++[⟨Nq,bN,A+qb-A,c',(qb:Int)-1⟩],iG),⟨⟨y8,?_,by simp[AM],λb o h=>jG _ _ (cI _ _ h),λq aM=>?_⟩,by simp only;omega⟩,.refl,.cons .refl (.cons .refl (.cons ?_ (fw))),.cons rfl (.nil)⟩
 ·simp only;rw[fX];exact ji
 ·simp only at aM |-;by_cases e:q<tU.length
  ·rw[yo e];exact⟨(eI q e).1.mono jG,(eI q e).2⟩
  ·have:q=i:=by simp at aM;omega
   subst this;rw[Cg (by omega)];simp only[AM,mD,tw];rw[aqM];exact⟨eV,j9⟩
 ·simp only;rw[TR];exact .refl
section
end
section
end
open Classical in
def adH{ds:List a0}{i:Nat}:i∈q6 ds F ↔ i<ds.length/\kD (ma ds F) i i:=by unfold q6;rw[n4,j0,decide_eq_true_iff]
def JC:du ay g=0 ↔ g.n≠0/\n' g.ds=true/\pX ay g=false/\(∀ i,i<g.ds.length->p' g.ds i=true)/\∀ d∈g.ds,∀ n∈d.t.ns,n.k=3->0<=eP n.t g.ds 0:=by
 rw[<-acg];have eI:(g.ds.all λd=>d.t.ns.all (yX g.ds))=true ↔ ∀ d∈g.ds,∀ n∈d.t.ns,n.k=3->0<=eP n.t g.ds 0:=by
  simp only[fV,yX,kq,tx,sE,hS];constructor
  ·intro h d ah n aD ai;rcases h d ah n aD with h | h
   ·exact absurd ai h
   ·exact h
  ·intro h d ah n aD;by_cases ai:n.k=3
   ·exact .inr (h d ah n aD ai)
   ·exact .inl ai
 have aB:(List.range g.ds.length).all (p' g.ds)=true ↔ ∀ i,i<g.ds.length->p' g.ds i=true:=by simp[fV]
 rw[<-eI,<-aB];unfold MW;by_cases aa:g.n=0
 ·rw[iQ (by omega),cp];exact⟨(λh=>by cases h),(λh=>absurd aa h.1)⟩
 ·rw[fo (by omega),cb];cases n' g.ds with
  |false=>exact⟨(λh=>by cases h),(λh=>by cases h.2.1)⟩| true=>
  cases pX ay g with
  |true=>exact⟨(λh=>by cases h),(λh=>by cases h.2.2.1)⟩| false=>
  cases(List.range g.ds.length).all (p' g.ds)with
  |false=>exact⟨(λh=>by cases h),(λh=>by cases h.2.2.2.1)⟩| true=>
  cases(g.ds.all λd=>d.t.ns.all (yX g.ds))with
  |false=>exact⟨(λh=>by cases h),(λh=>by cases h.2.2.2.2)⟩| true=>exact⟨λ_=>⟨aa,rfl,rfl,rfl,rfl⟩,λ_=>rfl⟩
def sf(ds:List a0):cg:=⟨ds,none,ds.length,0⟩
section
variable{α:Type}{z:α}{F:al->List α->α}
def JD{f:al->(Int->α)->α}:∀ (a b:List al) (aZ:List α),fH z f (a++b) aZ=fH z f b (fH z f a aZ)
 |[],b,aZ=>rfl| d::a,b,aZ=>by rw[pN,fH,fH,JD a b]
variable(bs:∀ d l,F (d.ep l)=F d)
include bs
theorem adI{n:Nat}{aZ:List α}(aD:aZ.length=n):∀ (l:List al) (p:List α),(∀ d∈l,∀ k∈d.aq,0<=k)->fH z (λd g=>F d (d.aq.map g)) (l.map λx=>x.ep (x.aq.map λk=>(n:Int)+k)) (aZ++p)=aZ++fH z (λd g=>F d (d.aq.map g)) l p
 |[],p,_=>rfl
 |d::l,p,h=>by
  have e:F (d.ep (d.aq.map λk=>(n:Int)+k)) ((d.aq.map λk=>(n:Int)+k).map λk=>(aZ++p).getD k.toNat z)=F d (d.aq.map λk=>p.getD k.toNat z):=by rw[bs,gh];congr 1;refine fT λk ae=>?_;have aw:=h d (.head _) k ae;show(aZ++p).getD ((n:Int)+k).toNat z=_;rw[bM,lx (by omega),bM];congr 2;omega
  rw[ca,fH,fH];show fH z _ _ (aZ++p++[F (d.ep (d.aq.map λk=>(n:Int)+k)) ((d.aq.map λk=>(n:Int)+k).map λk=>(aZ++p).getD k.toNat z)])=_;rw[e,ec];exact adI aD l _ λx ad=>h x (.tail _ ad)
def A3(z:α)(F:al->List α->α)(l:List al):α:=mv z (λd g=>F d (d.aq.map g)) l ((l.length:Int)-1)
theorem adJ:∀ (fY:List (List al)) (aI:List al×List Int) (vs:List α),(∀ l∈fY,0<l.length/\∀ d∈l,∀ k∈d.aq,0<=k) -> (aI.2.map λk=>(fH z (λd g=>F d (d.aq.map g)) aI.1 []).getD k.toNat z)=vs->(∀ k∈aI.2,0<=k/\k<aI.1.length) -> ((fY.foldl jl aI).2.map λk=>(fH z (λd g=>F d (d.aq.map g)) (fY.foldl jl aI).1 []).getD k.toNat z)=vs++fY.map (A3 z F)
 |[],aI,vs,_,h,_=>by simpa using h
 |l::fY,aI,vs,aA,h,ae=>by
  obtain⟨Bx,lW⟩:=aA l (.head _);have cQ:(fH z (λd g=>F d (d.aq.map g)) aI.1 []).length=aI.1.length:=by rw[PJ];simp
  have bl:fH z (λd g=>F d (d.aq.map g)) (jl aI l).1 []=fH z (λd g=>F d (d.aq.map g)) aI.1 []++fH z (λd g=>F d (d.aq.map g)) l []:=by show fH z _ (aI.1++l.map λx=>x.ep (x.aq.map λk=>(aI.1.length:Int)+k)) []=_;rw[JD];have:=adI bs (z:=z) cQ l [] lW;rwa [dD]at this
  rw[kl];have:=adJ fY (jl aI l) (vs++[A3 z F l]) (λx ad=>aA x (.tail _ ad)) ?_ ?_;·rw[this,ca,ec];rfl
  ·rw[bl];show(aI.2++[((aI.1.length+l.length:Nat):Int)-1]).map _=_;rw[cS,<-h,ca,hH];congr 1
   ·refine fT λk hR=>?_;have:=ae k hR;rw[bM,qu (by rw[cQ];omega),bM]
   ·congr 1;rw[bM,lx (by rw[cQ];omega),cQ];unfold A3 mv;rw[bM];congr 2;omega
  ·intro k hR;rcases cC.1 (show k∈aI.2++[((aI.1.length+l.length:Nat):Int)-1]from hR)with hR | hR
   ·have:=ae k hR;show 0<=k/\k<((aI.1++l.map λx=>x.ep (x.aq.map λk=>(aI.1.length:Int)+k)).length:Nat);rw[cm];omega
   ·rw[eC]at hR;show 0<=k/\k<((aI.1++l.map λx=>x.ep (x.aq.map λk=>(aI.1.length:Int)+k)).length:Nat);rw[cm,bE];omega
theorem aqQ{d:al}(aA:∀ l∈fY,0<l.length/\∀ d∈l,∀ k∈d.aq,0<=k):A3 z F (sX d fY)=F d (fY.map (A3 z F)):=by
 have h:=adJ bs (z:=z) fY ([],[]) [] aA rfl (λk ae=>by cases ae);rw[hX]at h;have cQ:(fH z (λd g=>F d (d.aq.map g)) (fY.foldl jl ([],[])).1 []).length=(fY.foldl jl ([],[])).1.length:=by rw[PJ];simp
 unfold A3 mv sX;rw[JD,fH,fH];show(_++[F (d.ep (fY.foldl jl ([],[])).2) ((fY.foldl jl ([],[])).2.map λk=>(fH z (λd g=>F d (d.aq.map g)) (fY.foldl jl ([],[])).1 []).getD k.toNat z)]).getD _ z=_;rw[h,bs,bM,lx (by rw[cQ];simp)];have di:((((fY.foldl jl ([],[])).1++[d.ep (fY.foldl jl ([],[])).2]).length:Int)-1).toNat-(fH z (λd g=>F d (d.aq.map g)) (fY.foldl jl ([],[])).1 []).length=0:=by rw[cQ];simp
 rw[di];rfl
end
def adK{α:Type}(z:α)(F:al->List α->α)(t:bn):α:=mv z (λd g=>F d (d.aq.map g)) t.ns t.br
def TT(d:al)(l:List Int)(n:Int):fits (d.ep l) n=fits d n:=rfl
structure A4(aI:List al×List Int):Prop where
 fits:∀ d∈aI.1,fits d d.aq.length=true
 aq:∀ j (h:j<aI.1.length),∀ k∈aI.1[j].aq,0<=k/\k<j
 diff:hQ (eM aI.1)
 all:∀ j:Nat,j<aI.1.length->((j:Int)∈eM aI.1 ↔ (j:Int) ∉ aI.2)
 cj:hQ aI.2
 JE:∀ k∈aI.2,0<=k/\k<aI.1.length
def Nr{l:List al}(h:∀ j (h:j<l.length),∀ k∈l[j].aq,0<=k/\k<j):∀ k∈eM l,0<=k/\k<l.length:=λk ae=>by obtain⟨d,ah,jQ⟩:=hc.1 ae;obtain⟨j,ak,rfl⟩:=hM ah;have:=h j ak k jQ;omega
def aqR(n:Int)(l:List al):eM (l.map λx=>x.ep (x.aq.map λk=>n+k))=(eM l).map λk=>n+k:=by unfold eM;rw[yt,AT];rfl
def A4.step{aI:List al×List Int}(h:A4 aI){l:List al}(aA:hf (jD l)):A4 (jl aI l):=by
 have pQ:=aA.br;have lW:=Nr (l:=l) aA.aq;have FQ:=Nr h.aq;have eI:eM (jl aI l).1=eM aI.1++(eM l).map λk=>(aI.1.length:Int)+k:=by show eM (aI.1++_)=_;rw[<-aqR];unfold eM;rw[fX]
 have cQ:(jl aI l).1.length=aI.1.length+l.length:=by show(aI.1++_).length=_;rw[cm,bE]
 have jQ:(jl aI l).2=aI.2++[((aI.1.length+l.length:Nat):Int)-1]:=rfl;have tD:(jD l).br=(l.length:Int)-1:=rfl;have sI:(jD l).ns=l:=rfl;rw[tD,sI]at pQ;refine⟨λd ah=>?_,λj ak k ae=>?_,?_,λj ak=>?_,?_,λk ae=>?_⟩
 ·rcases cC.1 (show d∈aI.1++l.map (λx=>x.ep (x.aq.map λk=>(aI.1.length:Int)+k))from ah)with ah | ah
  ·exact h.fits d ah
  ·obtain⟨x,ad,rfl⟩:=c0.1 ah;obtain⟨j,ak,rfl⟩:=hM ad;have:=aA.fits j ak;rw[TT];show Go.V.fits l[j] (((l[j].aq.map λk=>(aI.1.length:Int)+k).length:Nat):Int)=true;rw[bE];exact this
 ·have ak:j<(aI.1++l.map (λx=>x.ep (x.aq.map λk=>(aI.1.length:Int)+k))).length:=ak;have hR:k∈((aI.1++l.map (λx=>x.ep (x.aq.map λk=>(aI.1.length:Int)+k)))[j]'ak).aq:=ae;have nn:j<aI.1.length+l.length:=by rw[<-cQ];exact ak
  by_cases gn:j<aI.1.length;·rw[yo gn]at hR;exact h.aq j gn k hR
  ·rw[Cg (by omega),gg]at hR;obtain⟨q,aM,rfl⟩:=c0.1 (show k∈(l[j-aI.1.length]'(by omega)).aq.map (λk=>(aI.1.length:Int)+k)from hR);have:=aA.aq (j-aI.1.length) (by show _<l.length;omega) q aM;omega
 ·rw[eI];refine rV.2 ⟨h.diff,Cj.2 ((show hQ (eM l)from aA.diff).imp λbD e=>bD (by omega)),λx ad y aE e=>?_⟩;obtain⟨q,aM,rfl⟩:=c0.1 aE;have aa:=FQ x ad;have ab:=lW q aM;omega
 ·rw[eI,jQ,cC,cC,eC,c0];rw[cQ]at ak;by_cases gn:j<aI.1.length
  ·have a6:=h.all j gn;constructor
   ·rintro(aa | ⟨q,aM,e⟩)
    ·rintro(ab | ab)
     ·exact a6.1 aa ab
     ·omega
    ·have:=lW q aM;omega
   ·intro aa;exact .inl (a6.2 λab=>aa (.inl ab))
  ·have a6:=aA.all (j-aI.1.length) (by show _<l.length;omega);rw[tD,sI]at a6;constructor
   ·rintro(aa | ⟨q,aM,e⟩)
    ·have:=FQ _ aa;omega
    ·rintro(ab | ab)
     ·have:=h.JE _ ab;omega
     ·have a7:q=((j-aI.1.length:Nat):Int):=by omega
      rw[a7]at aM;exact a6.1 aM (by omega)
   ·intro aa;refine .inr ⟨((j-aI.1.length:Nat):Int),a6.2 λe=>aa (.inr (by omega)),by omega⟩
 ·rw[jQ];refine rV.2 ⟨h.cj,by simp,λx ad y aE e=>?_⟩;rw[eC]at aE;have:=h.JE x ad;omega
 ·rw[jQ]at ae;rw[cQ];rcases cC.1 ae with ae | ae
  ·have:=h.JE k ae;omega
  ·rw[eC]at ae;omega
def A4.adL:∀ (fY:List (List al)) (aI:List al×List Int),A4 aI->(∀ l∈fY,hf (jD l))->A4 (fY.foldl jl aI)/\(fY.foldl jl aI).2.length=aI.2.length+fY.length
 |[],aI,h,_=>⟨h,rfl⟩| l::fY,aI,h,aA=>by obtain⟨aa,ab⟩:=A4.adL fY (jl aI l) (h.step (aA l (.head _))) λx ad=>aA x (.tail _ ad);refine⟨aa,?_⟩;rw[kl,ab];show(aI.2++[_]).length+_=_;simp;omega
def aqS{d:al}(aA:∀ l∈fY,hf (jD l))(aB:fits d fY.length=true):hf (jD (sX d fY)):=by
 obtain⟨h,cW⟩:=A4.adL fY ([],[]) ⟨(λd ah=>by cases ah),(λj h=>absurd h (ng _)),.nil,(λj h=>absurd h (ng _)),.nil,(λk ae=>by cases ae)⟩ aA;have FQ:=Nr h.aq;unfold sX;generalize fY.foldl jl ([],[])=aI at h cW FQ;have eI:eM (aI.1++[d.ep aI.2])=eM aI.1++aI.2:=by unfold eM;rw[fX];simp[al.ep]
 have cQ:(aI.1++[d.ep aI.2]).length=aI.1.length+1:=by simp
 refine⟨?_,λj ak=>?_,λj ak k ae=>?_,?_,λj ak=>?_⟩
 ·show 0<=(((aI.1++[d.ep aI.2]).length:Nat):Int)-1/\(((aI.1++[d.ep aI.2]).length:Nat):Int)-1<((aI.1++[d.ep aI.2]).length:Nat);omega
 ·have ak:j<(aI.1++[d.ep aI.2]).length:=ak;show fits ((aI.1++[d.ep aI.2])[j]'ak) ((((aI.1++[d.ep aI.2])[j]'ak).aq.length:Nat):Int)=true;rcases cC.1 (bJ ak)with hm | hm
  ·exact h.fits _ hm
  ·rw[eC.1 hm,TT];show fits d (aI.2.length:Nat)=true;rw[cW];simpa using aB
 ·have ak:j<(aI.1++[d.ep aI.2]).length:=ak;have ae:k∈((aI.1++[d.ep aI.2])[j]'ak).aq:=ae;by_cases gn:j<aI.1.length
  ·rw[yo gn]at ae;exact h.aq j gn k ae
  ·have jM:j<(aI.1++[d.ep aI.2]).length:=ak;have e:j=aI.1.length:=by omega
   subst e;rw[Cg (by omega)]at ae;have ae:k∈aI.2:=by simpa[al.ep]using ae
   have:=h.JE k ae;omega
 ·show hQ (eM (aI.1++[d.ep aI.2]));rw[eI];refine rV.2 ⟨h.diff,h.cj,λx ad y aE e=>?_⟩;subst e;have aa:=FQ x ad;obtain⟨q,rfl⟩:=eF aa.1;exact(h.all q (by omega)).1 ad aE
 ·show(j:Int)∈eM (aI.1++[d.ep aI.2]) ↔ (j:Int)≠(((aI.1++[d.ep aI.2]).length:Nat):Int)-1;have ak:j<(aI.1++[d.ep aI.2]).length:=ak;rw[eI,cC,cQ];by_cases gn:j<aI.1.length
  ·have a6:=h.all j gn;constructor
   ·intro _;omega
   ·intro _;by_cases hm:(j:Int)∈aI.2
    ·exact .inr hm
    ·exact .inl (a6.2 hm)
  ·constructor
   ·rintro(aa | aa)
    ·have:=FQ _ aa;omega
    ·have:=h.JE _ aa;omega
   ·intro bD;omega
def adM:∀ (fY:List (List al)) (aI:List al×List Int),(fY.foldl jl aI).1.length=aI.1.length+(fY.map List.length).sum
 |[],aI=>by simp
 |l::fY,aI=>by rw[kl,adM fY];show(aI.1++_).length+_=_;rw[cm,bE,ca,hz];omega
def aqT(d:al)(fY:List (List al)):(sX d fY).length=(fY.map List.length).sum+1:=by unfold sX;rw[cm,adM];simp
def Ns{α:Type}{f g:α->Nat}:∀ {l:List α},(∀ x∈l,f x<=g x)->(l.map f).sum<=(l.map g).sum
 |[],_=>b2 _| x::l,h=>by have aa:=h x (.head _);have ab:=Ns (l:=l) λy aE=>h y (.tail _ aE);simp only[ca,hz];omega
def adN{x:Nat}:∀ {l:List Nat},x∈l->x<=l.sum
 |y::l,h=>by
  rw[hz];rcases eA.1 h with rfl | h;·omega
  ·have:=adN h;omega
abbrev xw:=(aR×List Nat)×Bool
def aqU:xw:=((ch,[]),false)
def uu(pl:List (ByteArray×Int))(F:List aR)(t:bn):xw:=adK aqU (h4 pl F) t
def adO(pl:List (ByteArray×Int))(F:List aR)(t:bn):uu pl F t=pi pl F t.ns t.br:=rfl
def aqV{pl:List (ByteArray×Int)}(af:right t=true):(uu pl F t).1.1=(ev pl F t.ns []).getD t.br.toNat ch:=by obtain⟨gG,hd⟩:=lZ af;obtain⟨r,en⟩:=eF gG;rw[adO,en,M4 af (r+1) r (by omega) (by omega),Q8]
def aqW{a b:Bool}(h:(a||b)=true):a=true\/b=true:=by cases a<;>simp_all
structure C9{α:Type}(F:al->List α->α):Prop where
 aq:∀ d l,F (d.ep l)=F d
 one:∀ d x,d.k=4\/d.k=5->F d [x]=x
 nest:∀ d d' xs ys fg,d.k=4\/d.k=5->d'.k=d.k->F d (xs++F d' ys::fg)=F d (xs++(ys++fg))
 drop:∀ d d' xs fg,d.k=4->d'.k=0->F d (xs++F d' []::fg)=F d (xs++fg)
 adP:∀ d d',d.k=4->d'.k=0->F d []=F d' []
 adQ:∀ d d',d.k=5->d'.k=1->d'.cz=0->d'.s1=0->d'.s2=0->d'.cV=0->F d []=F d' []
def JF(xs ys:List (aR×List Nat)):ke (xs++ys)=ke xs++bif xs.all (·.1.z)then ke ys else []:=by
 induction xs with
 |nil=>rfl
 |cons x xs aN=>
  rw[pN,ke,ke,aN,xN];cases x.1.z<;>simp
def aqX(ks:List aR)(aI:aR×Bool):(ks.foldl kd aI).1.z=(aI.1.z&&ks.all (·.z)):=by
 induction ks generalizing aI with
 |nil=>simp| cons k ks aN=>rw[kl,aN,xN];simp[kd,Bool.and_assoc]
def adR(ks:List aR)(aI:aR×Bool):(ks.foldl kd aI).1.s=(aI.1.s||ks.any (·.s)):=by
 induction ks generalizing aI with
 |nil=>simp| cons k ks aN=>rw[kl,aN,List.any_cons];simp[kd,Bool.or_assoc]
def JG(ks:List aR)(aI:aR×Bool):(ks.foldl kd aI).2=(aI.2&&ks.all (·.hO)):=by
 induction ks generalizing aI with
 |nil=>simp| cons k ks aN=>rw[kl,aN,xN];simp[kd,Bool.and_assoc]
def aqY(ks:List aR):∀ aI:aR×Bool,(ks.foldl kd aI).1.f=(aI.1.f||(aI.2&&(hP ks).1.f)):=by
 unfold hP
 induction ks with
 |nil=>intro aI;simp
 |cons k ks aN=>
  intro aI;rw[kl,kl,aN,aN (kd _ k)];simp only[kd];cases aI.1.f<;>cases aI.2<;>cases k.f<;>cases k.hO<;>simp
def JH(ks:List aR):(hB ks).z=ks.all (·.z):=by show(hP ks).1.z=_;unfold hP;rw[aqX,qJ]
def TU(ks:List aR):(hB ks).hO=ks.all (·.hO):=by
 have aa:=JH ks;have ab:(hB ks).s=(ks.any (·.s)&&ks.all (·.hO)):=by show((hP ks).1.s&&(hP ks).2)=_;unfold hP;rw[adR,JG,uT,qJ]
 have ai:(hB ks).hO=((hB ks).z||(hB ks).s):=rfl;rw[ai,aa,ab];clear aa ab ai
 induction ks with
 |nil=>rfl
 |cons k ks aN=>
  rw[xN,List.any_cons,xN];have h:k.hO=(k.z||k.s):=rfl;rw[h,<-aN];cases k.z<;>cases k.s<;>cases ks.all (·.z)<;>cases ks.any (·.s)<;>simp_all
def adS(xs ys fg:List aR):hB (xs++hB ys::fg)=hB (xs++(ys++fg)):=by
 have bd:(hB (xs++hB ys::fg)).z=(hB (xs++(ys++fg))).z:=by rw[JH,JH];simp[JH]
 have hu:(hP (xs++hB ys::fg)).2=(hP (xs++(ys++fg))).2:=by unfold hP;rw[JG,JG];simp[TU]
 have aB:(hB (xs++hB ys::fg)).f=(hB (xs++(ys++fg))).f:=by
  show(hP _).1.f=(hP _).1.f;have e:∀ a b:List aR,(hP (a++b)).1.f=((hP a).1.f||((hP a).2&&(hP b).1.f)):=by intro a b;show((a++b).foldl kd (⟨true,false,false⟩,true)).1.f=_;rw[tT,aqY];rfl
  have aK:∀ (y:aR) (b:List aR),(hP (y::b)).1.f=(y.f||(y.hO&&(hP b).1.f)):=by intro y b;have:=e [y] b;rw[qO]at this;rw[this];show((false||(true&&y.f))||((true&&y.hO)&&_))=_;rw[uT,qJ,qJ]
  rw[e,e xs,aK,e ys,TU];have a7:(hP ys).2=ys.all (·.hO):=by unfold hP;rw[JG,qJ]
  rw[a7];rfl
 have av:(hB (xs++hB ys::fg)).s=(hB (xs++(ys++fg))).s:=by
  have aa:∀ ks,(hB ks).s=(ks.any (·.s)&&ks.all (·.hO)):=by intro ks;show((hP ks).1.s&&(hP ks).2)=_;unfold hP;rw[adR,JG,uT,qJ]
  rw[aa,aa];simp only[List.any_append,List.any_cons,Hi,xN,TU,aa];cases xs.any (·.s)<;>cases ys.any (·.s)<;>cases fg.any (·.s)<;>cases xs.all (·.hO)<;>cases ys.all (·.hO)<;>cases fg.all (·.hO)<;>rfl
 cases a6:hB (xs++hB ys::fg);cases ag:hB (xs++(ys++fg));rw[a6,ag]at bd aB av;simp only at bd aB av;rw[bd,aB,av]
def aqZ(ks:List aR):∀ f:aR,ks.foldl o2 f=o2 f (pZ ks):=by
 unfold pZ
 induction ks with
 |nil=>intro f;simp[o2]
 |cons k ks aN=>
  intro f;rw[kl,kl,aN,aN (o2 _ k)];simp only[o2,aR.mk.injEq];refine⟨?_,?_,?_⟩<;>cases f.z<;>cases f.s<;>cases f.f<;>cases k.z<;>cases k.s<;>cases k.f<;>simp
def aq0(xs ys fg:List aR):pZ (xs++pZ ys::fg)=pZ (xs++(ys++fg)):=by show(xs++pZ ys::fg).foldl o2 _=(xs++(ys++fg)).foldl o2 _;rw[tT,tT,tT,kl,<-aqZ ys]
def aq1(x:aR):hB [x]=x:=by cases x with | mk z s f=>cases z<;>cases s<;>cases f<;>rfl
def aq2(x:aR):pZ [x]=x:=by cases x with | mk z s f=>cases z<;>cases s<;>cases f<;>rfl
def aq3{d:al}(h:d.k=4)(ks:List aR):gD d ks=hB ks:=by unfold gD;simp[h]
def aq4{d:al}(h:d.k=5)(ks:List aR):gD d ks=pZ ks:=by unfold gD;simp[h]
def A5{pl:List (ByteArray×Int)}{d:al}(h:d.k=4)(xs:List xw):h4 pl F d xs=((hB (xs.map (·.1.1)),ke (xs.map (·.1))),xs.any (·.2)):=by unfold h4 r3 lA y0;simp only[aq3 h,h,gh];simp;rfl
def FR{pl:List (ByteArray×Int)}{d:al}(h:d.k=5)(xs:List xw):h4 pl F d xs=((pZ (xs.map (·.1.1)),(xs.map (·.1)).flatMap (·.2)),xs.any (·.2)):=by unfold h4 r3 lA y0;simp only[aq4 h,h,gh];simp;rfl
def adT{pl:List (ByteArray×Int)}{d:al}(h:d.k=0):h4 pl F d []=((⟨true,false,false⟩,[]),false):=by unfold h4 r3 lA y0 gD;simp[h]
def aq5{pl:List (ByteArray×Int)}{d:al}(h:d.k=1)(aw:d.kT=true):h4 pl F d []=((⟨false,false,true⟩,[]),false):=by unfold h4 r3 lA y0 gD;simp[h,aw]
def TV(pl:List (ByteArray×Int))(F:List aR):C9 (h4 pl F):=by
 refine⟨λd l=>rfl,?_,?_,?_,?_,?_⟩
 ·rintro d x (h | h)
  ·rw[A5 h];simp[aq1,ke]
  ·rw[FR h];simp[aq2]
 ·rintro d d' xs ys fg (h | h) bj
  ·rw[h]at bj;rw[A5 h,A5 h,A5 bj];have e:(xs++((hB (ys.map (·.1.1)),ke (ys.map (·.1))),ys.any (·.2))::fg).map (·.1.1)=xs.map (·.1.1)++hB (ys.map (·.1.1))::fg.map (·.1.1):=by simp
   rw[e,adS];have a7:ke ((xs++((hB (ys.map (·.1.1)),ke (ys.map (·.1))),ys.any (·.2))::fg).map (·.1))=ke ((xs++(ys++fg)).map (·.1)):=by rw[cS,ca,cS,cS,JF,JF (xs.map _),JF (ys.map _),ke];rw[JH];simp only[Lt];rfl
   rw[a7];simp
  ·rw[h]at bj;rw[FR h,FR h,FR bj];have e:(xs++((pZ (ys.map (·.1.1)),(ys.map (·.1)).flatMap (·.2)),ys.any (·.2))::fg).map (·.1.1)=xs.map (·.1.1)++pZ (ys.map (·.1.1))::fg.map (·.1.1):=by simp
   rw[e,aq0];simp
 ·rintro d d' xs fg h bj;rw[A5 h,A5 h,adT bj];have e:(xs++((⟨true,false,false⟩,[]),false)::fg:List xw).map (·.1.1)=xs.map (·.1.1)++hB []::fg.map (·.1.1):=by simp;rfl
  rw[e,adS];have a7:ke ((xs++((⟨true,false,false⟩,[]),false)::fg:List xw).map (·.1))=ke ((xs++fg).map (·.1)):=by rw[cS,ca,cS,JF,JF,ke];rfl
  rw[a7];simp
 ·rintro d d' h bj;rw[A5 h,adT bj];rfl
 ·rintro d d' h bj aw aa ab ai;rw[FR h,aq5 bj (by unfold al.kT;simp[aw,aa,ab,ai])];rfl
inductive aT where
 |mk:Nat->List aT->aT
namespace aT
def bw:aT->Nat
 |mk k _=>k
def sub:aT->List aT
 |mk _ ks=>ks
mutual
def cZ:aT->List Nat
 |mk k ks=>Nt ks++[k]
def Nt:List aT->List Nat
 |[]=>[]| a::l=>cZ a++Nt l
end
def adU:∀ l:List aT,Nt l=l.flatMap cZ
 |[]=>rfl| a::l=>by rw[Nt,adU l];rfl
def mK(k:Nat)(ks:List aT):cZ (mk k ks)=ks.flatMap cZ++[k]:=by rw[cZ,adU]
def ind{P:aT->Prop}(h:∀ k ks,(∀ c∈ks,P c)->P (mk k ks)):∀ T,P T
 |mk k ks=>h k ks (λc ao=>ind h c)
def FT:∀ T:aT,T.bw∈T.cZ
 |mk k ks=>by rw[mK];exact sF _ (.head _)
end aT
inductive cF(ns:List al):aT->Prop
 |mk {k:Nat} {ks:List aT}:k<ns.length->(nodeAt ns k).aq=ks.map (λc=>(c.bw:Int))->(∀ c∈ks,cF ns c)->cF ns (.mk k ks)
def sg(ns:List al):Prop:=∀ j (h:j<ns.length),∀ k∈ns[j].aq,0<=k/\k<j
def cF.inv{ns:List al}{k:Nat}{ks:List aT}(h:cF ns (.mk k ks)):k<ns.length/\(nodeAt ns k).aq=ks.map (λc=>(c.bw:Int))/\∀ c∈ks,cF ns c:=by
 cases h with
 |mk aa ab ai=>exact⟨aa,ab,ai⟩
def cF.np{ns:List al}:∀ {T:aT},cF ns T->T.bw<ns.length
 | .mk k ks,h=>h.inv.1
def sg.node{ns:List al}(ae:sg ns){j:Nat}(ak:j<ns.length){k:Int}(h:k∈(nodeAt ns j).aq):0<=k/\k<j:=by rw[gy ak]at h;exact ae j ak k h
def JI{α β:Type}{R:α->β->Prop}:∀ {l:List α},(∀ x∈l,∃ y,R x y)->∃ m:List β,m.length=l.length/\∀ i (h:i<l.length) (bj:i<m.length),R l[i] m[i]
 |[],_=>⟨[],rfl,λi h=>absurd h (ng _)⟩
 |x::l,h=>by
  obtain⟨y,aE⟩:=h x (.head _);obtain⟨m,hm,af⟩:=JI λa a6=>h a (.tail _ a6);refine⟨y::m,by simp[hm],λi hi cG=>?_⟩;cases i with
  |zero=>exact aE| succ i=>exact af i (by simpa using hi) (by simpa using cG)
def cF.ex{ns:List al}(ae:sg ns):∀ k,k<ns.length->∃ T:aT,T.bw=k/\cF ns T:=by
 intro k
 induction k using Nat.strongRecOn with
 |_ k aN=>
  intro aA;obtain⟨ks,aa,ab⟩:=JI (R:=λ(x:Int) (T:aT)=>(T.bw:Int)=x/\cF ns T) (l:=(nodeAt ns k).aq) λx ad=>by obtain⟨aw,aa⟩:=ae.node aA ad;obtain⟨T,bl,dI⟩:=aN x.toNat (by omega) (by omega);exact⟨T,by omega,dI⟩
  refine⟨.mk k ks,rfl,.mk aA ?_ λc ao=>?_⟩;·refine oH (by simp[aa]) λi hi cG=>?_;rw[gg];exact(ab i hi (by omega)).1.symm
  ·obtain⟨i,hi,rfl⟩:=hM ao;exact(ab i (by omega) hi).2
def cF.aq6{ns:List al}:∀ {S:aT},cF ns S->∀ {T:aT},cF ns T->S.bw=T.bw->S=T:=by
 intro S
 induction S using aT.ind with
 |h k ks aN=>
  intro cv T bl e;cases T with
  |mk fu JJ=>
  obtain rfl:k=fu:=e;obtain⟨-,ab,ai⟩:=cv.inv;obtain⟨-,m4,sV⟩:=bl.inv;rw[ab]at m4;have aA:ks.length=JJ.length:=by simpa using congrArg List.length m4
  congr 1;refine oH aA λi hi cG=>?_;have aL:(ks.map (λc=>(c.bw:Int)))[i]?=(JJ.map (λc=>(c.bw:Int)))[i]?:=by rw[m4]
  rw[ju,ju,dt hi,dt cG]at aL;have bq:(ks[i].bw:Int)=JJ[i].bw:=e2 aL;exact aN _ (bJ hi) (ai _ (bJ hi)) (sV _ (bJ cG)) (by omega)
def cF.lt{ns:List al}:∀ {T:aT},cF ns T->∀ x∈T.cZ,x<ns.length:=by
 intro T
 induction T using aT.ind with
 |h k ks aN=>
  intro h x ad;obtain⟨aa,-,ai⟩:=h.inv;rw[aT.mK]at ad;rcases cC.1 ad with ad | ad;·obtain⟨c,ao,ad⟩:=hc.1 ad;exact aN c ao (ai c ao) x ad
  ·rw[eC.1 ad];exact aa
def cF.TW{ns:List al}(ae:sg ns){k:Nat}{ks:List aT}(h:cF ns (.mk k ks)){c:aT}(ao:c∈ks):c.bw<k:=by
 obtain⟨aa,ab,ai⟩:=h.inv;have:(c.bw:Int)∈(nodeAt ns k).aq:=by rw[ab];exact c0.2 ⟨c,ao,rfl⟩
 have:=ae.node aa this;omega
def cF.le{ns:List al}(ae:sg ns):∀ {T:aT},cF ns T->∀ x∈T.cZ,x<=T.bw:=by
 intro T
 induction T using aT.ind with
 |h k ks aN=>
  intro h x ad;obtain⟨aa,-,ai⟩:=h.inv;rw[aT.mK]at ad;rcases cC.1 ad with ad | ad;·obtain⟨c,ao,ad⟩:=hc.1 ad;have aL:=aN c ao (ai c ao) x ad;have bq:=h.TW ae ao;show x<=k;omega
  ·rw[eC.1 ad];exact b2 _
def cF.congr{ns iX:List al}:∀ {T:aT},cF ns T->(∀ x∈T.cZ,x<iX.length/\(nodeAt iX x).aq=(nodeAt ns x).aq)->cF iX T:=by
 intro T
 induction T using aT.ind with
 |h k ks aN=>intro h ad;obtain⟨aa,ab,ai⟩:=h.inv;have e0:=ad k (aT.FT (.mk k ks));refine .mk e0.1 (by rw[e0.2,ab]) λc ao=>aN c ao (ai c ao) λx aq7=>ad x ?_;rw[aT.mK];exact im _ (hc.2 ⟨c,ao,aq7⟩)
def adV{ns m:List al}{k:Nat}(ae:k<ns.length):nodeAt (ns++m) k=nodeAt ns k:=by unfold nodeAt;rw[bM,bM,qu ae]
def FU{ns:List al}{d:al}:nodeAt (ns++[d]) ns.length=d:=by unfold nodeAt;rw[bM,lx (b2 _),mD];rfl
def cF.app{ns:List al}{T:aT}(h:cF ns T)(m:List al):cF (ns++m) T:=h.congr λx ad=>by have:=h.lt x ad;exact⟨by rw[cm];omega,by rw[adV this]⟩
def aq8{ns:List al}(ah:hQ (eM ns)){i j:Nat}(hi:i<ns.length)(ak:j<ns.length)(bD:i≠j){k:Int}(aa:k∈(nodeAt ns i).aq)(ab:k∈(nodeAt ns j).aq):False:=by
 rw[gy hi]at aa;rw[gy ak]at ab;have:=(Em.1 ah).2;rw[Qa]at this;rcases Nat.lt_or_gt_of_ne bD with h | h
 ·exact this i j hi ak h k aa k ab rfl
 ·exact this j i ak hi h k ab k aa rfl
def adW{ns:List al}(ah:hQ (eM ns)){j:Nat}(ak:j<ns.length):hQ (nodeAt ns j).aq:=by rw[gy ak];exact(Em.1 ah).1 _ (bJ ak)
def adX{α:Type}(f g:α->Nat):∀ l:List α,(l.map λx=>f x+g x).sum=(l.map f).sum+(l.map g).sum
 |[]=>rfl| a::l=>by simp only[ca,hz,adX f g l];omega
def adY{α β:Type}(g:β->Nat)(f:α->List β):∀ l:List α,((l.flatMap f).map g).sum=(l.map λa=>((f a).map g).sum).sum
 |[]=>rfl| a::l=>by rw[jf,cS,pO,adY g f l];rfl
def adZ{α:Type}(x:Nat)(f:α->List Nat):∀ l:List α,(l.flatMap f).count x=(l.map λa=>(f a).count x).sum
 |[]=>rfl| a::l=>by rw[jf,List.count_append,adZ x f l];rfl
def xx(ns:List al)(x y:Nat):Nat:=(nodeAt ns y).aq.count (x:Int)
def ad0(x:Nat):∀ ks:List aT,(ks.map (λc=>(c.bw:Int))).count (x:Int)=(ks.map λc=>if c.bw=x then 1 else 0).sum
 |[]=>rfl
 |c::ks=>by
  rw[ca,List.count_cons,ad0 x ks,ca,hz];by_cases e:c.bw=x;·subst e;simp;omega
  ·have:¬ ((c.bw:Int)=x):=by omega
   simp[e,this]
def cF.count{ns:List al}(x:Nat):∀ {T:aT},cF ns T->T.cZ.count x=(if T.bw=x then 1 else 0)+(T.cZ.map (xx ns x)).sum:=by
 intro T
 induction T using aT.ind with
 |h k ks aN=>
  intro h;obtain⟨aa,ab,ai⟩:=h.inv;have aK:(ks.map λc=>c.cZ.count x)=ks.map λc=>(if c.bw=x then 1 else 0)+(c.cZ.map (xx ns x)).sum:=fT λc ao=>aN c ao (ai c ao);have a7:xx ns x k=(ks.map λc=>if c.bw=x then 1 else 0).sum:=by unfold xx;rw[ab,ad0]
  rw[aT.mK,List.count_append,adZ,aK,adX,cS,pO,adY,s',List.sum_singleton,a7,List.count_singleton];show _+(if k == x then 1 else 0)=(if k=x then 1 else 0)+_;by_cases e:k=x;·simp[e];omega
  ·simp[e];omega
def cF.count_le{ns:List al}(ae:sg ns)(ah:hQ (eM ns)){T:aT}(h:cF ns T):∀ (m x:Nat),ns.length-x<=m->T.cZ.count x<=1
 |0,x,hm=>by
  have:x ∉ T.cZ:=λad=>by have:=h.lt x ad;omega
  rw[Tb this];omega
 |m+1,x,hm=>by
  rw[h.count x];by_cases aH:∃ p∈T.cZ,(x:Int)∈(nodeAt ns p).aq
  ·obtain⟨p,ad1,yh⟩:=aH;have rQ:=h.lt p ad1;have ayg:=h.le ae p ad1;have ayh:=ae.node rQ yh;have e:T.cZ.map (xx ns x)=T.cZ.map λy=>if y=p then 1 else 0:=fT λy aE=>by
    by_cases e:y=p;·subst e;rw[bT rfl];unfold xx;exact Nat.le_antisymm (List.nodup_iff_count.1 (adW ah rQ) _) (List.count_pos_iff.2 yh)
    ·rw[bP e];unfold xx;exact Tb λtt=>aq8 ah (h.lt y aE) rQ e tt yh
   have a7:∀ l:List Nat,(l.map λy=>if y=p then 1 else 0).sum=l.count p:=λl=>by
    induction l with
    |nil=>rfl
    |cons a l aN=>
     rw[ca,hz,aN,List.count_cons];by_cases e:a=p;·simp[e];omega
     ·simp[e]
   rw[e,a7,bP (by omega),dp];exact cF.count_le ae ah h m p (by omega)
  ·have e:(T.cZ.map (xx ns x)).sum=0:=by
    have:∀ l:List Nat,(∀ y∈l,(x:Int) ∉ (nodeAt ns y).aq)->(l.map (xx ns x)).sum=0:=λl=>by
     induction l with
     |nil=>intro _;rfl| cons a l aN=>intro aA;rw[ca,hz,aN λy aE=>aA y (.tail _ aE)];unfold xx;rw[Tb (aA a (.head _))]
    exact this _ λy aE QO=>aH ⟨y,aE,QO⟩
   rw[e];split<;>omega
def cF.nodup{ns:List al}(ae:sg ns)(ah:hQ (eM ns)){T:aT}(h:cF ns T):T.cZ.Nodup:=
 List.nodup_iff_count.2 λx=>h.count_le ae ah (ns.length-x) x (b2 _)
def Nu(h:l.Nodup)(aA:∀ x∈l,x<n):l.length<=n:=by have ab:=List.Nodup.length_le_of_subset h (l₂:=List.range n) λx ad=>j0.2 (aA x ad);rwa [w2]at ab
end Go.V
