/- Part 7 of what the proofs of this seat share: the executor, data in memory, walks.
-/
import Derived.Test.YthnoknnlcnikbaaGreatDoorK6
import Derived.Test.YthnoknnlcnikbaaGreatDoorK4
import Derived.Test.YthnoknnlcnikbaaGreatDoorK5
import Derived.Lib.TrailingZeros
set_option linter.all false
set_option maxHeartbeats 8000000
set_option maxRecDepth 100000
namespace Go.V
open Go Go.Proofs
def xb:=@List.mem_or_eq_of_mem_set
def xd:=@List.sublist_append_left
def sZ:=@List.map_singleton
def AV:=@List.mem_of_mem_drop
def Dg:=@List.length_reverse
def AW:=@List.map_flatMap
def S6:=@List.count_eq_zero_of_not_mem
def acd:=@List.getElem_concat_length
def S7:=@decide_eq_true_iff
def S8:=@List.idxOf_append
def S9:=@List.mem_reverse
variable{I:aH}{M N M0:List aE}{w:World}{f b e n size Jf:Nat}{s:dV}{az:List Int}{g:cU}{os:aR}{l fH:List Nat}{F:List aW}{xs vs:List Value}{t:bk}{A:Nat->List Nat}{u:Value}{r:Int×Int}{text:List UInt8}{a b0:Option Addr}{α:Type}{L:List al}{fX:List (List al)}
def eM.yW(h:eM I M w)(aJ:M.Perm N):eM I N w:=
 ⟨h.i,λx ab=>h.m x (aJ.mem_iff.2 ab),λx ab=>h.d x (aJ.mem_iff.2 ab),((aJ.map (·.num)).nodup_iff).1 h.b3⟩
def Kept.yW{I':aH}{M' yX:List aE}{w':World}(h:Kept I M w I' M' w')(aJ:M.Perm N)(yq:M'.Perm yX):Kept I N w I' yX w':=
 ⟨h.le,h.uE,λx ab=>by
  rcases h.v5 x (yq.mem_iff.2 ab)with⟨y,aC,e⟩ | aa;·exact .inl ⟨y,aJ.mem_iff.1 aC,e⟩
  ·exact .inr aa,λb ag aC=>h.dO b ag λy tm=>aC y (aJ.mem_iff.1 tm),h.out,h.sz⟩
def Spec.yW{P:Program}{args:List Value}{p q:Value->aH->List aE->Prop}(aJ:M.Perm N)(aL:∀ v I' M',p v I' M'->∃ yX,M'.Perm yX/\q v I' yX)(h:Spec P f args I M p):Spec P f args I N q:=by
 rcases h with⟨aa,ad⟩ | ad
 ·refine .inl ⟨aa,λw hw=>(ad w (hw.yW aJ.symm)).mono ?_⟩;rintro e w'⟨v,I',M',ak,aK,bz,cu⟩;obtain⟨yX,ep,fa⟩:=aL _ _ _ aK;exact⟨v,I',yX,ak,fa,bz.yW ep,cu.yW aJ ep⟩
 ·refine .inr λw hw=>?_;obtain⟨v,w',I',M',ak,aK,bz,cu⟩:=ad w (hw.yW aJ.symm);obtain⟨yX,ep,fa⟩:=aL _ _ _ aK;exact⟨v,w',I',yX,ak,fa,bz.yW ep,cu.yW aJ ep⟩
def dV.loop(s:dV)(i:Nat):dV:=⟨s.n,s.m,s.w ||| lC i⟩
def qU(pl:List (ByteArray×Int))(F:List aW)(s:dV)(i:Nat)(d:a3):dV:=
 bif oo d.t.ns (eB pl F d.t.ns [])then(s.marks i (gv pl F d.t.ns d.t.bC).2).loop i else s.marks i (gv pl F d.t.ns d.t.bC).2
def kE(n:Nat):dV:=⟨n,List.replicate 64 0,0⟩
def j8(pl:List (ByteArray×Int))(F:List aW):Nat->List a3->dV->dV
 |_,[],s=>s| i,d::ds,s=>j8 pl F (i+1) ds (qU pl F s i d)
def qV(ds:List a3)(F:List aW):dV:=j8 (bM ds) F 0 ds (kE ds.length)
def ace(pl:List (ByteArray×Int))(F:List aW)(s:dV)(i:Nat)(d:a3):(qU pl F s i d).m.length=s.m.length:=by
 unfold qU;cases oo d.t.ns (eB pl F d.t.ns [])with
 |true=>exact dV.FI _ s i| false=>exact dV.FI _ s i
def acf(pl:List (ByteArray×Int))(F:List aW):∀ (l:List a3) (i:Nat) (s:dV) (d:a3),j8 pl F i (l++[d]) s=qU pl F (j8 pl F i l s) (i+l.length) d
 |[],i,s,d=>rfl| a::l,i,s,d=>by rw[pN,j8,j8,acf pl F l];congr 1;simp;omega
def S'(pl:List (ByteArray×Int))(F:List aW):∀ (l:List a3) (i:Nat) (s:dV),(j8 pl F i l s).m.length=s.m.length
 |[],i,s=>rfl| d::l,i,s=>by rw[j8,S' pl F l,ace]
def acg(ba:kD b s∈M):cR I M ((⟨b,0,none⟩:Addr).add 65) 1 [o9 s.w]:=by rw[eS _ rfl];refine⟨rfl,_,_,_,.inr ⟨_,ba,rfl,rfl⟩,?_,rfl⟩;show(s.cells.drop (0+65)).take 1=_;rw[dV.cells,du,Ig,Hn (t' _)];rfl
def an8(s:dV)(i:Nat):cj s.cells (0+65) [o9 (s.w ||| lC i)]=(s.loop i).cells:=by unfold dV.cells dV.loop cj;simp only[du,et,hB];rw[rl,sB (t' _),Ig,sT (by simp[t'])];simp
def M3(ba:kD b s∈M):cR I M (⟨b,0,none⟩:Addr) 66 s.cells:=
 ⟨rfl,_,_,_,.inr ⟨_,ba,rfl,rfl⟩,by simp only[qp];exact fC (show s.cells.length<=66 by rw[dV.cL];exact b' _),dV.cL s⟩
def an9(be:e2 I az)(aw:g.ok I)(iy:∀ d∈g.ds,vl d.t)(lI:c6 az g=0->g.n<=64):Spec Tryz.prog 166 [g.val] I [] λv I' M'=>(∀ b o,I b=some o->I' b=some o)/\M'=[] /\
  ((c6 az g≠0/\v=.tuple #[(kE 0).val,.int .i64 (c6 az g)])\/(c6 az g=0/\∃ F,iw g.ds F/\v=.tuple #[(qV g.ds F).val,.int .i64 0])):=by
 refine bV [1,2,6,7] aY Tryz.func166 rfl rfl rfl ?_;intro B ay;have iG:=aw.n;have hA:=aw.a'.cap;refine bW.mk λb1 jF QN=>?_;refine bW.mk λb8 iQ Qj=>?_;refine aO.mk [.slice g.a g.n g.c] (dr (cs:=[.slice g.a g.n g.c]) (k:=0) (n:=1) (.tail _ (.head _)) (by simp)) ?_;refine a8.mk [] [kD b8 (kE 0),⟨b1,.cells #[.slice g.a g.n g.c] 30 (0,0)⟩] _ (.refl _) (akp be aw) ?_;rintro v I1 N -⟨de,⟨hm,rfl,rfl⟩|⟨hm,tV,F,rfl,rfl,bE⟩⟩
 ·refine aX.mk (λ_=>?_) (λh=>absurd h (by simp[hm]));refine ck.rS [] _ _ _ rfl rfl rfl rfl (kE 0).cells rfl ?_;refine aO.mk _ (M3 (.head _)) ?_;exact⟨_,_,.sub (gd _) .refl,de,rfl,.inl ⟨hm,rfl⟩⟩
 refine aX.mk (λh=>absurd h (by simp)) (λ_=>?_);have ba:=LV iG hm;have ach:F.length=g.n:=by rw[bE.len,iG]
 have aoa:=lI hm;refine aO.mk [.slice g.a g.n g.c] (dr (cs:=[.slice g.a g.n g.c]) (k:=0) (n:=1) (.tail _ (.tail _ (.head _))) (by simp)) ?_;refine bW.mk λb6 Lr XO=>?_;refine ck.rS [] _ _ _ rfl rfl rfl rfl (kE g.n).cells rfl ?_;refine aO.mk [.slice g.a g.n g.c] (dr (cs:=[.slice g.a g.n g.c]) (k:=0) (n:=1) (.tail _ (.tail _ (.tail _ (.head _)))) (by simp)) ?_;refine dt.inv (ι:=Nat×aH) (λx=>{ bo:=[(1,.val (ptr b1)),(2,.val (ptr b8)),(4,.val (.slice (some ⟨tV,0,none⟩) g.n g.n)),(6,.val (ptr b6)),(25,.val (.slice g.a g.n g.c)),(26,.val (.int .i64 g.n)),(27,.val (.int .i64 x.1))],cl:=[],cH:=x.2,dd:=[kD b6 (j8 (bM g.ds) F 0 (g.ds.take x.1) (kE g.n)),fR tV F,kD b8 (kE 0),⟨b1,.cells #[.slice g.a g.n g.c] 30 (0,0)⟩] }) (λx=>x.1<=g.n/\∀ b o,I b=some o->x.2 b=some o) (λx=>g.n-x.1) ?_ ?_
 ·exact⟨(0,I1),⟨dp _,de⟩,.refl,rh,.nil⟩
 rintro⟨i,J⟩⟨hi,a5⟩;simp only at hi a5;refine aX.mk (λh=>?_) (λh=>?_)
 rotate_left
 ·have c0:i=g.n:=by have:¬ (i:Int)<(g.n:Int):=dv h;omega
  refine aO.mk _ (M3 (.head _)) ?_;refine ck.rS [kD b6 (j8 (bM g.ds) F 0 (g.ds.take i) (kE g.n)),fR tV F] _ _ _ rfl rfl rfl rfl (j8 (bM g.ds) F 0 (g.ds.take i) (kE g.n)).cells ?_ ?_;·rfl
  refine aO.mk _ (M3 (.tail _ (.tail _ (.head _)))) ?_;refine⟨_,_,.sub (gd _) .refl,a5,rfl,.inr ⟨hm,F,bE,?_⟩⟩;rw[c0,fC (l:=g.ds) (by omega),qV,iG];rfl
 have aZ:i<g.n:=by have:(i:Int)<(g.n:Int):=cJ h;omega
 have cy:i<g.ds.length:=by omega
 have Jg:=aw.mono a5;have aob:=be.mono a5;obtain⟨aM,bB,bp⟩:=Jg.a'.row a3.cL aZ cy;have g9:=bJ cy;have ah:=Jg.ds _ g9;have af:=ba.right _ g9;have eK:=ba.named _ g9;have S3:=iy _ g9;have mF:j8 (bM g.ds) F 0 (g.ds.take (i+1)) (kE g.n)=qU (bM g.ds) F (j8 (bM g.ds) F 0 (g.ds.take i) (kE g.n)) i g.ds[i]:=by rw[gj cy,acf,L4 (by omega),du]
 have gG:(j8 (bM g.ds) F 0 (g.ds.take i) (kE g.n)).m.length=64:=by rw[S'];rfl
 generalize g.ds[i]=d at bp ah af eK S3 mF;refine bm.mk aM i bB rfl aZ ?_;refine aO.mk _ (bp _) ?_;refine bW.mk λb7 Ia LY=>?_;refine ck.rS [] _ _ _ rfl rfl rfl rfl [.int .i64 i] rfl ?_;refine aO.mk [.slice g.a g.n g.c] (dr (cs:=[.slice g.a g.n g.c]) (k:=0) (n:=1) (.tail _ (.tail _ (.tail _ (.tail _ (.head _))))) (by simp)) ?_;generalize av8:j8 (bM g.ds) F 0 (g.ds.take i) (kE g.n)=s at gG mF |-;have e5:∀ {M:List aE},fR tV F∈M->l' J M (some ⟨tV,0,none⟩) g.n F:=λyO=>by have:=LU (I:=J) yO;rwa [ach]at this
 have aci:An g F d.t=some (eB (bM g.ds) F d.t.ns []):=by rw[An,af,eK,iX ach];rfl
 refine a8.whole _ (akk (lc:=g.n) aob Jg ah.t (e5 (.tail _ (.tail _ (.head _))))) ?_;rintro v cA dD -⟨cO,⟨aD,-,-⟩|⟨r,cm,aD,rfl,rfl⟩⟩
 ·rw[aci]at aD;cases aD
 rw[aci]at aD;obtain rfl:=eX aD;refine bX.mk (λh=>?_) (λh=>?_)
 rotate_left
 ·cases h
 refine aX.mk (λh=>absurd h (by simp)) (λ_=>?_);have m5:=l4 af;have AI:=aca (b1:=b1) (b6:=b6) (b7:=b7) (i:=i) (xa:=some ⟨cm,0,none⟩) (xc:=d.t.n) (F:=F) (Jg.mono cO) aoa (ah.t.mono cO) S3 af eK (by omega) (M1:=[fR cm (eB (bM g.ds) F d.t.ns []),⟨b7,.cells #[.int .i64 i] 3 (0,0)⟩,fR tV F,kD b8 (kE 0),⟨b1,.cells #[.slice g.a g.n g.c] 30 (0,0)⟩]) (.tail _ (.tail _ (.tail _ (.tail _ (.head _))))) (.tail _ (.head _)) (by
  have:=LU (I:=cA) (M:=[fR cm (eB (bM g.ds) F d.t.ns []),⟨b7,.cells #[.int .i64 i] 3 (0,0)⟩,fR tV F,kD b8 (kE 0),⟨b1,.cells #[.slice g.a g.n g.c] 30 (0,0)⟩]) (b:=cm) (l:=eB (bM g.ds) F d.t.ns []) (.head _);rw[H5,ah.t.n]at this;simpa using this) d.t.ns.length d.t.bC.toNat (by omega) (by omega) s gG
 rw[zS m5.1]at AI;have aoc:=Spec.yW (q:=λv I' M'=>I'=cA/\M'=kD b6 (s.marks i (gv (bM g.ds) F d.t.ns d.t.bC.toNat).2)::[fR cm (eB (bM g.ds) F d.t.ns []),⟨b7,.cells #[.int .i64 i] 3 (0,0)⟩,fR tV F,kD b8 (kE 0),⟨b1,.cells #[.slice g.a g.n g.c] 30 (0,0)⟩]) (na (a:=kD b6 s) (l₁:=[fR cm (eB (bM g.ds) F d.t.ns []),⟨b7,.cells #[.int .i64 i] 3 (0,0)⟩]) (l₂:=[fR tV F,kD b8 (kE 0),⟨b1,.cells #[.slice g.a g.n g.c] 30 (0,0)⟩])).symm (λv I' M' h=>⟨M',.refl _,h⟩) AI;refine a8.whole _ aoc ?_;rintro v kF N -⟨k9,ho⟩;subst kF;subst N;generalize gg:s.marks i (gv (bM g.ds) F d.t.ns d.t.bC.toNat).2=s1 at *;have av9:s1.m.length=64:=by rw[<-gg,dV.FI,gG]
 refine a8.whole _ (anX (xs:=eB (bM g.ds) F d.t.ns []) (ah.t.mono cO) af ?_) ?_
 ·have:=LU (I:=cA) (M:=kD b6 s1::[fR cm (eB (bM g.ds) F d.t.ns []),⟨b7,.cells #[.int .i64 i] 3 (0,0)⟩,fR tV F,kD b8 (kE 0),⟨b1,.cells #[.slice g.a g.n g.c] 30 (0,0)⟩]) (b:=cm) (l:=eB (bM g.ds) F d.t.ns []) (.tail _ (.head _));rw[H5,ah.t.n]at this;simpa using this
 rintro v kF N -⟨aj,k9,ho⟩;subst kF;subst N;subst v;have fu:(kD b6 (qU (bM g.ds) F s i d))=(kD b6 (bif oo d.t.ns (eB (bM g.ds) F d.t.ns [])then s1.loop i else s1)):=by rw[qU,<-gg];rfl
 refine aX.mk (λhe=>?_) (λhe=>?_)
 rotate_left
 ·have rq:oo d.t.ns (eB (bM g.ds) F d.t.ns [])=false:=he;refine bd.mk _ (c8 (i:=i) (by omega)) ?_;refine⟨(i+1,cA),⟨⟨aZ,λb o h=>cO _ _ (a5 _ _ h)⟩,by simp only;omega⟩,.sub (.cons_cons _ (.cons _ (.cons _ (.refl _)))) (.ma ?_),rh,.nil⟩;simp only;rw[mF,fu,rq];rfl
 have rq:oo d.t.ns (eB (bM g.ds) F d.t.ns [])=true:=he;refine cT.draw aY rfl rfl rfl ?_;refine aO.mk _ (acg (.head _)) ?_;refine aO.mk [.int .i64 i] (dr (cs:=[.int .i64 i]) (k:=0) (n:=1) (.tail _ (.tail _ (.head _))) (by simp)) ?_;refine sm.mk i rfl ?_;refine bd.mk _ (RW (by omega)) ?_;refine ck.iV [] _ s1.cells _ rfl ?_ rfl (s1.loop i).cells ?_ ?_
 ·rw[dV.cL];rfl
 ·show cj s1.cells (0+65) [Value.int .u64 (k6 s1.w.toNat (lC i).toNat)]=_;rw[tZ];exact an8 s1 i
 refine bd.mk _ (c8 (i:=i) (by omega)) ?_;refine⟨(i+1,cA),⟨⟨aZ,λb o h=>cO _ _ (a5 _ _ h)⟩,by simp only;omega⟩,.sub (.cons_cons _ (.cons _ (.cons _ (.refl _)))) (.ma ?_),rh,.nil⟩;simp only;rw[mF,fu,rq];rfl
def FJ(l:List Nat):List Value:=l.map λn:Nat=>Value.int .i64 n
def AX(s:dV):List Nat:=bitsOf s.w 64
open Classical in
noncomputable def xe(s:dV):List Nat:=(List.range 64).filter λi=>decide (qM s.m i i)
def aod{b:dY}(h:∀ i,i<64->(b.getLsbD i=true ↔ qM s.m i i)):bitsOf b 64=xe s:=by
 unfold bitsOf xe;apply G1;intro i hi;have:=h i (by simpa using hi);by_cases ao:qM s.m i i
 ·simp[ao,this.2 ao]
 ·have:b.getLsbD i=false:=by
   cases ag:b.getLsbD i with
   |false=>rfl| true=>exact absurd (this.1 ag) ao
  simp[ao,this]
def acj(pl:List (ByteArray×Int))(F:List aW):∀ (l:List a3) (i:Nat) (s:dV),(j8 pl F i l s).n=s.n
 |[],i,s=>rfl
 |d::l,i,s=>by
  rw[j8,acj pl F l];have hm:∀ (q:List Nat) (s:dV),(s.marks i q).n=s.n:=λq=>by
   induction q with
   |nil=>exact λs=>rfl
   |cons k q aQ=>exact λs=>aQ (s.mark i k)
  unfold qU;cases oo d.t.ns (eB pl F d.t.ns [])with
  |true=>exact hm _ s| false=>exact hm _ s
def aoe(ds:List a3)(F:List aW):(qV ds F).n=ds.length:=acj _ _ _ _ _
def aof(ds:List a3)(F:List aW):(qV ds F).m.length=64:=by rw[qV,S'];rfl
noncomputable def Jh(e:Int)(s:dV):Int×Int:=
 if e≠0 then(0,e)else if 0<(xe s).length then(((xe s).headD 0:Nat),42)else if 0<(AX s).length then(((AX s).headD 0:Nat),43)else(0,0)
def aR.pos(h:os.ok 1 (FJ l)):l.length=os.n:=by have:=h.len;simpa[FJ]using this
def ack(h:os.ok 1 (FJ l))(ax:0<l.length)(ba:os.ar e++M0=M):∃ aM,os.a.map (λg=>(⟨g,0,none⟩:Addr))=some aM/\cR I M (aM.add (0*1)) 1 [.int .i64 (l.headD 0:Nat)]:=by
 have aJ:=aR.pos h;cases a7:os.a with
 |none=>have:=(h.nil a7).1;omega
 |some b=>
  obtain⟨aa,ad,ak,aK⟩:=h.cap b a7;refine⟨⟨b,0,none⟩,rfl,?_⟩;subst ba;cases l with
  |nil=>simp at ax
  |cons a l=>
   cases ao:os.aS with
   |nil=>rw[ao]at aK;simp[FJ]at aK
   |cons x xs=>
    rw[ao]at aK;have aD:os.n*1=(os.n-1)+1:=by omega
    rw[aD,rl]at aK;have ab:x=.int .i64 a:=(Hp aK).1;refine⟨rfl,_,_,_,.inr ⟨⟨b,.cells os.aS.toArray e (0,0)⟩,?_,rfl,rfl⟩,?_,rfl⟩;·unfold aR.ar;rw[a7];exact .head _
    ·rw[ao,ab];rfl
def aog(be:e2 I az)(aw:g.ok I)(iy:∀ d∈g.ds,vl d.t)(lI:c6 az g=0->g.n<=64):Spec Tryz.prog 103 [g.val] I [] λv I' M'=>(∀ b o,I b=some o->I' b=some o)/\M'=[] /\
  ∃ r:Int×Int,v=.tuple #[.int .i64 r.1,.int .i64 r.2]/\((c6 az g≠0/\r=(0,c6 az g))\/(c6 az g=0/\∃ F,iw g.ds F/\r=Jh 0 (qV g.ds F))):=by
 refine bV [4] aY Tryz.func103 rfl rfl rfl ?_;intro B ay;have iG:=aw.n;refine a8.mk [] [] _ (.refl _) (an9 be aw iy lI) ?_;rintro v I1 N -⟨de,rfl,⟨hm,rfl⟩|⟨hm,F,bE,rfl⟩⟩
 ·refine bW.mk λdU Cy LA=>?_;refine ck.rS [] _ _ _ rfl rfl rfl rfl (kE 0).cells rfl ?_;refine aX.mk (λh=>?_) (λh=>absurd h (by simp[hm]));exact⟨_,_,.sub (gd _) .refl,de,rfl,(0,c6 az g),rfl,.inl ⟨hm,rfl⟩⟩
 refine bW.mk λdU Cy LA=>?_;refine ck.rS [] _ _ _ rfl rfl rfl rfl (qV g.ds F).cells rfl ?_;have mF:=aoe g.ds F;have gG:=aof g.ds F;have aD:=lI hm;generalize av:qV g.ds F=s at mF gG;refine aX.mk (λh=>absurd h (by simp)) (λ_=>?_);refine aO.mk _ (M3 (.head _)) ?_;refine a8.whole _ (alA s ⟨gG,by omega⟩) ?_;rintro v J N -⟨rfl,rfl,b,rfl,ag⟩;refine a8.whole _ (aam b) ?_;rintro v J N -⟨rfl,os,b4,rfl,rfl⟩;have b4:os.ok 1 (FJ (xe s)):=by rw[<-aod ag];exact b4
 have aJ:=aR.pos b4;refine aX.mk (λh=>?_) (λh=>?_)
 ·have bq:0<(xe s).length:=by have:(0:Int)<(os.n:Int):=cJ h;omega
  obtain⟨aM,bB,bp⟩:=ack (I:=J) b4 bq rfl;refine bm.mk aM 0 bB rfl (by omega) ?_;refine aO.mk _ bp ?_;exact⟨_,_,.sub (gd _) .refl,de,rfl,(((xe s).headD 0:Nat),42),rfl,.inr ⟨hm,F,bE,by rw[av,Jh,bN (by simp),bT bq]⟩⟩
 have bq:¬ 0<(xe s).length:=by have:¬ (0:Int)<(os.n:Int):=dv h;omega
 refine aO.mk _ (acg (rj _ (.head _))) ?_;refine a8.whole _ (aam s.w) ?_;rintro v cA N -⟨rfl,Ta,M4,rfl,rfl⟩;have M4:Ta.ok 1 (FJ (AX s)):=M4;have h3:=aR.pos M4;refine aX.mk (λh=>?_) (λh=>?_)
 ·have ad:0<(AX s).length:=by have:(0:Int)<(Ta.n:Int):=cJ h;omega
  obtain⟨aM,bB,bp⟩:=ack (I:=cA) M4 ad rfl;refine bm.mk aM 0 bB rfl (by omega) ?_;refine aO.mk _ bp ?_;exact⟨_,_,.sub (gd _) .refl,de,rfl,(((AX s).headD 0:Nat),43),rfl,.inr ⟨hm,F,bE,by rw[av,Jh,bN (by simp),bN bq,bT ad]⟩⟩
 have ad:¬ 0<(AX s).length:=by have:¬ (0:Int)<(Ta.n:Int):=dv h;omega
 exact⟨_,_,.sub (gd _) .refl,de,rfl,(0,0),rfl,.inr ⟨hm,F,bE,by rw[av,Jh,bN (by simp),bN bq,bN ad]⟩⟩
def M5(l:List Nat)(w:dY):dY:=l.foldl (λw k=>w ||| lC k) w
def aoh(l:List Nat)(w:dY){i:Nat}(hi:i<64):(M5 l w).getLsbD i=(w.getLsbD i||l.contains i):=akR l w hi
def p3(m:List dY)(i:Nat):m.set i (m.getD i 0)=m:=by
 apply zU;intro j;rw[iW];by_cases h:i=j
 ·subst h;by_cases ax:i<m.length
  ·simp[ax,bS]
  ·simp[ax]
 ·simp[h]
def acm(i:Nat):∀ (l:List Nat) (s:dV),i<s.m.length->(s.marks i l).m=s.m.set i (M5 l (s.m.getD i 0))
 |[],s,h=>(p3 s.m i).symm| k::l,s,h=>by have aQ:=acm i l (s.mark i k) (by simpa[dV.mark]using h);show((s.mark i k).marks i l).m=_;rw[aQ,dV.mark];simp only;rw[Hq,RX (by simpa using h)];rfl
def Tb(i:Nat):∀ (l:List Nat) (s:dV),(s.marks i l).w=s.w
 |[],s=>rfl| k::l,s=>Tb i l (s.mark i k)
def acn(pl:List (ByteArray×Int))(F:List aW)(s:dV)(i:Nat)(d:a3)(h:i<s.m.length):(qU pl F s i d).m=s.m.set i (M5 (gv pl F d.t.ns d.t.bC).2 (s.m.getD i 0)):=by
 unfold qU;rw[<-acm i _ s h];cases oo d.t.ns (eB pl F d.t.ns [])<;>rfl
def aco(pl:List (ByteArray×Int))(F:List aW)(s:dV)(i:Nat)(d:a3):(qU pl F s i d).w=bif oo d.t.ns (eB pl F d.t.ns [])then s.w ||| lC i else s.w:=by
 unfold qU;cases oo d.t.ns (eB pl F d.t.ns [])
 ·exact Tb i _ s
 ·show(s.marks i _).w ||| lC i=_
  rw[Tb];rfl
def Tc(pl:List (ByteArray×Int))(F:List aW):∀ (l:List a3) (i:Nat) (s:dV),s.m.length=64->i+l.length<=64 -> (∀ j,j<i\/i+l.length<=j->(j8 pl F i l s).m.getD j 0=s.m.getD j 0) /\ (∀ q (h:q<l.length),(j8 pl F i l s).m.getD (i+q) 0=M5 (gv pl F l[q].t.ns l[q].t.bC).2 (s.m.getD (i+q) 0)) /\ (∀ j,j<64->j<i\/i+l.length<=j->(j8 pl F i l s).w.getLsbD j=s.w.getLsbD j) /\ (∀ q (h:q<l.length),(j8 pl F i l s).w.getLsbD (i+q)=(s.w.getLsbD (i+q)||oo l[q].t.ns (eB pl F l[q].t.ns [])))
 |[],i,s,_,_=>⟨λ_ _=>rfl,λ_ h=>absurd h (by simp),λ_ _ _=>rfl,λ_ h=>absurd h (by simp)⟩
 |d::l,i,s,av,ax=>by
  rw[et]at ax;obtain⟨aa,ad,ak,aK⟩:=Tc pl F l (i+1) (qU pl F s i d) (by rw[ace,av]) (by omega);have hm:∀ j,j≠i->(qU pl F s i d).m.getD j 0=s.m.getD j 0:=λj ai=>by rw[acn pl F s i d (by omega)];simp[bS,iW,si ai]
  have hw:∀ j,j<64->j≠i->(qU pl F s i d).w.getLsbD j=s.w.getLsbD j:=λj ai bt=>by
   rw[aco];cases oo d.t.ns (eB pl F d.t.ns []);·rfl
   ·rw[cF,Cw,L2 ai];simp[bt]
  refine⟨λj ai=>?_,λq h=>?_,λj ai tz=>?_,λq h=>?_⟩;·rw[et]at ai;rw[j8,aa j (by omega),hm j (by omega)]
  ·cases q with
   |zero=>rw[j8,aa _ (by omega),acn pl F s i d (by omega)];rw[oz,RX (by omega)];rfl| succ q=>have:=ad q (by simpa using h);rw[show i+1+q=i+(q+1) by omega]at this;rw[j8,this,hm _ (by omega)];rfl
  ·rw[et]at tz;rw[j8,ak j ai (by omega),hw j ai (by omega)]
  ·cases q with
   |zero=>
    rw[j8,ak _ (by omega) (by omega),aco,oz,tp];cases he:oo d.t.ns (eB pl F d.t.ns []);·simp
    ·rw[cF,Cw,L2 (by omega)];simp
   |succ q=>
    have aL:q<l.length:=by simpa using h
    have:=aK q aL;rw[show i+1+q=i+(q+1) by omega]at this;rw[j8,this,hw _ (by omega) (by omega)];rfl
def me(ds:List a3)(F:List aW)(i:Nat):List Nat:=match ds[i]? with
 |some d=>(gv (bM ds) F d.t.ns d.t.bC).2| none=>[]
def Ji(ds:List a3)(F:List aW)(i:Nat):Bool:=match ds[i]? with
 |some d=>oo d.t.ns (eB (bM ds) F d.t.ns [])| none=>false
def M6{ds:List a3}(aD:ds.length<=64){i k:Nat}(ae:k<64):((qV ds F).m.getD i 0).getLsbD k=(me ds F i).contains k:=by
 obtain⟨aa,ad,-,-⟩:=Tc (bM ds) F ds 0 (kE ds.length) (by rfl) (by omega);have ay:∀ j,(kE ds.length).m.getD j 0=0#64:=λj=>by
  simp only[kE,bS,List.getElem?_replicate];by_cases h:j<64<;>simp[h]
 unfold me qV;by_cases h:i<ds.length
 ·have:=ad i h;rw[du]at this;rw[this,ay,aoh _ _ ae,dg h];simp
 ·rw[aa i (by omega),ay,qn (by omega)];simp
def acp{ds:List a3}(aD:ds.length<=64){i:Nat}(hi:i<64):(qV ds F).w.getLsbD i=Ji ds F i:=by
 obtain⟨-,-,aa,ad⟩:=Tc (bM ds) F ds 0 (kE ds.length) (by rfl) (by omega);unfold Ji qV;by_cases h:i<ds.length
 ·have:=ad i h;rw[du]at this;rw[this,dg h];simp[kE]
 ·rw[aa i hi (by omega),qn (by omega)];simp[kE]
section
end
section
end
def Jj(a b c d:Int):al:=⟨1,a,b,c,d,⟨#[]⟩,0,0,none,0,0,[]⟩
def Td{a b c d:Int}(a7:fm a)(ag:fm b)(ao:fm c)(ah:fm d):Spec Tryz.prog 55 [.agg #[.int .u64 a,.int .u64 b,.int .u64 c,.int .u64 d]] I [] λv I' M'=>(∀ b o,I b=some o->I' b=some o)/\∃ t:bk,v=t.val/\t.ok I'/\t.ns=[Jj a b c d]/\t.bC=0/\M'=[]:=by refine bV [] aY Tryz.func55 rfl rfl rfl ?_;intro B ay;have bg:(Jj a b c d).ok I:=⟨⟨by show(0:Int)<=1;decide,by show(1:Int)<256;decide⟩,a7,ag,ao,ah,by show(0:Nat)<=_;decide,i0,i0,⟨rfl,⟨b' _,by show 0*8<=_;omega⟩,.inl rfl⟩,λx ab=>by cases ab⟩;have ax:=Yj (I:=I) bg;have aj:(Jj a b c d).val=.agg #[.int .u8 1,.int .u64 a,.int .u64 b,.int .u64 c,.int .u64 d,.string ⟨#[]⟩,.int .i64 0,.int .i64 0,.slice none 0 0]:=rfl;rw[aj]at ax;refine a8.mk [] [] _ (.refl _) ax ?_;rintro v I' M' -⟨bA,t,rfl,aq,aa,ad,rfl⟩;exact⟨_,_,.refl,bA,t,rfl,aq,aa,ad,rfl⟩
structure acq(t:bk):Prop where
 n:t.n<2500
 ns:∀ b3∈t.ns,LK b3
structure jL(L:List bk)(n0:Nat)(x:Nat×Nat):Prop where
 i:x.2<=L.length
 n:x.1<=6000
 ge:n0<=x.1
 small:x.1<2500->x.2<=x.1/\∀ j (h:j<L.length),j<x.2->acq L[j]
structure Jk(L:List bk)(t:bk)(n0 i:Nat)(x:Nat×Nat):Prop where
 k:x.2<=t.n
 n:x.1<=6000
 ge:n0<=x.1
 small:x.1<2500->i+1<=x.1/\x.2<=x.1/\(∀ j (h:j<L.length),j<i->acq L[j])/\∀ j (h:j<t.ns.length),j<x.2->LK t.ns[j]
def M7{ds:List a3}{f:a3->aW}{i:Nat}(h:i<ds.length):(ds.map f).getD i cf=f ds[i]:=by simp[bS,h]
def o4.all{ds:List a3}{l:List aW}(h:o4 ds l):o4 ds (ds.map (i' (bM ds) l))/\dT l (ds.map (i' (bM ds) l)):=by
 have bf:dT l (ds.map (i' (bM ds) l)):=dT.of (by simp[h.len]) λi hi=>by rw[M7 (by rw[<-h.len];exact hi)];exact h.up i _
 refine⟨⟨by simp,λi hi=>?_,λm hm ao=>dT.of (by simp[hm]) λi hi=>?_⟩,bf⟩
 ·rw[M7 hi];exact H7 bf _
 ·have cC:i<ds.length:=by simpa using hi
  rw[M7 cC];exact(H7 (h.least m hm ao) _).trans (ao i cC)
def AY(b:Bool)(xs:List (aW×List Nat)):List Nat:=bif b then ki xs else xs.flatMap (·.2)
def aoi(b:Bool):AY b []=[]:=by cases b<;>rfl
def aoj(b:Bool)(x:aW×List Nat)(xs:List (aW×List Nat)):AY b (x::xs)=x.2++bif b && !x.1.z then []else AY b xs:=by
 cases b with
 |true=>
  cases bb:x.1.z<;>simp[AY,ki,bb]
 |false=>simp[AY]
def aok{pl:List (ByteArray×Int)}{d:al}{xs:List (aW×List Nat)}(ak:¬ d.k=3)(cu:¬ (d.k=6/\d.hi=0)):lB pl d xs=AY (decide (d.k=4)) xs:=by
 unfold lB AY;rw[eY ak,cE];cases aK:decide (d.k=4)with
 |true=>rfl
 |false=>
  rw[cE,cE];by_cases a:d.k=6;·have b:¬ d.hi=0:=λe=>cu ⟨a,e⟩;rw[iX a,eY b];rfl
  ·rw[eY a];rfl
def yY(pl:List (ByteArray×Int))(F:List aW)(d:al)(xs:List ((aW×List Nat)×Bool)):Bool:=xs.any λx=>(decide (d.k=6)&&(decide (d.hi=-1)&&x.1.1.z))||x.2
def h4(pl:List (ByteArray×Int))(F:List aW)(d:al)(xs:List ((aW×List Nat)×Bool)):(aW×List Nat)×Bool:=(rV pl F d (xs.map (·.1)),yY pl F d xs)
def pf(pl:List (ByteArray×Int))(F:List aW)(ns:List al)(j:Int):(aW×List Nat)×Bool:=mA ((cf,[]),false) (λd g=>h4 pl F d (d.au.map g)) ns j
def acr{pl:List (ByteArray×Int)}(af:right t=true){j:Nat}(ai:j<t.ns.length):pf pl F t.ns j=h4 pl F t.ns[j] (t.ns[j].au.map (pf pl F t.ns)):=
 El (λd g eg h=>by rw[fV h]) af ai
def M8{pl:List (ByteArray×Int)}{F:List aW}{t:bk}(af:right t=true):∀ (m j:Nat),j<m->j<t.ns.length->(pf pl F t.ns j).1=gv pl F t.ns j
 |0,j,h,_=>absurd h (ng _)
 |m+1,j,hm,ai=>by
  rw[acr af ai,Q1 af ai];have:(t.ns[j].au.map (pf pl F t.ns)).map (·.1)=t.ns[j].au.map (gv pl F t.ns):=by rw[gu];refine fV λk ae=>?_;obtain⟨aa,ad⟩:=ly af j ai k ae;obtain⟨q,rfl⟩:=eG aa;exact M8 af m q (by omega) (by omega)
  show rV pl F t.ns[j] _=_;rw[this]
def aol(pl:List (ByteArray×Int))(F:List aW)(ns:List al)(j:Int):pf pl F (ns.map al.a4) j=pf pl F ns j:=by unfold pf mA;rw[Ib (f:=λd g=>h4 pl F d (d.au.map g)) (g:=λd g=>h4 pl F d (d.au.map g)) (λd q=>rfl)]
def p8(ds:List a3)(F:List aW)(i:Nat):List Nat:=(List.range ds.length).filter λk=>(me ds F i).contains k
def xf(ds:List a3)(F:List aW)(i:Nat):Bool:=match ds[i]? with
 |some d=>(pf (bM ds) F d.t.ns d.t.bC).2| none=>false
def p'(ds:List a3)(F:List aW):List Nat:=(List.range ds.length).filter (xf ds F)
inductive mI(A:Nat->List Nat):Nat->Nat->Prop
 |one{i k}(h:k∈A i):mI A i k| step {i j k} (h:j∈A i) (t:mI A j k):mI A i k
def mI.snoc{i j k:Nat}(h:mI A i j)(ae:k∈A j):mI A i k:=by
 induction h with
 |one h=>exact .step h (.one ae)| step h t aQ=>exact .step h (aQ ae)
def vy:List Nat->List Nat->List Nat
 |[],l=>l| x::r,l=>vy r (bif l.contains x then l else l++[x])
def FK:∀ (r l:List Nat) (x:Nat),x∈vy r l ↔ x∈l\/x∈r
 |[],l,x=>by simp[vy]
 |y::r,l,x=>by
  rw[vy,FK r];cases h:l.contains y with
  |true=>
   have aC:y∈l:=by simpa using h
   rw[cF];constructor
   ·rintro(a | a)
    ·exact .inl a
    ·exact .inr (.tail _ a)
   ·rintro(a | a)
    ·exact .inl a
    ·rcases eI.1 a with rfl | a
     ·exact .inl aC
     ·exact .inr a
  |false=>
   rw[cE];rw[cv,eN,eI];constructor
   ·rintro((a | a) | a)
    ·exact .inl a
    ·exact .inr (.inl a)
    ·exact .inr (.inr a)
   ·rintro(a | a | a)
    ·exact .inl (.inl a)
    ·exact .inl (.inr a)
    ·exact .inr a
def acs:∀ (r l:List Nat),∃ s,vy r l=l++s
 |[],l=>⟨[],by simp[vy]⟩
 |y::r,l=>by
  obtain⟨s,av⟩:=acs r (bif l.contains y then l else l++[y]);rw[vy,av];cases l.contains y with
  |true=>exact⟨s,rfl⟩| false=>exact⟨[y]++s,by simp⟩
def acu:∀ (r l:List Nat),l.Nodup->(vy r l).Nodup
 |[],l,h=>h
 |y::r,l,h=>by
  rw[vy];apply acu r;cases ao:l.contains y with
  |true=>exact h
  |false=>
   have aC:y ∉ l:=by simpa using ao
   rw[cE,sh];refine⟨h,by simp,λa a7 b ag e=>?_⟩;have:b=y:=by simpa using ag
   subst this;subst e;exact aC a7
def acv:∀ (n:Nat) (l:List Nat),l.Nodup->(∀ x∈l,x<n)->l.length<=n
 |0,[],_,_=>b' _| 0,a::l,_,h=>absurd (h a (.head _)) (ng _)
 |n+1,l,ah,h=>by
  have aa:=acv n (l.erase n) (ah.erase n) λx ab=>by have ad:=h x (List.mem_of_mem_erase ab);have ak:x≠n:=(ah.mem_erase_iff.1 ab).1;omega
  have aK:=List.length_erase (a:=n) (l:=l);split at aK<;>omega
def FL(A:Nat->List Nat):Nat->Nat->List Nat->List Nat
 |0,_,l=>l
 |f+1,k,l=>match l[k]? with
  |some x=>FL A f (k+1) (vy (A x) l)| none=>l
structure ud(A:Nat->List Nat)(n k:Nat)(fH l:List Nat):Prop where
 b3:l.Nodup
 lt:∀ x∈l,x<n
 sub:∀ x∈fH,x∈l
 src:∀ x∈l,x∈fH\/∃ y∈fH,mI A y x
 Jl:∀ j x,j<k->l[j]?=some x->∀ y∈A x,y∈l
 k:k<=l.length
def ud.len{k:Nat}(h:ud A n k fH l):l.length<=n:=acv n l h.b3 h.lt
def ud.next{k:Nat}(dI:∀ x,∀ y∈A x,y<n)(h:ud A n k fH l){x:Nat}(ab:l[k]?=some x):ud A n (k+1) fH (vy (A x) l):=by
 obtain⟨s,av⟩:=acs (A x) l;have ae:k<l.length:=by
  rcases Nat.lt_or_ge k l.length with aa | aa;·exact aa
  ·rw[qn aa]at ab;cases ab
 have kg:x∈l:=rk ab;refine⟨acu _ _ h.b3,λz bb=>?_,λz bb=>(FK _ _ _).2 (.inl (h.sub z bb)),λz bb=>?_,λj z ai bb y aC=>?_,by rw[av];simp;omega⟩
 ·rcases(FK _ _ _).1 bb with a | a
  ·exact h.lt z a
  ·exact dI x z a
 ·rcases(FK _ _ _).1 bb with a | a
  ·exact h.src z a
  ·rcases h.src x kg with b | ⟨w,hw,b⟩
   ·exact .inr ⟨x,b,.one a⟩
   ·exact .inr ⟨w,hw,b.snoc a⟩
 ·have gK:l[j]?=some z:=by rw[av,ri (by omega)]at bb;exact bb
  by_cases e:j=k;·subst e;rw[ab]at gK;obtain rfl:=eX gK;exact(FK _ _ _).2 (.inr aC)
  ·exact(FK _ _ _).2 (.inl (h.Jl j z (by omega) gK y aC))
def ud.done{i:Nat}(h:ud A n l.length (A i) l)(x:Nat):x∈l ↔ mI A i x:=by
 constructor
 ·intro ab;rcases h.src x ab with a | ⟨y,aC,a⟩
  ·exact .one a
  ·exact .step aC a
 ·have cl:∀ {y z:Nat},mI A y z->y∈l->z∈l:=fun {y z} ao=>by
   induction ao with
   |one ae=>intro aC;obtain⟨j,ai,e⟩:=hO aC;exact h.Jl j _ ai (by rw[dg ai,e]) _ ae
   |step ai t aQ=>intro aC;refine aQ ?_;obtain⟨q,aL,e⟩:=hO aC;exact h.Jl q _ aL (by rw[dg aL,e]) _ ai
  intro ao;cases ao with
  |one ae=>exact h.sub x ae| step ai t=>exact cl t (h.sub _ ai)
def Te{pl:List (ByteArray×Int)}(af:right t=true){j:Nat}(ai:j<t.ns.length):(pf pl F t.ns j).2=true ↔ ∃ k∈t.ns[j].au,(t.ns[j].k=6/\t.ns[j].hi=-1/\(eB pl F t.ns []).getD k.toNat cf=(eB pl F t.ns []).getD k.toNat cf/\((eB pl F t.ns []).getD k.toNat cf).z=true)\/(pf pl F t.ns k).2=true:=by
 have l8:∀ k∈t.ns[j].au,(pf pl F t.ns k).1.1=(eB pl F t.ns []).getD k.toNat cf:=λk ae=>by obtain⟨aa,ad⟩:=ly af j ai k ae;obtain⟨q,rfl⟩:=eG aa;rw[M8 af (q+1) q (by omega) (by omega),Q2]
 rw[acr af ai];show yY pl F t.ns[j] _=true ↔ _;unfold yY;rw[Fu];constructor
 ·rintro⟨x,ab,h⟩;obtain⟨k,ae,rfl⟩:=cP.1 ab;refine⟨k,ae,?_⟩;rw[l8 k ae]at h;simp only[lp,cB,h6]at h;rcases h with⟨a,b,c⟩ | h
  ·exact .inl ⟨a,b,rfl,c⟩
  ·exact .inr h
 ·rintro⟨k,ae,h⟩;refine⟨_,cP.2 ⟨k,ae,rfl⟩,?_⟩;rw[l8 k ae];simp only[lp,cB,h6];rcases h with⟨a,b,-,c⟩ | h
  ·exact .inl ⟨a,b,c⟩
  ·exact .inr h
def acw{pl:List (ByteArray×Int)}{F:List aW}{t:bk}(af:right t=true):∀ (m j:Nat),j<t.ns.length->t.ns.length-j<=m->(pf pl F t.ns j).2=true->(pf pl F t.ns t.bC).2=true
 |0,j,ai,hm,_=>by omega
 |m+1,j,ai,hm,h=>by
  by_cases e:(j:Int)=t.bC;·rw[<-e];exact h
  ·obtain⟨p,aJ,ae,aZ⟩:=Yp af ai e;exact acw af m p aJ (by omega) ((Te af aJ).2 ⟨_,ae,.inr h⟩)
def aom{l:List Int}{k:Int}(ae:k∈l)(h:l.length=1):l.headD 0=k:=by
 match l,h with
 |[a],_=>exact(eN.1 ae).symm
def acx{pl:List (ByteArray×Int)}{F:List aW}{t:bk}(af:right t=true)(aa:∀ d∈t.ns,d.k=6->d.au.length=1):∀ (m j:Nat),j<m->∀ (ai:j<t.ns.length),(pf pl F t.ns j).2=true->oo t.ns (eB pl F t.ns [])=true
 |0,j,h,_,_=>absurd h (ng _)
 |m+1,j,hm,ai,h=>by
  obtain⟨k,ae,⟨a,b,-,c⟩ | h⟩:=(Te af ai).1 h;·refine Fu.2 ⟨t.ns[j],bJ ai,?_⟩;simp only[cB,h6];refine⟨a,b,?_⟩;rw[aom ae (aa _ (bJ ai) a)];exact c
  ·obtain⟨ad,ak⟩:=ly af j ai k ae;obtain⟨q,rfl⟩:=eG ad;exact acx af aa m q (by omega) (by omega) h
def aon{pl:List (ByteArray×Int)}(af:right t=true)(aa:∀ d∈t.ns,d.k=6->d.au.length=1):(pf pl F t.ns t.bC).2=oo t.ns (eB pl F t.ns []):=by
 obtain⟨gV,hn⟩:=l4 af;obtain⟨r,en⟩:=eG gV;apply tc.2;constructor
 ·intro h;rw[en]at h;exact acx af aa (r+1) r (by omega) (by omega) h
 ·intro h;obtain⟨d,ah,h⟩:=Fu.1 h;obtain⟨j,ai,rfl⟩:=hO ah;simp only[cB,h6]at h;obtain⟨a,b,c⟩:=h;have ax:=aa _ ah a;have ae:t.ns[j].au.headD 0∈t.ns[j].au:=by
   match ab:t.ns[j].au,ax with
   |[q],_=>simp
  exact acw af t.ns.length j ai (by omega) ((Te af ai).2 ⟨_,ae,.inl ⟨a,b,rfl,c⟩⟩)
def acy{b:Bool}{x:Nat}:∀ {xs:List (aW×List Nat)},x∈AY b xs->∃ y∈xs,x∈y.2
 |[],h=>by rw[aoi]at h;cases h
 |y::xs,h=>by
  rw[aoj]at h;rcases cv.1 h with h | h;·exact⟨y,.head _,h⟩
  ·cases ag:b && !y.1.z with
   |true=>rw[ag]at h;cases h| false=>rw[ag]at h;obtain⟨z,bb,ab⟩:=acy (xs:=xs) h;exact⟨z,.tail _ bb,ab⟩
def acz{ds:List a3}{F:List aW}{t:bk}(af:right t=true)(eK:wO (bM ds) t.ns=true):∀ (m j:Nat),j<m->j<t.ns.length->∀ x∈(gv (bM ds) F t.ns j).2,x<ds.length
 |0,j,h,_=>absurd h (ng _)
 |m+1,j,hm,ai=>by
  intro x ab;rw[Q1 af ai]at ab;have ab:x∈lB (bM ds) t.ns[j] (t.ns[j].au.map (gv (bM ds) F t.ns)):=ab;have mu:=fS.1 eK _ (bJ ai);by_cases ak:t.ns[j].k=3
  ·obtain⟨q,H6,tO,S5⟩:=ab7 (nm:=t.ns[j].t) (ds:=ds) (by simpa[ak]using mu);rw[lB,iX ak,cF,S5]at ab;have:x=q:=by simpa using ab
   omega
  by_cases cu:t.ns[j].k=6/\t.ns[j].hi=0;·rw[lB,eY ak,cE,eY (show ¬ t.ns[j].k=4 by omega),cE,iX cu.1,iX cu.2]at ab;cases ab
  ·rw[aok ak cu]at ab;obtain⟨y,aC,aoo⟩:=acy ab;obtain⟨k,ae,rfl⟩:=cP.1 aC;obtain⟨aa,ad⟩:=ly af j ai k ae;obtain⟨q,rfl⟩:=eG aa;exact acz af eK m q (by omega) (by omega) x aoo
def Tf(ba:wP g)(i:Nat):∀ k∈me g.ds F i,k<g.ds.length:=by
 intro k ae;unfold me at ae;by_cases h:i<g.ds.length
 ·rw[dg h]at ae;have g9:=bJ h;have af:=ba.right _ g9;obtain⟨gV,hn⟩:=l4 af;obtain⟨r,en⟩:=eG gV;have ae:k∈(gv (bM g.ds) F g.ds[i].t.ns g.ds[i].t.bC).2:=ae;rw[en]at ae;exact acz af (ba.named _ g9) (r+1) r (by omega) (by omega) k ae
 ·rw[qn (by omega)]at ae;cases ae
def acA(ba:wP g)(lI:g.ds.length<=64){i k:Nat}(hi:i<64):qM (qV g.ds F).m i k ↔ mI (me g.ds F) i k:=by
 constructor
 ·intro h
  induction h with
  |one ae h=>rw[M6 lI ae]at h;exact .one (by simpa using h)| step h ai t aQ=>rw[M6 lI ai]at h;exact .step (by simpa using h) (aQ ai)
 ·intro h
  induction h with
  |one h=>have:=Tf ba _ _ h;exact .one (by omega) (by rw[M6 lI (by omega)];simpa using h)| step h t aQ=>have:=Tf ba _ _ h;exact .step (by rw[M6 lI (by omega)];simpa using h) (by omega) (aQ (by omega))
def acB(aD:n<=64)(p q:Nat->Bool)(aa:∀ k,k<n->p k=q k)(ad:∀ k,n<=k->k<64->p k=false):(List.range 64).filter p=(List.range n).filter q:=by
 have lI:(List.range 64)=List.range n++(List.range' n (64-n)):=by rw[DS,DS,show 64=n+(64-n) by omega,<-List.range'_append_1];simp
 have ak:(List.range' n (64-n)).filter p=[]:=by rw[List.filter_eq_nil_iff];intro k ae;rw[List.mem_range'_1]at ae;rw[ad k (by omega) (by omega)];simp
 rw[lI,EB,ak,dF];apply G1;intro k ae;exact aa k (by simpa using ae)
def aop(aw:g.ok I)(ba:wP g)(F:List aW)(i:Nat):xf g.ds F i=Ji g.ds F i:=by
 unfold xf Ji;by_cases h:i<g.ds.length
 ·rw[dg h];have g9:=bJ h;have af:=ba.right _ g9;have aq:=(aw.ds _ g9).t;refine aon af λd ah ae=>?_;obtain⟨j,ai,rfl⟩:=hO ah;have bU:=aq.ns _ ah;have:=(ab0 bU.k.1 (Em af ai)).one (by omega);omega
 ·rw[qn (by omega)]
def aoq(aw:g.ok I)(ba:wP g)(lI:g.ds.length<=64)(F:List aW):AX (qV g.ds F)=p' g.ds F:=by
 unfold AX p' bitsOf;refine acB lI _ _ (λk ae=>?_) (λk ae e1=>?_)
 ·rw[acp lI (by omega),aop aw ba]
 ·rw[acp lI e1,Ji,qn ae]
open Classical in
noncomputable def r2(ds:List a3)(F:List aW):List Nat:=(List.range ds.length).filter λi=>decide (mI (me ds F) i i)
def acC{ds:List a3}{i:Nat}(h:ds.length<=i):me ds F i=[]:=by rw[me,qn h]
open Classical in
def aor(ba:wP g)(lI:g.ds.length<=64)(F:List aW):xe (qV g.ds F)=r2 g.ds F:=by
 unfold xe r2;refine acB lI _ _ (λk ae=>?_) (λk ae e1=>?_)
 ·exact decide_eq_decide.2 (acA ba lI (by omega))
 ·refine eY λao=>?_;have ao:=(acA ba lI e1).1 ao;have aD:=acC (F:=F) ae;cases ao with
  |one h=>rw[aD]at h;cases h| step h t=>rw[aD]at h;cases h
structure Tg(d:al):Prop where
 aG:d.aG<400
 t:d.t.size<8020
structure yZ(t:bk):Prop where
 n:t.n<400
 ns:∀ b3∈t.ns,Tg b3
structure acD(d:a3):Prop where
 name:d.name.size<8020
 t:yZ d.t
structure AZ(g:cU):Prop where
 n:g.n<400
 ds:∀ d∈g.ds,acD d
def wH.Jm{d:al}(h:wH I d)(av:Tg d):d.ok I:=
 ⟨h.k,h.cx,h.s1,h.s2,h.cY,h.dC,h.lo,h.hi,h.a'.EG (by have:=av.aG;omega),h.au⟩
def Ag.Jm(h:Ag I t)(av:yZ t):t.ok I:=
 ⟨h.a'.EG (by have:=av.n;omega),λb3 bU=>(h.ns b3 bU).Jm (av.ns b3 bU),h.bC⟩
def rR.Jm(h:rR I g)(av:AZ g):g.ok I:=
 ⟨h.a'.EG (by have:=av.n;omega),λd ah=>⟨by have:=(av.ds d ah).name;omega,(h.ds d ah).t.Jm (av.ds d ah).t⟩⟩
def Th(h:c6 az g=0):g.n<=64:=by
 unfold c6 at h;cases aa:decide ((g.n:Int)=0)with
 |true=>rw[aa]at h;simp at h
 |false=>
  rw[aa,cE]at h;cases ad:oa g.ds with
  |false=>rw[ad]at h;simp at h
  |true=>
   rw[ad]at h;cases ak:pV az g with
   |true=>rw[ak]at h;simp at h| false=>unfold pV at ak;simp only[tB,st]at ak;omega
def acE{A:Nat->List Nat}{n:Nat}{fH:List Nat}(dI:∀ x,∀ y∈A x,y<n):∀ (f k:Nat) (l:List Nat),ud A n k fH l->n+1<=f+k->ud A n (FL A f k l).length fH (FL A f k l)
 |0,k,l,h,aB=>by have:=h.len;have:=h.k;omega
 |f+1,k,l,h,aB=>by
  rw[FL];cases ab:l[k]? with
  |none=>
   have aa:k=l.length:=by have:=h.k;have:=List.getElem?_eq_none_iff.1 ab;omega
   subst aa;exact h
  |some x=>exact acE dI f (k+1) _ (h.next dI ab) (by omega)
def mI.congr{B:Nat->List Nat}(h:∀ i k,k∈A i->k∈B i){i k:Nat}(ao:mI A i k):mI B i k:=by
 induction ao with
 |one aa=>exact .one (h _ _ aa)| step aa t aQ=>exact .step (h _ _ aa) aQ
def acF(ba:wP g){i k:Nat}:k∈p8 g.ds F i ↔ k∈me g.ds F i:=by
 unfold p8;rw[n4];constructor
 ·rintro⟨-,h⟩;simpa using h
 ·intro h;exact⟨by simpa using Tf ba i k h,by simpa using h⟩
def aos(ba:wP g){i k:Nat}:mI (p8 g.ds F) i k ↔ mI (me g.ds F) i k:=
 ⟨mI.congr λ_ _ h=>(acF ba).1 h,mI.congr λ_ _ h=>(acF ba).2 h⟩
def acG{ds:List a3}{i k:Nat}(h:k∈p8 ds F i):k<ds.length:=by unfold p8 at h;simpa using(n4.1 h).1
def aot(ds:List a3)(F:List aW)(i:Nat):(p8 ds F i).Nodup:=List.Nodup.sublist zT BY
def ud.start{ds:List a3}(i:Nat):ud (p8 ds F) ds.length 0 (p8 ds F i) (p8 ds F i):=
 ⟨aot ds F i,λx ab=>acG ab,λ_ h=>h,λ_ h=>.inl h,λj x ai=>absurd ai (ng _),dp _⟩
def Dh(ds:List a3)(F:List aW):List Nat:=(List.range ds.length).filter λi=>(FL (p8 ds F) (ds.length+1) 0 (p8 ds F i)).contains i
open Classical in
def aou(ba:wP g)(F:List aW):Dh g.ds F=r2 g.ds F:=by
 unfold Dh r2;refine G1 λi _=>?_;have aa:=acE (λx y aC=>acG aC) (g.ds.length+1) 0 _ (ud.start (ds:=g.ds) (F:=F) i) (by omega);have ad:=(aa.done i).trans (aos ba);cases ao:(FL (p8 g.ds F) (g.ds.length+1) 0 (p8 g.ds F i)).contains i with
 |true=>exact(iX (ad.1 (by simpa using ao))).symm| false=>refine(eY λh=>?_).symm;have:=ad.2 h;rw[<-List.contains_iff_mem,ao]at this;cases this
def vz:List Bool->Nat
 |[]=>0| b::r=>bif b then vz r+1 else vz r
open Classical in
noncomputable def M9(ds:List a3):List aW:=if h:∃ F,iw ds F then h.choose else []
def Ti{ds:List a3}(h:iw ds F):M9 ds=F:=by have ab:∃ F,iw ds F:=⟨F,h⟩;unfold M9;rw[dif_pos ab];exact ab.choose_spec.unique h
def pg(az:List Int)(g:cU)(r:Int×Int):Prop:=(c6 az g≠0/\r=(0,c6 az g))\/(c6 az g=0/\∃ F,iw g.ds F/\r=if 0<(r2 g.ds F).length then((((r2 g.ds F).headD 0:Nat):Int),42)else if 0<(p' g.ds F).length then((((p' g.ds F).headD 0:Nat):Int),43)else(0,0))
def pg.eq{l m:Int×Int}(h:pg az g l)(bq:pg az g m):l=m:=by
 rcases h with⟨a,rfl⟩ | ⟨a,F,d,rfl⟩<;>rcases bq with⟨bL,rfl⟩ | ⟨bL,dc,d',rfl⟩
 ·rfl
 ·exact absurd bL a
 ·exact absurd a bL
 ·rw[d.unique d']
def aov(be:e2 I az)(aw:g.ok I)(iy:∀ d∈g.ds,vl d.t):Spec Tryz.prog 103 [g.val] I [] λv I' M'=>(∀ b o,I b=some o->I' b=some o)/\M'=[] /\ ∃ r:Int×Int,v=.tuple #[.int .i64 r.1,.int .i64 r.2]/\pg az g r:=
 Spec.mH (aog be aw iy Th) λv I' M' h=>by
  obtain⟨aa,ad,r,ak,bz⟩:=h;refine⟨aa,ad,r,ak,?_⟩;rcases bz with bz | ⟨hm,F,c,d⟩;·exact .inl bz
  ·have ba:=LV aw.n hm;have lI:=Th hm;have iG:=aw.n;refine .inr ⟨hm,F,c,?_⟩;rw[d,Jh,bN (by simp),aor ba (by omega),aoq aw ba (by omega)]
def Di(be:e2 I az)(aw:g.ok I)(iy:∀ d∈g.ds,vl d.t):Spec Tryz.prog 49 [g.val] I [] λv I' M'=>(∀ b o,I b=some o->I' b=some o)/\M'=[] /\
  ∃ r:Int×Int,v=.int .i64 r.2/\pg az g r:=by
 refine bV [] aY Tryz.func49 rfl rfl rfl ?_;intro B ay;refine a8.mk [] [] _ (.refl _) (aov be aw iy) ?_;rintro v I1 N -⟨de,rfl,r,rfl,h⟩;exact⟨_,_,.refl,de,rfl,r,rfl,h⟩
section
end
structure r3 where
 k:Int
 cx:Int
 s1:Int
 s2:Int
 cY:Int
 t:List UInt8
 lo:Int
 hi:Int
 au:List Int
def r3.b3(c:r3)(a:Option Addr)(n k:Nat):al:=⟨c.k,c.cx,c.s1,c.s2,c.cY,⟨c.t.toArray⟩,c.lo,c.hi,a,n,k,c.au⟩
inductive y0:List r3->List al->Prop
 |nil:y0 [] []| cons {c cs ns} (a:Option Addr) (n k:Nat) (t:y0 cs ns):y0 (c::cs) (c.b3 a n k::ns)
structure nl where
 ns:List r3
 bC:Int
structure FM(c:nl)(t:bk):Prop where
 ns:y0 c.ns t.ns
 bC:t.bC=c.bC
structure kk where
 name:List UInt8
 t:nl
inductive qa:List kk->List a3->Prop
 |nil:qa [] []| cons {c cs ds} {t:bk} (h:FM c.t t) (k:qa cs ds):qa (c::cs) (⟨⟨c.name.toArray⟩,t⟩::ds)
def acH:Int->Bool
 | .ofNat k=>Nat.ble k 9223372036854775807| .negSucc k=>Nat.ble k 9223372036854775807
def acI:Int->Bool
 | .ofNat k=>Nat.ble k 18446744073709551615| .negSucc _=>false
def okB:Int->Bool
 | .ofNat k=>Nat.ble k 255| .negSucc _=>false
def aow{x:Int}(h:acH x=true):hz x:=by
 cases x with
 |ofNat k=>have:=bK h;exact⟨by simp only[Cc];omega,by simp only[Cc];omega⟩| negSucc k=>have:=bK h;exact⟨by omega,by omega⟩
def aox{x:Int}(h:acI x=true):fm x:=by
 cases x with
 |ofNat k=>have:=bK h;exact⟨by simp,by simp;omega⟩| negSucc k=>cases h
def aoy{x:Int}(h:okB x=true):0<=x/\x<256:=by
 cases x with
 |ofNat k=>have:=bK h;exact⟨by simp,by simp;omega⟩| negSucc k=>cases h
noncomputable def Tj:ap->Option Int
 | .i .u8 n=>b2 (okB n) (some n) none| _=>none
noncomputable def FN:ap->Option Int
 | .i .u64 n=>b2 (acI n) (some n) none| _=>none
noncomputable def FO:ap->Option Int
 | .i .i64 n=>b2 (acH n) (some n) none| _=>none
noncomputable def Na:ap->Option (List UInt8)
 | .s l=>b2 (Nat.ble l.length 140737488355328) (some l) none| _=>none
section
variable{D:bR}{v:ap}{u:Value}
def aoz{n:Int}(h:Tj v=some n)(aj:aU D v u):u=.int .u8 n/\0<=n/\n<256:=by
 unfold Tj at h;split at h
 ·obtain⟨aa,ad⟩:=fY h;cases ad;simp only[aU]at aj;exact⟨aj,aoy aa⟩
 ·cases h
def Nb{n:Int}(h:FN v=some n)(aj:aU D v u):u=.int .u64 n/\fm n:=by
 unfold FN at h;split at h
 ·obtain⟨aa,ad⟩:=fY h;cases ad;simp only[aU]at aj;exact⟨aj,aox aa⟩
 ·cases h
def Nc{n:Int}(h:FO v=some n)(aj:aU D v u):u=.int .i64 n/\hz n:=by
 unfold FO at h;split at h
 ·obtain⟨aa,ad⟩:=fY h;cases ad;simp only[aU]at aj;exact⟨aj,aow aa⟩
 ·cases h
def acJ{l:List UInt8}(h:Na v=some l)(aj:aU D v u):u=.string ⟨l.toArray⟩/\(⟨l.toArray⟩:ByteArray).size<=140737488355328:=by
 unfold Na at h;split at h
 ·obtain⟨aa,ad⟩:=fY h;cases ad;simp only[aU]at aj;exact⟨aj,bK aa⟩
 ·cases h
end
noncomputable def Jn{R:Type}(G:GT)(m:bh fw)(x:ap)(size b:Nat)(K:List ap->Option R):Option R:=match x with
 | .sn=>K []| .so=>K []| .sl id off n c=>b2 (Nat.ble n c) (b2 (Nat.ble (Nat.mul n b) 140737488355328) (tW G m (.p id off) (Nat.mul n size) K) none) none| .sx id off e n=>b2 (Nat.ble (Nat.mul n b) 140737488355328) (tW G m (.p id off) (Nat.mul n size) K) none| _=>none
noncomputable def ints:List ap->Option (List Int)
 |[]=>some []| v::l=>bu (FO v) none λn=>bu (ints l) none λr=>some (n::r)
noncomputable def Nd(G:GT)(m:bh fw):List ap->Option (List r3)
 |[]=>some []
 |a::b::c::d::e::f::g::h::x::l=>bu (Tj a) none λa=>bu (FN b) none λb=>bu (FN c) none λc=>bu (FN d) none λd=>bu (FN e) none λe=>bu (Na f) none λf=>bu (FO g) none λg=>bu (FO h) none λh=>
  bu (Jn G m x 1 8 ints) none λks=>bu (Nd G m l) none λns=>some (⟨a,b,c,d,e,f,g,h,ks⟩::ns)
 |_=>none
noncomputable def Nf(G:GT)(m:bh fw)(x r:ap):Option nl:=bu (Jn G m x 9 96 (Nd G m)) none λns=>bu (FO r) none λr=>some ⟨ns,r⟩
noncomputable def Ng(G:GT)(m:bh fw):List ap->Option (List kk)
 |[]=>some []| a::x::r::l=>bu (Na a) none λa=>bu (Nf G m x r) none λt=>bu (Ng G m l) none λds=>some (⟨a,t⟩::ds)
 |_=>none
noncomputable def Tk(G:GT)(m:bh fw):ap->Option (List kk)
 | .a [x]=>Jn G m x 3 48 (Ng G m)| _=>none
section
variable{Y:gS}{D:bR}{m:bw}{I J:aH}{M:List aE}
def Tl{R:Type}(h:dh Y D m I M)(a5:ub I M J){x:ap}(ab:aU D x u){K:List ap->Option R}{r:R}(af:Jn Y.G m.t x size b K=some r) :
  ∃ a n c l vs,u=.slice a n c/\cI J a n c size b vs/\bO D l vs/\K l=some r:=by
 unfold Jn at af;split at af
 ·simp only[aU]at ab;exact⟨none,0,0,[],[],ab,⟨by simp,⟨b' _,by omega⟩,.inl rfl⟩,by simp[bO],af⟩
 ·simp only[aU]at ab;obtain⟨a,c,ab⟩:=ab;exact⟨some a,0,c,[],[],ab,⟨by simp,⟨dp _,by omega⟩,.inl rfl⟩,by simp[bO],af⟩
 ·rename_i id off n c;obtain⟨aa,af⟩:=fY af;obtain⟨ad,af⟩:=fY af;simp only[aU]at ab;obtain⟨a,a7,ab⟩:=ab;obtain⟨aM,l,vs,aI,a6,cq,dS⟩:=w0 h (x:=.p id off) (u:=.pointer (some ⟨a.b,a.o+off,none⟩)) (by simp only[aU];exact⟨a,a7,rfl⟩) af;cases aI;obtain⟨bc,cs,T,f,bi,ca,gf⟩:=a6;exact⟨_,n,c,l,vs,ab,⟨gf,⟨bK aa,bK ad⟩,.inr ⟨_,rfl,rfl,cs,T,f,a5.aG _ _ bi,ca⟩⟩,cq,dS⟩
 ·rename_i id off e n;obtain⟨ad,af⟩:=fY af;simp only[aU]at ab;obtain⟨a,a7,ao,ab⟩:=ab;obtain⟨aM,l,vs,aI,a6,cq,dS⟩:=w0 h (x:=.p id off) (u:=.pointer (some ⟨a.b,a.o+off,none⟩)) (by simp only[aU];exact⟨a,a7,rfl⟩) af;cases aI;obtain⟨bc,cs,T,f,bi,ca,gf⟩:=a6;exact⟨_,n,a.c-e,l,vs,ab,⟨gf,⟨by omega,bK ad⟩,.inr ⟨_,rfl,rfl,cs,T,f,a5.aG _ _ bi,ca⟩⟩,cq,dS⟩
 ·cases af
def acK:∀ {l:List ap} {vs:List Value} {ks:List Int},ints l=some ks->bO D l vs->vs=ks.map (Value.int .i64 ·)/\∀ x∈ks,hz x
 |[],vs,ks,h,aj=>by cases h;simp only[bO]at aj;exact⟨aj,by simp⟩
 |v::l,vs,ks,h,aj=>by unfold ints at h;obtain⟨n,aa,h⟩:=ct h;obtain⟨r,ad,h⟩:=ct h;cases h;simp only[bO]at aj;obtain⟨x,xs,bc,bi,rfl⟩:=aj;obtain⟨rfl,aI⟩:=Nc aa bc;obtain⟨rfl,a6⟩:=acK ad bi;exact⟨rfl,λx ab=>(eI.1 ab).elim (λe=>e ▸ aI) (a6 x)⟩
def acL(h:dh Y D m I M)(a5:ub I M J):∀ (l:List ap) {vs:List Value} {cs:List r3},Nd Y.G m.t l=some cs->bO D l vs->∃ ns:List al,vs=ns.flatMap al.cells/\y0 cs ns/\∀ d∈ns,d.ok J
 |[],vs,cs,af,aj=>by cases af;simp only[bO]at aj;exact⟨[],aj,.nil,by simp⟩
 |a::b::c::d::e::f::g::i::x::l,vs,cs,af,aj=>by
  unfold Nd at af;obtain⟨bL,aa,af⟩:=ct af;obtain⟨jh,ad,af⟩:=ct af;obtain⟨c',ak,af⟩:=ct af;obtain⟨d',aK,af⟩:=ct af;obtain⟨cZ,bz,af⟩:=ct af;obtain⟨x',cu,af⟩:=ct af;obtain⟨eg,ep,af⟩:=ct af;obtain⟨gU,fa,af⟩:=ct af;obtain⟨ks,dR,af⟩:=ct af;obtain⟨jc,qB,af⟩:=ct af;cases af;simp only[bO]at aj;obtain⟨_,_,eT,⟨_,_,c4,⟨_,_,hM,⟨_,_,nJ,⟨_,_,SP,⟨_,_,aoA,⟨_,_,aoB,⟨_,_,aoC,⟨_,_,aoD,aoE,rfl⟩,rfl⟩,rfl⟩,rfl⟩,rfl⟩,rfl⟩,rfl⟩,rfl⟩,rfl⟩:=aj;obtain⟨rfl,aI⟩:=aoz aa eT;obtain⟨rfl,a6⟩:=Nb ad c4;obtain⟨rfl,cq⟩:=Nb ak hM;obtain⟨rfl,dS⟩:=Nb aK nJ;obtain⟨rfl,l5⟩:=Nb bz SP;obtain⟨rfl,nh⟩:=acJ cu aoA;obtain⟨rfl,Fx⟩:=Nc ep aoB;obtain⟨rfl,IY⟩:=Nc fa aoC;obtain⟨b0,aG,ch,li,awa,rfl,w6,aoF,aoG⟩:=Tl h a5 aoD dR;obtain⟨rfl,Tm⟩:=acK aoG aoF;obtain⟨ns,rfl,Tn,aoH⟩:=acL h a5 l qB aoE;refine⟨r3.b3 ⟨bL,jh,c',d',cZ,x',eg,gU,ks⟩ b0 aG ch::ns,rfl,.cons b0 aG ch Tn,λy aC=>?_⟩;rcases eI.1 aC with rfl | aC;·exact⟨aI,a6,cq,dS,l5,jg nh (by decide),Fx,IY,w6,Tm⟩
  ·exact aoH y aC
def acM(h:dh Y D m I M)(a5:ub I M J){x r:ap}{w:Value}{c:nl}(af:Nf Y.G m.t x r=some c)(ab:aU D x u)(hw:aU D r w):∃ t:bk,u=.slice t.a t.n t.c/\w=.int .i64 t.bC/\t.ok J/\FM c t:=by unfold Nf at af;obtain⟨ns,aa,af⟩:=ct af;obtain⟨k,ad,af⟩:=ct af;cases af;obtain⟨rfl,aI⟩:=Nc ad hw;obtain⟨a,n,c,l,vs,rfl,a6,cq,dS⟩:=Tl h a5 ab aa;obtain⟨ds,rfl,l5,nh⟩:=acL h a5 l dS cq;exact⟨⟨ds,a,n,c,k⟩,rfl,rfl,⟨a6,nh,aI⟩,⟨l5,rfl⟩⟩
def acN(h:dh Y D m I M)(a5:ub I M J):∀ (l:List ap) {vs:List Value} {cs:List kk},Ng Y.G m.t l=some cs->bO D l vs->∃ ds:List a3,vs=ds.flatMap a3.cells/\qa cs ds/\∀ d∈ds,d.ok J
 |[],vs,cs,af,aj=>by cases af;simp only[bO]at aj;exact⟨[],aj,.nil,by simp⟩
 |a::x::r::l,vs,cs,af,aj=>by
  unfold Ng at af;obtain⟨bL,aa,af⟩:=ct af;obtain⟨bn,ad,af⟩:=ct af;obtain⟨ds',ak,af⟩:=ct af;cases af;simp only[bO]at aj;obtain⟨_,_,eT,⟨_,_,c4,⟨_,_,hM,nJ,rfl⟩,rfl⟩,rfl⟩:=aj;obtain⟨rfl,aI⟩:=acJ aa eT;obtain⟨t,rfl,rfl,a6,cq⟩:=acM h a5 ad c4 hM;obtain⟨ds,rfl,dS,l5⟩:=acN h a5 l ak nJ;refine⟨⟨⟨bL.toArray⟩,t⟩::ds,rfl,.cons (c:=⟨bL,bn⟩) cq dS,λy aC=>?_⟩;rcases eI.1 aC with rfl | aC;·exact⟨aI,a6⟩
  ·exact l5 y aC
def aoI(h:dh Y D m I M)(a5:ub I M J){x:ap}{cs:List kk}(af:Tk Y.G m.t x=some cs)(ab:aU D x u):∃ g:cU,u=g.val/\g.ok J/\qa cs g.ds:=by
 unfold Tk at af;split at af
 ·simp only[aU,bO]at ab;obtain⟨_,⟨y,_,ab,rfl,rfl⟩,rfl⟩:=ab;obtain⟨a,n,c,l,vs,rfl,a6,cq,dS⟩:=Tl h a5 ab af;obtain⟨ds,rfl,l5,nh⟩:=acN h a5 l dS cq;exact⟨⟨ds,a,n,c⟩,rfl,⟨a6,nh⟩,l5⟩
 ·cases af
end
noncomputable def FP(f g:Nat)(text:List UInt8):Option (List kk×Int×IntKind×Int):=bu (yH vx (lF vx f) g [.s text] ⟨.nil,0⟩) none λp=>match p.1 with
 | .t [x,.i .i64 a,.i k e]=>bu (Tk Jd p.2.t x) none λc=>some (c,a,k,e)
 |_=>none
noncomputable def xg(f g:Nat)(text:List UInt8):Option (nl×Int×IntKind×Int):=bu (yH vx (lF vx f) g [.s text] ⟨.nil,0⟩) none λp=>match p.1 with
 | .t [.a [x,r],.i .i64 a,.i k e]=>bu (Nf Jd p.2.t x r) none λc=>some (c,a,k,e)
 |_=>none
def aoJ(be:e2 I dA){g:Nat}{c:List kk}{a:Int}{k:IntKind}{e:Int}(h:FP f g text=some (c,a,k,e)) :
  Spec Tryz.prog g [.string ⟨text.toArray⟩] I [] λr J kQ=>kQ=[]/\(∀ b o,I b=some o->J b=some o)/\∃ G:cU,r=.tuple #[G.val,.int .i64 a,.int k e]/\G.ok J/\qa c G.ds:=by
 unfold FP at h;obtain⟨⟨v,m'⟩,aa,h⟩:=ct h;refine Spec.mH (abZ be aa (us:=[.string ⟨text.toArray⟩]) (by simp[bO,aU])) ?_;rintro r J kQ⟨rfl,bf,I',M',bG,aj,hm,a5⟩;refine⟨rfl,bf,?_⟩;simp only at h;split at h
 ·obtain⟨c',ad,h⟩:=ct h;cases h;simp only[aU,bO]at aj;obtain⟨_,⟨u,_,hu,⟨_,_,rfl,⟨_,_,rfl,rfl,rfl⟩,rfl⟩,rfl⟩,rfl⟩:=aj;obtain⟨G,rfl,bc,bi⟩:=aoI hm a5 ad hu;exact⟨G,rfl,bc,bi⟩
 ·cases h
def acO(be:e2 I dA){g:Nat}{c:nl}{a:Int}{k:IntKind}{e:Int}(h:xg f g text=some (c,a,k,e)) :
  Spec Tryz.prog g [.string ⟨text.toArray⟩] I [] λr J kQ=>kQ=[]/\(∀ b o,I b=some o->J b=some o)/\∃ t:bk,r=.tuple #[t.val,.int .i64 a,.int k e]/\t.ok J/\FM c t:=by
 unfold xg at h;obtain⟨⟨v,m'⟩,aa,h⟩:=ct h;refine Spec.mH (abZ be aa (us:=[.string ⟨text.toArray⟩]) (by simp[bO,aU])) ?_;rintro r J kQ⟨rfl,bf,I',M',bG,aj,hm,a5⟩;refine⟨rfl,bf,?_⟩;simp only at h;split at h
 ·obtain⟨c',ad,h⟩:=ct h;cases h;simp only[aU,bO]at aj;obtain⟨_,⟨u,_,⟨_,⟨_,_,ab,⟨_,_,af,rfl,rfl⟩,rfl⟩,rfl⟩,⟨_,_,rfl,⟨_,_,rfl,rfl,rfl⟩,rfl⟩,rfl⟩,rfl⟩:=aj;obtain⟨t,rfl,rfl,bc,bi⟩:=acM hm a5 ad ab af;exact⟨t,rfl,bc,bi⟩
 ·cases h
def r3.pl(c:r3):al:=c.b3 none 0 0
def nl.jM(c:nl):bk:=⟨c.ns.map r3.pl,none,c.ns.length,0,c.bC⟩
def kk.To(c:kk):a3:=⟨⟨c.name.toArray⟩,c.t.jM⟩
def qW(cs:List kk):cU:=⟨cs.map kk.To,none,cs.length,0⟩
def y0.a4{cs:List r3}{ns:List al}(h:y0 cs ns):ns.map al.a4=cs.map r3.pl:=by
 induction h with
 |nil=>rfl| cons a n k t aQ=>rw[b5,b5,aQ];rfl
def y0.len{cs:List r3}{ns:List al}(h:y0 cs ns):ns.length=cs.length:=by
 induction h with
 |nil=>rfl| cons a n k t aQ=>simp[aQ]
def FM.a4{c:nl}(h:FM c t)(aq:t.ok I):t.a4=c.jM:=by unfold bk.a4 nl.jM;rw[h.ns.a4,h.bC,<-aq.n,h.ns.len]
def qa.a4{cs:List kk}{ds:List a3}(h:qa cs ds)(ah:∀ d∈ds,d.ok I):ds.map a3.a4=cs.map kk.To:=by
 induction h with
 |nil=>rfl| cons h k aQ=>rw[b5,b5,aQ λd fE=>ah d (.tail _ fE)];congr 1;unfold a3.a4 kk.To;rw[h.a4 (ah _ (.head _)).t]
def qa.len{cs:List kk}{ds:List a3}(h:qa cs ds):ds.length=cs.length:=by
 induction h with
 |nil=>rfl| cons h k aQ=>simp[aQ]
def Tp{cs:List kk}(h:qa cs g.ds)(aw:g.ok I):g.a4=qW cs:=by unfold cU.a4 qW;rw[h.a4 aw.ds,<-aw.n,h.len]
def aoK(c:nl):Bool:=c.ns.all λn=>decide (n.au.length<=1000)
def aoL{c:nl}(h:FM c t)(aq:t.ok I)(ae:aoK c=true):vl t:=λn aD=>by
 have aa:=(aq.ns n aD).aG;have ad:n.a4∈c.ns.map r3.pl:=by rw[<-h.ns.a4];exact cP.2 ⟨n,aD,rfl⟩
 obtain⟨x,ab,e⟩:=cP.1 ad;have ak:=cJ (fS.1 ae x ab);have aK:x.au=n.au:=congrArg al.au e;rw[aK]at ak;omega
def aoM{cs:List kk}{ds:List a3}(h:qa cs ds)(ah:∀ d∈ds,d.ok I)(ae:(cs.all λd=>d.t.ns.all λn=>decide (n.au.length<=1000))=true):∀ d∈ds,vl d.t:=by
 induction h with
 |nil=>intro d ah;cases ah
 |cons h k aQ=>
  simp only[xA,cB]at ae;intro d hm;rcases eI.1 hm with rfl | hm;·exact aoL h (ah _ (.head _)).t ae.1
  ·exact aQ (λd fE=>ah d (.tail _ fE)) (by simpa using ae.2) d hm
def Tq(ds:List a3)(F:List aW)(i:Nat):me (ds.map a3.a4) F i=me ds F i:=by
 unfold me;rw[iB,ER];cases ds[i]? with
 |none=>rfl| some d=>show(gv (bM ds) F (d.t.ns.map al.a4) d.t.bC).2=_;rw[akQ]
def aoN(ds:List a3)(F:List aW)(i:Nat):xf (ds.map a3.a4) F i=xf ds F i:=by
 unfold xf;rw[iB,ER];cases ds[i]? with
 |none=>rfl| some d=>show(pf (bM ds) F (d.t.ns.map al.a4) d.t.bC).2=_;rw[aol]
def aoO(ds:List a3)(F:List aW):p8 (ds.map a3.a4) F=p8 ds F:=by funext i;unfold p8;rw[bx,Tq]
def Tr(ds:List a3)(F:List aW):p' (ds.map a3.a4) F=p' ds F:=by unfold p';rw[bx];exact G1 λi _=>aoN ds F i
def aoP(ds:List a3)(F:List aW):Dh (ds.map a3.a4) F=Dh ds F:=by unfold Dh;rw[bx,aoO]
def acP{ds:List a3}{l:List aW}(h:iw (ds.map a3.a4) l):iw ds l:=by
 refine⟨by rw[h.len,bx],λi hi=>?_,λm hm ao=>?_⟩
 ·have:=h.fix i (by simpa using hi);rwa [ER,fW,LZ]at this
 ·refine h.least m (by rw[hm,bx]) λi hi=>?_;rw[ER,fW,LZ];exact ao i (by simpa using hi)
def Ts(ds:List a3)(F:List aW):Int×Int:=bif decide (0<(Dh ds F).length)then((((Dh ds F).headD 0:Nat):Int),42)else bif decide (0<(p' ds F).length)then((((p' ds F).headD 0:Nat):Int),43)else(0,0)
structure Jo(cs:List kk)(F:List aW):Prop where
 may:c6 dA (qW cs)=0
 Jp:iw (qW cs).ds F
 Qy:(cs.all λd=>d.t.ns.all λn=>decide (n.au.length<=1000))=true
def Jo.of{cs:List kk}(ek:Jo cs F)(aw:g.ok I)(aV:qa cs g.ds):c6 dA g=0/\iw g.ds F/\(∀ d∈g.ds,vl d.t):=by
 have eh:=Tp aV aw;have fD:g.ds.map a3.a4=(qW cs).ds:=congrArg cU.ds eh;have hm:c6 dA g=0:=by rw[<-CI,eh];exact ek.may
 refine⟨hm,?_,aoM aV aw.ds ek.Qy⟩;have:=ek.Jp;rw[<-fD]at this;exact acP this
def aoQ{cs:List kk}(ek:Jo cs F)(aw:g.ok I)(aV:qa cs g.ds)(h:pg dA g r):r=Ts (qW cs).ds F:=by
 obtain⟨hm,bE,-⟩:=ek.of aw aV;have fD:g.ds.map a3.a4=(qW cs).ds:=congrArg cU.ds (Tp aV aw);have ba:=LV aw.n hm;rcases h with⟨a,-⟩ | ⟨-,dc,mR,rfl⟩
 ·exact absurd hm a
 ·obtain rfl:=bE.unique mR;rw[<-fD,Ts,aoP,Tr,aou ba];by_cases aa:0<(r2 g.ds F).length
  ·rw[bT aa,iX aa,cF]
  ·rw[bN aa,eY aa,cE];by_cases ad:0<(p' g.ds F).length
   ·rw[bT ad,iX ad,cF]
   ·rw[bN ad,eY ad,cE]
def Jq(ds:List a3):Nat->List aW->List aW
 |0,L=>L| k+1,L=>Jq ds k (ds.map (i' (bM ds) L))
def acQ{ds:List a3}:∀ (k:Nat) {L:List aW},o4 ds L->ds.map (i' (bM ds) (Jq ds k L))=Jq ds k L->iw ds (Jq ds k L)
 |0,L,aJ,h=>by refine⟨aJ.len,λi hi=>?_,aJ.least⟩;have:=M7 (f:=i' (bM ds) L) hi;have aa:ds.map (i' (bM ds) L)=L:=h;rw[aa]at this;exact this
 |k+1,L,aJ,h=>acQ k aJ.all.1 h
def Nh(cs:List kk)(k:Nat):List aW:=Jq (qW cs).ds k (List.replicate (qW cs).ds.length cf)
def Jr(cs:List kk)(F:List aW)(k:Nat):Bool:=decide (c6 dA (qW cs)=0)&&(decide (Nh cs k=F)&&(decide ((qW cs).ds.map (i' (bM (qW cs).ds) F)=F)&&cs.all λd=>d.t.ns.all λn=>decide (n.au.length<=1000)))
def aoR{cs:List kk}{k:Nat}(h:Jr cs F k=true):Jo cs F:=by simp only[Jr,cB,h6]at h;obtain⟨aa,ad,ak,aK⟩:=h;refine⟨aa,?_,by simpa using aK⟩;have:=acQ k (o4.start (qW cs).ds);unfold Nh at ad;rw[ad]at this;exact this ak
section
end
section
end
def pg.get(hm:c6 az g=0)(h:pg az g r):r.2=0 ↔ (r2 g.ds (M9 g.ds)).length=0/\(p' g.ds (M9 g.ds)).length=0:=by
 rcases h with⟨a,-⟩ | ⟨-,F,c,rfl⟩
 ·exact absurd hm a
 ·rw[Ti c];by_cases aa:0<(r2 g.ds F).length
  ·rw[bT aa];simp only;omega
  ·rw[bN aa];by_cases ad:0<(p' g.ds F).length
   ·rw[bT ad];simp only;omega
   ·rw[bN ad];exact⟨λ_=>⟨by omega,by omega⟩,λ_=>rfl⟩
def aoS(be:e2 I az)(aq:t.ok I)(af:right t=true){r:Nat}(en:t.bC=(r:Int))(eH:r<t.ns.length):Spec Tryz.prog 54 [t.val] I M0 λv I' M'=>v=(t.ns[r].dX []).val/\I'=I/\M'=M0:=by refine bV [] aY Tryz.func54 rfl rfl rfl ?_;intro B ay;have hk:=aq.n;obtain⟨aM,bB,bp⟩:=aq.a'.row al.cL (show r<t.n by omega) eH;generalize t.ns[r]=d at bp;refine a8.mk [] M0 _ (.refl _) (n7 be.c aq) ?_;rintro v J N -⟨rfl,rfl,rfl⟩;refine aX.mk (λh=>absurd h (by simp[af])) (λ_=>?_);refine bm.mk aM r bB en (by omega) ?_;refine aO.mk _ (bp _) ?_;exact⟨_,_,.refl,rfl,rfl,rfl⟩
def aR.jz{J:aH}(bE:ub I M J)(h:os.ok size xs)(ba:∀ x∈os.ar e,x∈M)(ag:os.n*b<=140737488355328):cI J (os.a.map λg=>⟨g,0,none⟩) os.n os.c size b xs:=by
 obtain⟨a,n,c,aS⟩:=os;cases a with
 |none=>obtain⟨aa,ad⟩:=h.nil rfl;exact⟨h.len,⟨by simp only at aa ad |-;omega,ag⟩,.inl aa⟩
 |some g=>obtain⟨aa,ad,ak,aK⟩:=h.cap g rfl;exact⟨h.len,⟨ad,ag⟩,.inr ⟨⟨g,0,none⟩,rfl,rfl,aS.toArray,e,(0,0),bE.aG _ _ (.inr ⟨⟨g,.cells aS.toArray e (0,0)⟩,ba _ (.head _),rfl,rfl⟩),by simpa using aK⟩⟩
def cI.y1{c:Nat}(h:cI I a n c size b vs)(M:List aE)(ay:0<n):∃ aM,a=some aM/\cR I M aM (n*size) vs:=by
 rcases h.rd with aa | ⟨aM,aa,ad,cs,T,an,ak,aK⟩
 ·omega
 ·exact⟨aM,aa,ad,cs,T,an,.inl ak,aK,h.len⟩
def FQ(l:List Int):fK (l.map (.int .i64 ·))=true:=fS.2 λv aj=>by obtain⟨k,_,rfl⟩:=cP.1 aj;rfl
def Ni{f:α->List Value}(h:∀ x,fK (f x)=true)(l:List α):fK (l.flatMap f)=true:=fS.2 λv aj=>by obtain⟨x,_,ab⟩:=hl.1 aj;exact fS.1 (h x) v ab
def al.one(d:al):fK d.cells=true:=rfl
def a3.one(d:a3):fK d.cells=true:=rfl
def aoT{c:Nat}(h:cI I a n c 1 8 vs)(aa:fK vs=true):Spec Tryz.prog 230 [.slice a n c] I M0 λv I' M'=>I'=I/\∃ os:aR,os.n=n/\os.ok 1 vs/\v=os.val/\M'=os.ar 3++M0:=by
 refine bV [] aY Tryz.func230 rfl rfl rfl ?_;intro B ay;have hA:=h.cap;refine fT.Sh aY rfl rfl ?_;refine aX.mk (λao=>?_) (λao=>?_)
 ·have aD:n=0:=by
   rcases h.rd with ad | ⟨aM,ad,_⟩;·exact ad
   ·rw[ad]at ao;cases ao
  subst aD;have ak:vs=[]:=jl (by rw[h.len,zC]);subst ak;exact⟨_,_,.refl,rfl,h2,rfl,k1 1,rfl,rfl⟩
 refine bW.mk λb ag wz=>?_;refine bD.wS aY rfl (by simp) (e:=3) rfl rfl rfl ⟨some b,0,0,[]⟩ (xs:=[]) ⟨rfl,(λh=>by cases h),(λg h=>⟨rfl,b' _,dp _,rfl⟩)⟩ rfl (sa:=a) (m:=n) (c':=c) (cb:=vs) rfl h.len (h.y1 _) aa [] M0 rfl (by simp only;omega) (by show(0+n)*8<=_;omega) ?_;intro os aD bA bg;rw[hX]at bg;exact⟨_,_,.refl,rfl,os,aD.trans (du n),bg,rfl,rfl⟩
def aoU{c:Nat}(h:cI I a n c 1 8 vs)(aa:fK vs=true):Spec Tryz.prog 230 [.slice a n c] I M0 λv I' M'=>(∀ b o,I b=some o->I' b=some o)/\M'=M0/\∃ bL c',v=.slice bL n c'/\cI I' bL n c' 1 8 vs:=by refine Spec.mH (Spec.frame (Spec.jz (aoT (M0:=[]) h aa))) ?_;rintro v J M⟨M',rfl,-,a5,rfl,-,I',M1,⟨rfl,os,rfl,b4,rfl,rfl⟩,bE⟩;have hA:=h.cap;exact⟨a5,rfl,_,_,rfl,aR.jz bE b4 (λz bb=>iR _ bb) hA.2⟩
def aoV{c:Nat}(h:cI I a n c 9 96 vs)(aa:fK vs=true):Spec Tryz.prog 229 [.slice a n c] I M0 λv I' M'=>I'=I/\∃ os:aR,os.n=n/\os.ok 9 vs/\v=os.val/\M'=os.ar 82++M0:=by
 refine bV [] aY Tryz.func229 rfl rfl rfl ?_;intro B ay;have hA:=h.cap;refine fT.Sh aY rfl rfl ?_;refine aX.mk (λao=>?_) (λao=>?_)
 ·have aD:n=0:=by
   rcases h.rd with ad | ⟨aM,ad,_⟩;·exact ad
   ·rw[ad]at ao;cases ao
  subst aD;have ak:vs=[]:=jl (by rw[h.len,zC]);subst ak;exact⟨_,_,.refl,rfl,h2,rfl,k1 9,rfl,rfl⟩
 refine bW.mk λb ag wz=>?_;refine bD.wS aY rfl (by simp) (e:=82) rfl rfl rfl ⟨some b,0,0,[]⟩ (xs:=[]) ⟨rfl,(λh=>by cases h),(λg h=>⟨rfl,b' _,dp _,rfl⟩)⟩ rfl (sa:=a) (m:=n) (c':=c) (cb:=vs) rfl h.len (h.y1 _) aa [] M0 rfl (by simp only;omega) (by show(0+n)*96<=_;omega) ?_;intro os aD bA bg;rw[hX]at bg;exact⟨_,_,.refl,rfl,os,aD.trans (du n),bg,rfl,rfl⟩
def aoW{c:Nat}(h:cI I a n c 3 48 vs)(aa:fK vs=true):Spec Tryz.prog 228 [.slice a n c] I M0 λv I' M'=>I'=I/\∃ os:aR,os.n=n/\os.ok 3 vs/\v=os.val/\M'=os.ar 59++M0:=by
 refine bV [] aY Tryz.func228 rfl rfl rfl ?_;intro B ay;have hA:=h.cap;refine fT.Sh aY rfl rfl ?_;refine aX.mk (λao=>?_) (λao=>?_)
 ·have aD:n=0:=by
   rcases h.rd with ad | ⟨aM,ad,_⟩;·exact ad
   ·rw[ad]at ao;cases ao
  subst aD;have ak:vs=[]:=jl (by rw[h.len,zC]);subst ak;exact⟨_,_,.refl,rfl,h2,rfl,k1 3,rfl,rfl⟩
 refine bW.mk λb ag wz=>?_;refine bD.wS aY rfl (by simp) (e:=59) rfl rfl rfl ⟨some b,0,0,[]⟩ (xs:=[]) ⟨rfl,(λh=>by cases h),(λg h=>⟨rfl,b' _,dp _,rfl⟩)⟩ rfl (sa:=a) (m:=n) (c':=c) (cb:=vs) rfl h.len (h.y1 _) aa [] M0 rfl (by simp only;omega) (by show(0+n)*48<=_;omega) ?_;intro os aD bA bg;rw[hX]at bg;exact⟨_,_,.refl,rfl,os,aD.trans (du n),bg,rfl,rfl⟩
structure aoX(I:aH)(t:bk)(os0:aR)(x:Nat×aR×List al×aH):Prop where
 i:x.1<=t.n
 ok:x.2.1.ok 9 (x.2.2.1.flatMap al.cells)
 a4:x.2.2.1.map al.a4=t.ns.map al.a4
 ns:∀ d∈x.2.2.1,d.ok x.2.2.2
 le:∀ b o,I b=some o->x.2.2.2 b=some o
 a:x.2.1.a=os0.a
 v:x.2.1.val=os0.val
def aoY{i:Nat}(hi:i<L.length){d:al}(h:d.a4=L[i].a4):(L.set i d).map al.a4=L.map al.a4:=by
 rw[rn,h];refine zU λj=>?_;rw[iW];split
 ·rename_i e;subst e;rw[bx,bT hi,iB,dg hi];rfl
 ·rfl
def y2{br:aR}(h:os.val=br.val):os.n=br.n/\os.c=br.c:=by
 unfold aR.val at h;injection h with aa ad ak
 exact⟨ad,ak⟩
def aoZ(aq:t.ok I):Spec Tryz.prog 179 [t.val] I [] λv I' M'=>(∀ b o,I b=some o->I' b=some o)/\∃ (os:aR) (L:List al),v=.agg #[os.val,.int .i64 t.bC]/\os.n=t.n/\os.ok 9 (L.flatMap al.cells)/\M'=os.ar 82/\L.map al.a4=t.ns.map al.a4/\∀ d∈L,d.ok I':=by
 refine bV [] aY Tryz.func179 rfl rfl rfl ?_;intro B ay;have hk:=aq.n;have hA:=aq.a'.cap;refine a8.whole _ (aoV aq.a' (Ni al.one _)) ?_;rintro v J N -⟨rfl,os0,ao0,A0,rfl,ho⟩;subst N;refine dt.inv (ι:=Nat×aR×List al×aH) (λx=>{ bo:=[(1,.ref 1 0),(2,.ref 2 0),(10,.val os0.val),(11,.val (.int .i64 os0.n)),(12,.val (.int .i64 x.1))],cl:=[(1,[os0.val,.int .i64 t.bC]),(2,[.slice none 0 0,.int .i64 0])],cH:=x.2.2.2,dd:=x.2.1.ar 82++[] }) (λx=>aoX J t os0 x) (λx=>t.n-x.1) ?_ ?_
 ·exact⟨(0,os0,t.ns,J),⟨dp _,A0,rfl,aq.ns,λ_ _ h=>h,rfl,rfl⟩,.refl,hx,.cons rfl (.cons rfl (.nil))⟩
 rintro⟨i,os,L,K⟩⟨hi,b4,eh,jn,bf,oi,lJ⟩;simp only at hi b4 eh jn bf oi lJ;have y3:L.length=t.ns.length:=by simpa using congrArg List.length eh
 obtain⟨ic,acR⟩:=y2 lJ;refine aX.mk (λh=>?_) (λh=>?_)
 rotate_left
 ·exact⟨_,_,.refl,bf,os,L,by rw[lJ];rfl,by omega,b4,by rw[dF],eh,jn⟩
 have aZ:i<t.n:=by have:(i:Int)<(os0.n:Int):=cJ h;omega
 have lE:i<L.length:=by omega
 obtain⟨aM,bB,bp⟩:=aR.ok.row (I:=K) (M:=os.ar 82++[]) (e:=82) al.cL (by decide) b4 (λz bb=>iR _ bb) lE;have h5:=jn _ (bJ lE);have s0:=bB;rw[oi]at s0;refine bm.mk aM i s0 rfl (by omega) ?_;refine aO.mk _ bp ?_;refine cT.draw aY rfl rfl rfl ?_;refine eJ.whole _ (aoU h5.a' (FQ _)) (λv I' M' h x ab=>by rw[h.2.1];exact ab) ?_;rintro v hE N -⟨ue,ho,bL,c',rfl,dB⟩;subst N;refine bm.mk aM i s0 rfl (by omega) ?_;have e8:({ L[i]with b0:=bL,ch:=c' }:al).ok hE:={ h5.mono ue with a':=dB };have Tt:({ L[i]with b0:=bL,ch:=c' }:al).a4=L[i].a4:=rfl;have g2:=aoY lE Tt;refine aR.Fk (e:=82) al.cells 9 al.cL b4 lE 8 (vs:=[.slice bL L[i].aG c']) (bK rfl) rfl { L[i]with b0:=bL,ch:=c' } rfl [] [] (by simp) bB ?_;intro ix lU nn jy iE;refine bd.mk _ (c8 (i:=i) (by omega)) ?_;refine⟨(i+1,ix,L.set i { L[i]with b0:=bL,ch:=c' },hE),⟨⟨aZ,iE,g2.trans eh,λd ah=>?_,λb o h=>ue _ _ (bf _ _ h),nn.trans oi,lU.trans lJ⟩,by simp only;omega⟩,.refl,hx,.cons rfl (.cons rfl (.nil))⟩;rcases xb ah with ah | rfl
 ·exact(jn _ ah).mono ue
 ·exact e8
def acS(aq:t.ok I):Spec Tryz.prog 179 [t.val] I M0 λv I' M'=>(∀ b o,I b=some o->I' b=some o)/\M'=M0/\∃ bn:bk,v=bn.val/\bn.ok I'/\bn.a4=t.a4:=by refine Spec.mH (Spec.frame (Spec.jz (aoZ aq))) ?_;rintro v J M⟨M',rfl,-,a5,rfl,-,I',M1,⟨aa,os,L,rfl,aD,b4,rfl,eh,jn⟩,bE⟩;have hA:=aq.a'.cap;refine⟨a5,rfl,⟨L,os.a.map λg=>⟨g,0,none⟩,os.n,os.c,t.bC⟩,rfl,⟨aR.jz bE b4 (λ_ h=>h) (by omega),λd ah=>(jn d ah).mono bE.le,aq.bC⟩,?_⟩;unfold bk.a4;rw[eh,aD]
structure ao1(I:aH)(g:cU)(os0:aR)(x:Nat×aR×List a3×aH):Prop where
 i:x.1<=g.n
 ok:x.2.1.ok 3 (x.2.2.1.flatMap a3.cells)
 a4:x.2.2.1.map a3.a4=g.ds.map a3.a4
 ds:∀ d∈x.2.2.1,d.ok x.2.2.2
 le:∀ b o,I b=some o->x.2.2.2 b=some o
 a:x.2.1.a=os0.a
 v:x.2.1.val=os0.val
def ao2{L:List a3}{i:Nat}(hi:i<L.length){d:a3}(h:d.a4=L[i].a4):(L.set i d).map a3.a4=L.map a3.a4:=by
 rw[rn,h];refine zU λj=>?_;rw[iW];split
 ·rename_i e;subst e;rw[bx,bT hi,iB,dg hi];rfl
 ·rfl
def ao3(aw:g.ok I):Spec Tryz.prog 178 [g.val] I [] λv I' M'=>(∀ b o,I b=some o->I' b=some o)/\∃ (os:aR) (L:List a3),v=.agg #[os.val]/\os.n=g.n/\os.ok 3 (L.flatMap a3.cells)/\M'=os.ar 59/\L.map a3.a4=g.ds.map a3.a4/\∀ d∈L,d.ok I':=by
 refine bV [] aY Tryz.func178 rfl rfl rfl ?_;intro B ay;have iG:=aw.n;have hA:=aw.a'.cap;refine a8.whole _ (aoW aw.a' (Ni a3.one _)) ?_;rintro v J N -⟨rfl,os0,ao0,A0,rfl,ho⟩;subst N;refine dt.inv (ι:=Nat×aR×List a3×aH) (λx=>{ bo:=[(1,.ref 1 0),(2,.ref 2 0),(10,.val os0.val),(11,.val (.int .i64 os0.n)),(12,.val (.int .i64 x.1))],cl:=[(1,[os0.val]),(2,[.slice none 0 0])],cH:=x.2.2.2,dd:=x.2.1.ar 59++[] }) (λx=>ao1 J g os0 x) (λx=>g.n-x.1) ?_ ?_
 ·exact⟨(0,os0,g.ds,J),⟨dp _,A0,rfl,aw.ds,λ_ _ h=>h,rfl,rfl⟩,.refl,hx,.cons rfl (.cons rfl (.nil))⟩
 rintro⟨i,os,L,K⟩⟨hi,b4,eh,fD,bf,oi,lJ⟩;simp only at hi b4 eh fD bf oi lJ;have y3:L.length=g.ds.length:=by simpa using congrArg List.length eh
 obtain⟨ic,acR⟩:=y2 lJ;refine aX.mk (λh=>?_) (λh=>?_)
 rotate_left
 ·exact⟨_,_,.refl,bf,os,L,by rw[lJ];rfl,by omega,b4,by rw[dF],eh,fD⟩
 have aZ:i<g.n:=by have:(i:Int)<(os0.n:Int):=cJ h;omega
 have lE:i<L.length:=by omega
 obtain⟨aM,bB,bp⟩:=aR.ok.row (I:=K) (M:=os.ar 59++[]) (e:=59) a3.cL (by decide) b4 (λz bb=>iR _ bb) lE;have h5:=fD _ (bJ lE);have s0:=bB;rw[oi]at s0;refine bm.mk aM i s0 rfl (by omega) ?_;refine aO.mk _ bp ?_;refine cT.draw aY rfl rfl rfl ?_;refine eJ.whole _ (acS h5.t) (λv I' M' h x ab=>by rw[h.2.1];exact ab) ?_;rintro v hE N -⟨ue,ho,bn,rfl,jN,Tu⟩;subst N;refine bm.mk aM i s0 rfl (by omega) ?_;have e8:(⟨L[i].name,bn⟩:a3).ok hE:=⟨h5.name,jN⟩;have Tt:(⟨L[i].name,bn⟩:a3).a4=L[i].a4:=by unfold a3.a4;rw[Tu]
 have g2:=ao2 lE Tt;refine aR.Fk (e:=59) a3.cells 3 a3.cL b4 lE 1 (vs:=[.slice bn.a bn.n bn.c,.int .i64 bn.bC]) (bK rfl) rfl ⟨L[i].name,bn⟩ rfl [] [] (by simp) bB ?_;intro ix lU nn jy iE;refine bd.mk _ (c8 (i:=i) (by omega)) ?_;refine⟨(i+1,ix,L.set i ⟨L[i].name,bn⟩,hE),⟨⟨aZ,iE,g2.trans eh,λd ah=>?_,λb o h=>ue _ _ (bf _ _ h),nn.trans oi,lU.trans lJ⟩,by simp only;omega⟩,.refl,hx,.cons rfl (.cons rfl (.nil))⟩;rcases xb ah with ah | rfl
 ·exact(fD _ ah).mono ue
 ·exact e8
def ao4(aw:g.ok I):Spec Tryz.prog 178 [g.val] I M0 λv I' M'=>(∀ b o,I b=some o->I' b=some o)/\∃ (os:aR) (L:List a3),v=.agg #[os.val]/\os.n=g.n/\os.ok 3 (L.flatMap a3.cells)/\M'=os.ar 59++M0/\L.map a3.a4=g.ds.map a3.a4/\∀ d∈L,d.ok I':=by refine Spec.mH (Spec.frame (ao3 aw)) ?_;rintro v J M⟨M',rfl,-,a5,aa,os,L,rfl,aD,b4,rfl,eh,fD⟩;exact⟨a5,os,L,rfl,aD,b4,rfl,eh,fD⟩
def ao5(f:α->List Value)(size:Nat)(aB:∀ x,(f x).length=size)(l:List α)(j:Nat):(l.drop j).flatMap f=(l.flatMap f).drop (j*size):=by
 by_cases h:j<=l.length
 ·have e:l.flatMap f=(l.take j).flatMap f++(l.drop j).flatMap f:=by rw[<-fI,pM]
  have ad:((l.take j).flatMap f).length=j*size:=by rw[gO f size aB,L4 h]
  rw[e,<-ad,Ra]
 ·have aa:l.length<=j:=by omega
  rw[sT aa,sT (by rw[gO f size aB];exact qg _ aa)];rfl
def ao6(aw:g.ok I){u:Nat}(hu:u<g.ds.length)(aD:g.n<=1000000)(aq:t.ok I):Spec Tryz.prog 114 [g.val,.int .i64 u,t.val] I [] λv I' M'=>(∀ b o,I b=some o->I' b=some o)/\∃ (os:aR) (L:List a3),v=.tuple #[.agg #[os.val],.bool true]/\os.n=g.n/\os.ok 3 (L.flatMap a3.cells)/\M'=os.ar 59/\L.map a3.a4=(g.ds.set u ⟨g.ds[u].name,t⟩).map a3.a4/\∀ d∈L,d.ok I':=by
 refine bV [] aY Tryz.func114 rfl rfl rfl ?_;intro B ay;have iG:=aw.n;refine bX.mk (λ_=>?_) (λh=>absurd h (by simp));refine aX.mk (λh=>?_) (λ_=>?_)
 ·have:(g.n:Int)<=(u:Int):=cJ h;omega
 refine a8.whole _ (ao4 aw) ?_;rintro v J N -⟨a5,os,L,rfl,ic,b4,ho,eh,fD⟩;subst N;have y3:L.length=g.ds.length:=by simpa using congrArg List.length eh
 have Nj:u<L.length:=by omega
 refine cT.draw aY rfl rfl rfl ?_;refine eJ.whole _ (acS (aq.mono a5)) (λv I' M' h x ab=>by rw[h.2.1];exact ab) ?_;rintro v hE N -⟨ue,ho,bn,rfl,jN,Tu⟩;subst N;obtain⟨aM,bB,bp⟩:=aR.ok.row (I:=hE) (M:=os.ar 59++[]) (e:=59) a3.cL (by decide) b4 (λz bb=>iR _ bb) Nj;have n5:L[u].a4=g.ds[u].a4:=by
  have aa:(L.map a3.a4)[u]?=(g.ds.map a3.a4)[u]?:=by rw[eh]
  rw[iB,iB,dg Nj,dg hu]at aa;exact eX aa
 have mu:L[u].name=g.ds[u].name:=by have aa:L[u].a4.name=g.ds[u].a4.name:=congrArg a3.name n5;exact aa
 have e8:(⟨L[u].name,bn⟩:a3).ok hE:=⟨(fD _ (bJ Nj)).name,jN⟩;refine bm.mk aM u bB rfl (show u<os.n by omega) ?_;refine aR.Fk (e:=59) a3.cells 3 a3.cL b4 Nj 1 (vs:=[.slice bn.a bn.n bn.c,.int .i64 bn.bC]) (bK rfl) rfl ⟨L[u].name,bn⟩ rfl [] [] (by simp) bB ?_;intro ix lU nn jy iE;refine⟨_,_,.refl,λb o h=>ue _ _ (a5 _ _ h),ix,L.set u ⟨L[u].name,bn⟩,by rw[lU];rfl,by omega,iE,by simp,?_,λd ah=>?_⟩
 ·rw[rn,rn,eh];congr 1;unfold a3.a4;rw[Tu,mu]
 ·rcases xb ah with ah | rfl
  ·exact(fD _ ah).mono ue
  ·exact e8
def ao7(aw:g.ok I){u:Nat}(hu:u<g.ds.length)(aD:g.n<=1000000)(aq:t.ok I):Spec Tryz.prog 114 [g.val,.int .i64 u,t.val] I M0 λv I' M'=>(∀ b o,I b=some o->I' b=some o)/\M'=M0/\∃ h:cU,v=.tuple #[h.val,.bool true]/\h.ok I'/\h.n=g.n/\h.ds.map a3.a4=(g.ds.set u ⟨g.ds[u].name,t⟩).map a3.a4:=by refine Spec.mH (Spec.frame (Spec.jz (ao6 aw hu aD aq))) ?_;rintro v J M⟨M',rfl,-,a5,rfl,-,I',M1,⟨aa,os,L,rfl,ic,b4,rfl,eh,fD⟩,bE⟩;exact⟨a5,rfl,⟨L,os.a.map λg=>⟨g,0,none⟩,os.n,os.c⟩,rfl,⟨aR.jz bE b4 (λ_ h=>h) (by omega),λd ah=>(fD d ah).mono bE.le⟩,ic,eh⟩
def iI(z:Int):List Value:=[.int .i64 z]
def oq:∀ l:List Int,l.flatMap iI=l.map (.int .i64 ·)
 |[]=>rfl| z::l=>by rw[iS,oq l];rfl
structure ao8(fH:List Int)(I:aH)(os0:aR)(x:Nat×aR×List Int):Prop where
 i:2*x.1<=fH.length+1
 ok:x.2.1.ok 1 (x.2.2.flatMap iI)
 len:x.2.2.length=fH.length
 bF:∀ k,k<fH.length->x.2.2[k]?=if k<x.1\/fH.length<=k+x.1 then fH[fH.length-1-k]? else fH[k]?
 a:x.2.1.a=os0.a
 v:x.2.1.val=os0.val
def acT{os0:aR}{fH:List Int}(A0:os0.ok 1 (fH.map (.int .i64 ·)))(ag:os0.n<=1099511627776):Spec Tryz.prog 226 [os0.val] I (os0.ar 3++M0) λv I' M'=>I'=I/\∃ br:aR,br.val=os0.val/\br.ok 1 (fH.reverse.map (.int .i64 ·))/\M'=br.ar 3++M0:=by
 refine bV [] aY Tryz.func226 rfl rfl rfl ?_;intro B ay;have sR:=A0.pW;refine bd.mk ((fH.length:Int)-1) (by show IntKind.i64.wrap ((os0.n:Int)-1)=_;rw[wrap_i64 ⟨by omega,by omega⟩,sR]) ?_;refine dt.inv (ι:=Nat×aR×List Int) (λx=>{ bo:=[(0,.val os0.val),(2,.val (.int .i64 x.1)),(3,.val (.int .i64 ((fH.length:Int)-1-x.1)))],cl:=[],cH:=I,dd:=x.2.1.ar 3++M0 }) (λx=>ao8 fH I os0 x) (λx=>fH.length-x.1) ?_ ?_
 ·refine⟨(0,os0,fH),⟨by simp,by rw[oq];exact A0,rfl,λk ae=>?_,rfl,rfl⟩,.refl,.cons .refl (.cons .refl (.cons ?_ .nil)),.nil⟩
  ·simp only;rw[bN (by omega)]
  ·simp only[Int.ofNat_zero,Int.sub_zero];exact .refl
 rintro⟨i,os,l⟩⟨hi,b4,cS,e5,oi,lJ⟩;simp only at hi b4 cS e5 oi lJ;obtain⟨ic,acR⟩:=y2 lJ;refine aX.mk (λh=>?_) (λh=>?_)
 rotate_left
 ·have c0:¬ (i:Int)<(fH.length:Int)-1-i:=dv h;refine⟨_,_,.refl,rfl,os,lJ,?_,rfl⟩;have e:l=fH.reverse:=by
   refine zU λk=>?_;by_cases ae:k<fH.length
   ·rw[e5 k ae,List.getElem?_reverse ae];split
    ·rfl
    ·congr 1;omega
   ·rw[qn (by omega),qn (by rw[Dg];omega)]
  rw[<-e,<-oq];exact b4
 have aZ:(i:Int)<(fH.length:Int)-1-i:=cJ h;obtain⟨j,ai⟩:∃ j:Nat,(fH.length:Int)-1-i=(j:Int):=⟨fH.length-1-i,by omega⟩;have eo:i<l.length:=by omega
 have fB:j<l.length:=by omega
 obtain⟨aM,bB,ao9⟩:=aR.ok.row (I:=I) (M:=os.ar 3++M0) (e:=3) (f:=iI) (size:=1) (λ_=>rfl) (by decide) b4 (λz bb=>iR _ bb) fB;obtain⟨ts,Dj,apa⟩:=aR.ok.row (I:=I) (M:=os.ar 3++M0) (e:=3) (f:=iI) (size:=1) (λ_=>rfl) (by decide) b4 (λz bb=>iR _ bb) eo;obtain rfl:aM=ts:=eX (bB.symm.trans Dj);have s0:=bB;rw[oi]at s0;have awb:l.length=os0.n:=by omega
 refine cT.draw aY rfl rfl rfl ?_;refine bm.mk aM j s0 ai (by omega) ?_;refine aO.mk _ ao9 ?_;refine bm.mk aM i s0 rfl (by omega) ?_;refine aO.mk _ apa ?_;refine bm.mk aM i s0 rfl (by omega) ?_;refine aR.IE iI 1 (λ_=>rfl) (e:=3) b4 eo l[j] rfl [] M0 rfl bB ?_;intro ix lU nn jy iE;refine bm.mk aM j s0 ai (by omega) ?_;refine aR.IE iI 1 (λ_=>rfl) (e:=3) iE (show j<(l.set i l[j]).length by rw[rO];exact fB) l[i] rfl [] M0 rfl (by rw[nn];exact bB) ?_;intro Nk HW vA ot zJ;refine bd.mk _ (c8 (i:=i) (by omega)) ?_;refine bd.mk ((fH.length:Int)-1-((i+1:Nat):Int)) (by rw[wrap_i64 ⟨by omega,by omega⟩];omega) ?_;refine⟨(i+1,Nk,(l.set i l[j]).set j l[i]),⟨⟨by simp only;omega,zJ,by simp only[rO];exact cS,λk ae=>?_,(vA.trans nn).trans oi,(HW.trans lU).trans lJ⟩,by simp only;omega⟩,.refl,fG,.nil⟩;have oc:=e5 i (by omega);have Je:=e5 j (by omega);rw[bN (by omega),dg eo]at oc;rw[bN (by omega),dg fB]at Je;simp only;rw[iW,iW,rO];by_cases aI:j=k
 ·subst aI;rw[bT rfl,bT fB,bT (by omega),oc];congr 1;omega
 ·rw[bN aI];by_cases a6:i=k
  ·subst a6;rw[bT rfl,bT eo,bT (by omega),Je];congr 1;omega
  ·rw[bN a6,e5 k ae];by_cases cq:k<i\/fH.length<=k+i
   ·rw[bT cq,bT (by omega)]
   ·rw[bN cq,bN (by omega)]
def apb(aq:t.ok I)(af:right t=true)(aD:t.n<=1099511627776){node:Nat}(FR:node<t.n) :
  Spec Tryz.prog 221 [t.val,.int .i64 node] I M0 λv I' M'=>I'=I/\∃ os:aR,os.ok 1 ((CE t.ns node).reverse.map (.int .i64 ·))/\v=os.val/\os.n<=t.n/\valid t.ns.length (CE t.ns node).reverse/\M'=os.ar 3++M0:=by
 refine bV [] aY Tryz.func221 rfl rfl rfl ?_;intro B ay;have hk:=aq.n;have awc:l9 t.ns node<=t.ns.length:=H2 af t.ns.length node (by omega) (by omega);refine bW.mk λb1 jF QN=>?_;refine dt.inv (ι:=aR×List Int×aR×List Int×Nat) (λx=>{ bo:=[(2,.ref 2 0),(5,.val x.2.2.1.val),(6,.val x.1.val)],cl:=[(2,t.cells)],cH:=I,dd:=x.2.2.1.ar 3++(x.1.ar 3++M0) }) (ajT t node) (λx=>gQ (l9 t.ns) x.2.1) ?_ ?_
 ·refine⟨(⟨some b1,1,1,[.int .i64 node]⟩,[(node:Int)],h2,[],t.ns.length+1),⟨⟨rfl,(λh=>by cases h),λeg jU=>⟨rfl,b' _,by simp[maxLen],rfl⟩⟩,k1 1,λk ae=>?_,(λk ae=>by cases ae),?_,?_,rfl⟩,.refl,fG,.cons rfl (.nil)⟩
  ·simp only[eN]at ae;omega
  ·simp[gQ]
  ·simp only[gQ,b5,hy,hj,zW];omega
 rintro⟨todo,Tv,back,gH,f⟩⟨FT,uf,Nl,FU,FV,Tw,uY⟩;simp only at FT uf Nl FU FV Tw uY;have kR:=uf.pW;have z6:=FT.pW;refine aX.mk (λh=>?_) (λh=>?_)
 ·have acU:0<todo.n:=by have:(0:Int)<(todo.n:Int):=cJ h;omega
  obtain⟨ph,m,rfl⟩:∃ ph m,Tv=ph++[m]:=by
   rcases zR Tv with aa | ⟨r,p,aa⟩;·subst aa;simp at z6;omega
   ·exact⟨r,p,by simpa using aa⟩
  have hm:=Nl m (by simp);obtain⟨m,rfl⟩:=eG hm.1;have hh:m<t.n:=by omega
  have rD:m<t.ns.length:=by omega
  have awd:todo.n=ph.length+1:=by simpa using z6
  have acV:=EI af rD;rw[H3]at FV Tw;have gg:gQ (l9 t.ns) [(m:Int)]=l9 t.ns m:=by simp[gQ]
  rw[gg,acV]at FV Tw;have awe:ph.length<=gQ (l9 t.ns) ph:=LQ af λk ae=>Nl k (by simp[ae]);have awf:t.ns[m].au.length<=gQ (l9 t.ns) t.ns[m].au:=LQ af λk ae=>by have:=ly af m rD k ae;omega
  have vB:ph.length+t.ns[m].au.length<=t.ns.length:=by omega
  obtain⟨aM,bB,bp⟩:=aR.CB (I:=I) (e:=3) (M:=back.ar 3++(todo.ar 3++M0)) FT (λx ab=>by simp[ab]) (j:=ph.length) (by simp);rw[acd rfl]at bp;have ou:=FT;rw[cM]at ou;have ou:=aR.pop ou;have he:todo.n-1=ph.length:=by omega
  rw[he]at ou;have Js:ph.length<=todo.c:=by
   cases A1:todo.a with
   |none=>have:=(FT.nil A1).1;omega| some Jt=>have:=(FT.cap Jt A1).2.1;omega
  obtain⟨m9,nP,jD⟩:=aq.a'.row al.cL hh rD;have ah:=aq.ns _ (bJ rD);have fj:=ah.aG;have pY:=ah.a'.cap;have hZ:=ly af m rD;refine bd.mk ((ph.length:Nat):Int) (by show IntKind.i64.wrap ((todo.n:Int)-1)=_;rw[wrap_i64 ⟨by omega,by omega⟩];omega) ?_;refine bm.mk aM ph.length bB rfl (show ph.length<todo.n by omega) ?_;refine aO.mk _ bp ?_;refine cT.draw aY rfl rfl rfl ?_;refine bd.mk ((ph.length:Nat):Int) (by show IntKind.i64.wrap ((todo.n:Int)-1)=_;rw[wrap_i64 ⟨by omega,by omega⟩];omega) ?_;refine jR.mk 0 ph.length rfl rfl (dp _) Js ?_;refine bm.mk m9 m nP rfl hh ?_;refine aO.mk _ ((jD _).part (k:=8) (m:=1) (by decide)) ?_;have apc:∀ M,0<t.ns[m].aG->∃ aM,t.ns[m].b0=some aM/\cR I M aM (t.ns[m].aG*1) (t.ns[m].au.map (.int .i64 ·)):=λM ay=>ah.a'.y1 M ay;refine bD.wS aY rfl (by simp) (e:=3) rfl rfl rfl ⟨todo.a,ph.length,todo.c,todo.aS⟩ ou rfl (sa:=t.ns[m].b0) (m:=t.ns[m].aG) (c':=t.ns[m].ch) (cb:=t.ns[m].au.map (.int .i64 ·)) rfl (by rw[bx,fj];show _=t.ns[m].aG*1;omega) (apc _) (FQ _) (back.ar 3) M0 rfl (by simp only;omega) (by show(ph.length+t.ns[m].aG)*8<=_;omega) ?_;intro s3 acW acX iU;rw[<-cM]at iU;refine bW.mk λb8 iQ Qj=>?_;refine bD.k5 aY rfl (by simp) (e:=3) rfl rfl rfl back uf rfl (cs:=[.int .i64 m]) rfl rfl rfl [] (s3.ar 3++M0) rfl (by omega) (by show(back.n+1)*8<=_;omega) ?_;intro acY awg awh Ju;have Ju:acY.ok 1 ((gH++[(m:Int)]).map (.int .i64 ·)):=by rw[cM];exact Ju
  refine⟨(s3,ph++t.ns[m].au,acY,gH++[(m:Int)],f-1),⟨⟨iU,Ju,λk ae=>?_,λk ae=>?_,?_,?_,?_⟩,?_⟩,.refl,fG,.cons rfl (.nil)⟩
  ·rcases cv.1 ae with ae | ae
   ·exact Nl k (by simp[ae])
   ·have:=hZ k ae;omega
  ·rcases cv.1 ae with ae | ae
   ·exact FU k ae
   ·simp only[eN]at ae;omega
  ·simp only[H3,cr,et,hB];omega
  ·simp only[H3];omega
  ·obtain⟨x',rfl⟩:∃ x',f=x'+1:=⟨f-1,by omega⟩;rw[uY,Ys,hH,gr rD];rfl
  ·simp only;rw[H3,H3,gg,acV];omega
 have apd:Tv=[]:=by have:¬ (0:Int)<(todo.n:Int):=dv h;exact jl (by omega)
 subst apd;rw[Yr]at uY;simp only[gQ,hy,zW,du]at FV;refine a8.whole _ (acT (os0:=back) uf (by omega)) ?_;rintro v J N -⟨rfl,os,lJ,b4,ho⟩;subst N;refine⟨_,os.ar 3++M0,.sub (.append (.refl _) (mT _ _)) .refl,rfl,os,by rw[uY];exact b4,lJ.symm,?_,λk ae=>FU k (by rw[uY]at ae;exact S9.1 ae),rfl⟩;have:=(y2 lJ).1;omega
section
variable{X:c3}{β:Nat->Nat}{F:Fr}{C:dN}{I:aH}{M:List aE}{o:Oper}{K:gl}
def bD.Tx(aN:cW X.P X.E){x y:Operand}{t:Nat}(aA:o.op=.call { callee:=.builtin .copy,args:=#[x,y],argTypes:=#[t,t] })(ah:∀ d,o.dst=some d->d<X.n)
 {db aF:ea} (aq:X.E t=some db) (dk:db.bP=.slice e) (he:X.E e=some aF)
 {g c:Nat} {aS:List Value} (ab:bH F x=.val (.slice (some ⟨g,0,none⟩) n c)) (ao:n*aF.size<=aS.length)
  {sa:Option Addr} {c':Nat} (aC:bH F y=.val (.slice sa n c')) {cb:List Value} (ax:cb.length=n*aF.size) (aD:0<n->∃ aM,sa=some aM/\cR I M aM (n*aF.size) cb) (aa:fK cb=true)
  (a9 post:List aE) (ba:M=a9++⟨g,.cells aS.toArray e (0,0)⟩::post)
  (k:K (put o.dst (.val (.int .i64 n)) F) C I (a9++⟨g,.cells (cj aS 0 cb).toArray e (0,0)⟩::post)):bD X o F C I M K:=by
 refine⟨λa w Q ⟨β,aV⟩=>?_⟩;have hu:=Sg aN aq dk;obtain⟨inf,z,hi,ft,hW,im,kb⟩:=(aN _ _ he).inf;have aw:w.heap[g]?=some (.cells aS.toArray e (0,0)):=aV.holds.m ⟨g,.cells aS.toArray e (0,0)⟩ (by rw[ba];simp);have fu:=run_storeCells_at X.P g 0 e cb 0 aS.toArray w aw (by rw[ax];simpa using ao) (zq aa);simp only[oz]at fu;have aB:(Builtin.firstCells aF.size n (.slice sa n c')).run X.P w=.ok cb.toArray w:=by
  by_cases ay:0<n
  ·obtain⟨aM,rfl,c9,cs,T,an,fj,aj,ax⟩:=aD ay;refine run_firstCells_some (P:=X.P) w aF.size n aM n c' cb ax λj v ai=>?_;rw[eS _ c9,tl (fj.heap aV.holds)];rw[<-aj,lb]at ai;split at ai
   ·rw[mO]at ai;simpa using ai
   ·cases ai
  ·have ad:n=0:=by omega
   subst ad;have ak:cb=[]:=jl (by rw[ax,zC]);subst ak;cases sa with
   |none=>simp[Builtin.firstCells]| some aM=>exact run_firstCells_some (P:=X.P) w aF.size 0 aM 0 c' [] (by simp) λj v ai=>by simp at ai
 have ex:=dj aV.an ab;have oP:=dj aV.an aC;refine iN (by rw[aA];simp) (v:=.int .i64 n) (w':=w.setRow g (cj aS 0 cb).toArray) ?_ ⟨_,_,_,_,⟨β,cN.put (x:=.val (.int .i64 n)) ?_ ah rfl⟩,k⟩
 ·have fb:(Builtin.copy_ #[t,t] o.type #[.slice (some ⟨g,0,none⟩) n c,.slice sa n c']).run X.P w=.ok (.int .i64 n) (w.setRow g (cj aS 0 cb).toArray):=by rw[<-ft]at aB;simp[Builtin.copy_,run_underlying hu,Builtin.lenOf,sizeOf,typeInfo,hi,aB,fu,cj,goInt]
  unfold execOp;simp only[aA,resolve,invoke,builtin,cp,da,bZ,rm,b5,hy,ex,oP,fb]
 ·exact aV.xI ba
end
structure acZ(d:al)(ey:List Int)(y:Nat×aR×List Int):Prop where
 k:y.1<=d.aG
 ok:y.2.1.ok 1 (y.2.2.flatMap iI)
 n:y.2.1.n=d.aG
 eq:y.2.2=(d.au.take y.1).map (λk=>ey.getD k.toNat 0)++d.au.drop y.1
def ape(aq:t.ok I)(af:right t=true)(aD:t.n<=1099511627776){node:Nat}(FR:node<t.n) :
  Spec Tryz.prog 172 [t.val,.int .i64 node] I [] λv I' M'=>(∀ b o,I b=some o->I' b=some o)/\M'=[]/\∃ bn:bk,v=bn.val/\bn.ok I'/\qL t node bn:=by
 refine xQ [] aY Tryz.func172 rfl rfl rfl ?_;intro B ay;have hk:=aq.n;have hA:=aq.a'.cap;refine a8.mk [] [] _ (.refl _) (apb (M0:=[]) aq af aD FR) ?_;rintro v Jv N -⟨xO,back,uf,rfl,GS,FU,rfl⟩;subst Jv;obtain⟨rb,ov⟩:∃ rb,(CE t.ns node).reverse=rb:=⟨_,rfl⟩;rw[ov]at uf FU;have kR:=uf.pW;refine pB.mk t.n t.n rfl rfl (b' _) (by show 8*t.n<=_;omega) (by omega) ?_;refine bW.mk λb9 m8 Cq=>?_;refine pB.mk 0 back.n rfl rfl (dp _) (by show 96*back.n<=_;omega) (by omega) ?_;refine bW.mk λb7 Ia LY=>?_;have w6:(rowOf [Value.int .i64 0] (t.n*1))=(List.replicate t.n (0:Int)).map (Value.int .i64):=by rw[Ca,BX,gM]
 refine dt.uJ (ι:=Nat×List Int×aR×List al×aH) (λx=>{ bo:=[(2,.ref 2 0),(4,.ref 4 0),(5,.val back.val),(6,.val (.slice (some ⟨b9,0,none⟩) t.n t.n)),(7,.val x.2.2.1.val),(24,.val back.val),(25,.val (.int .i64 back.n)),(26,.val (.int .i64 x.1))],cl:=[(2,t.cells),(4,[.slice none 0 0,.int .i64 0])],cH:=x.2.2.2.2,dd:=dJ b9 x.2.1::(x.2.2.1.ar 82++(back.ar 3++[])) }) (Yt I t rb) (λx=>rb.length-x.1) ?_ ?_
 ·intro _;refine⟨(0,List.replicate t.n 0,⟨some b7,0,back.n,rowOf [.int .u8 0,.int .u64 0,.int .u64 0,.int .u64 0,.int .u64 0,.string ⟨#[]⟩,.int .i64 0,.int .i64 0,.slice none 0 0] (back.n*9)⟩,[],I),⟨dp _,by simp[hk],⟨rfl,(λh=>by cases h),λeg jU=>⟨by simp[ti,madeCells],dp _,by unfold maxLen;simp only;omega,by simp⟩⟩,rfl,(by rw[hk];rfl),(λd ah=>by cases ah),λ_ _ h=>h,(λc ao=>by have:=Qb ao;omega),(λd ah=>by cases ah)⟩,.perm (List.Perm.swap _ _ _) (.ma (by rw[w6];simp only[dF];rfl)),kN,.cons rfl (.cons rfl (.nil))⟩
 rintro⟨j,P,out,hp,J⟩⟨ai,A2,r4,ic,ug,A3,a5,FW,iy⟩;simp only at ai A2 r4 ic ug A3 a5 FW iy;have vC:out.n=j:=by have:=r4.len;rw[gO _ 9 al.cL,ic]at this;omega
 subst vC;refine aX.mk (λh=>?_) (λh=>?_)
 ·have y4:out.n<rb.length:=by have:(out.n:Int)<(back.n:Int):=cJ h;omega
  have hm:=FU _ (bJ y4);obtain⟨m,y5⟩:=eG hm.1;rw[y5]at hm;have hh:m<t.n:=by omega
  have rD:m<t.ns.length:=by omega
  obtain⟨aM,bB,Jw⟩:=aR.CB (I:=J) (e:=3) (M:=dJ b9 P::(out.ar 82++(back.ar 3++[]))) uf (λx ab=>by simp[ab]) y4;rw[y5]at Jw;obtain⟨m9,nP,jD⟩:=(aq.a'.mono a5).row al.cL hh rD;have ah:=(aq.ns _ (bJ rD)).mono a5;have fj:=ah.aG;have pY:=ah.a'.cap;have hZ:=ly af m rD;have mJ:nodeAt t.ns m=t.ns[m]:=gr rD;generalize fl:t.ns[m]=d at ah fj pY hZ jD mJ;have g2:=oU P m (by omega) (out.n:Int);generalize tT:P.set m (out.n:Int)=ey at g2;have Nm:ey.length=t.ns.length:=by rw[<-tT];simpa using A2
  have Dk:∀ c∈ey,0<=c/\c<=rb.length:=λc ao=>by
   rw[<-tT]at ao;rcases xb ao with ao | rfl;·exact FW c ao
   ·omega
  refine bm.mk aM out.n bB rfl (show _<back.n by omega) ?_;refine aO.mk _ Jw ?_;refine bm.mk ⟨b9,0,none⟩ m rfl rfl hh ?_;refine ck.iV [] (out.ar 82++(back.ar 3++[])) (P.map (Value.int .i64)) 3 rfl (by rw[nR,bx];show 0+m*1+1<=_;omega) rfl (ey.map (Value.int .i64)) (by rw[du,gM];exact g2) ?_;refine bm.mk m9 m nP rfl hh ?_;refine aO.mk _ (jD _) ?_;have wz:(out.n+1)*96<=140737488355328:=by omega
  refine aX.mk (λaa=>?_) (λaa=>?_)
  ·have lx:0<d.aG:=by have:(0:Int)<(d.aG:Int):=cJ aa;omega
   refine pB.mk d.aG d.aG rfl rfl (b' _) (by show 8*d.aG<=_;omega) (by omega) ?_;refine bW.mk λac0 awi awj=>?_;have bb:(rowOf [Value.int .i64 0] (d.aG*1)).length=d.aG:=by simp[ti,madeCells]
   have c9:cj (rowOf [Value.int .i64 0] (d.aG*1)) 0 (d.au.map (.int .i64 ·))=d.au.map (.int .i64 ·):=by unfold cj;rw[qo,hX,du,sT (by rw[bb,bx];omega),dF]
   refine bD.Tx aY rfl (by simp) (e:=3) rfl rfl rfl (g:=ac0) (n:=d.aG) (c:=d.aG) (aS:=rowOf [Value.int .i64 0] (d.aG*1)) rfl (by rw[bb];show d.aG*1<=_;omega) (sa:=d.b0) (c':=d.ch) rfl (cb:=d.au.map (.int .i64 ·)) (by rw[bx];show _=d.aG*1;omega) (λay=>ah.a'.y1 _ ay) (FQ _) [] (dJ b9 ey::(out.ar 82++(back.ar 3++[]))) rfl ?_;rw[c9];refine dt.inv (ι:=Nat×aR×List Int) (λy=>{ bo:=[(2,.ref 2 0),(4,.ref 4 0),(5,.val back.val),(6,.val (.slice (some ⟨b9,0,none⟩) t.n t.n)),(7,.val out.val),(8,.val (.int .i64 out.n)),(9,.val (.int .i64 m)),(10,.ref 10 0),(11,.val y.2.1.val),(24,.val back.val),(25,.val (.int .i64 back.n)),(26,.val (.int .i64 out.n)),(52,.val y.2.1.val),(53,.val (.int .i64 d.aG)),(54,.val (.int .i64 y.1))],cl:=[(2,t.cells),(4,[.slice none 0 0,.int .i64 0]),(10,d.cells)],cH:=J,dd:=y.2.1.ar 3++(dJ b9 ey::(out.ar 82++(back.ar 3++[]))) }) (λy=>acZ d ey y) (λy=>d.aG-y.1) ?_ ?_;·exact⟨(0,⟨some ac0,d.aG,d.aG,d.au.map (.int .i64 ·)⟩,d.au),⟨dp _,⟨by rw[oq,bx];simp only;omega,(λh=>by cases h),λeg jU=>⟨by simp only[bx];omega,b' _,by unfold maxLen;simp only;omega,by rw[oq];exact fC (by rw[bx];simp only;omega)⟩⟩,rfl,by simp⟩,.refl,ag8,.cons rfl (.cons rfl (.cons rfl (.nil)))⟩
   rintro⟨k,eb,fy⟩⟨ae,jt,FX,c7⟩;simp only at ae jt FX c7;have Ty:∀ x∈eb.ar 3,x∈eb.ar 3++(dJ b9 ey::(out.ar 82++(back.ar 3++[]))):=λx ab=>iR _ ab;have Tz:dJ b9 ey∈eb.ar 3++(dJ b9 ey::(out.ar 82++(back.ar 3++[]))):=by simp
   have EM:fy.length=d.au.length:=by rw[c7,cr,bx,fO,pF];omega
   refine aX.mk (λad=>?_) (λad=>?_)
   ·have e0:k<d.aG:=by have:(k:Int)<(d.aG:Int):=cJ ad;omega
    have ji:k<d.au.length:=by omega
    have vD:k<fy.length:=by omega
    have aj:=hZ _ (bJ ji);have vE:d.au[k].toNat<ey.length:=by omega
    have Dl:ey.getD d.au[k].toNat 0=ey[d.au[k].toNat]:=by simp[bS,vE]
    have Jx:fy[k]=d.au[k]:=by
     have ak:fy[k]?=d.au[k]?:=by rw[c7,l3 (by rw[bx,fO];omega),bx,fO,pA (by omega),mC,mO,oz]
     rw[dg vD,dg ji]at ak;exact eX ak
    obtain⟨gn,fo,fh⟩:=aR.ok.row (I:=J) (M:=eb.ar 3++(dJ b9 ey::(out.ar 82++(back.ar 3++[])))) (e:=3) (f:=iI) (size:=1) (λ_=>rfl) (by decide) jt Ty vD;rw[Jx]at fh;refine bm.mk gn k fo rfl (show k<eb.n by omega) ?_;refine aO.mk _ fh ?_;refine bm.mk ⟨b9,0,none⟩ d.au[k].toNat rfl (by omega) (by omega) ?_;refine aO.mk _ (Hr Tz vE) ?_;refine bm.mk gn k fo rfl (show k<eb.n by omega) ?_;refine aR.IE iI 1 (λ_=>rfl) (e:=3) jt vD ey[d.au[k].toNat] rfl [] (dJ b9 ey::(out.ar 82++(back.ar 3++[]))) rfl fo ?_;intro o3 lU nn jy iE;refine bd.mk _ (c8 (i:=k) (by omega)) ?_;refine⟨(k+1,o3,fy.set k ey[d.au[k].toNat]),⟨⟨e0,iE,jy.trans FX,?_⟩,by simp only;omega⟩,.refl,.cons .refl (.cons .refl (.cons .refl (.cons .refl (.cons .refl (.cons .refl (.cons .refl (.cons .refl (.cons ?_ (.cons .refl (.cons .refl (.cons .refl (.cons ?_ (xR))))))))))))),.cons rfl (.cons rfl (.cons rfl (.nil)))⟩;·simp only;rw[c7,gj ji,cM,b5,hy,Dl,Ct _ _ (by rw[bx,fO];omega),bx,fO,pA (by omega),mC,fg ji,Cu,dW];rfl
    ·simp only;rw[lU];exact .refl
    ·simp only;rw[lU];exact .refl
   have c0:k=d.aG:=by have:¬ (k:Int)<(d.aG:Int):=dv ad;omega
   subst c0;rw[fC (by omega),sT (by omega),dF]at c7;rw[oq]at jt;refine bW.mk λac1 ac2 ac3=>?_;have bU:∃ b3:al,b3=⟨d.k,d.cx,d.s1,d.s2,d.cY,d.t,d.lo,d.hi,eb.a.map λg=>⟨g,0,none⟩,eb.n,eb.c,fy⟩:=⟨_,rfl⟩;obtain⟨b3,bU⟩:=bU;have Jy:b3.cells=[.int .u8 d.k,.int .u64 d.cx,.int .u64 d.s1,.int .u64 d.s2,.int .u64 d.cY,.string d.t,.int .i64 d.lo,.int .i64 d.hi,.slice (eb.a.map λg=>⟨g,0,none⟩) eb.n eb.c]:=by rw[bU];rfl
   refine bD.k5 aY rfl (by simp) (e:=82) rfl rfl rfl out r4 rfl (cs:=[.int .u8 d.k,.int .u64 d.cx,.int .u64 d.s1,.int .u64 d.s2,.int .u64 d.cY,.string d.t,.int .i64 d.lo,.int .i64 d.hi,.slice (eb.a.map λg=>⟨g,0,none⟩) eb.n eb.c]) rfl rfl rfl (eb.ar 3++[dJ b9 ey]) (back.ar 3++[]) (by simp;rfl) (by omega) (by show(out.n+1)*96<=_;omega) ?_;intro np TA ac4 A4;refine bd.mk _ (c8 (i:=out.n) (by omega)) ?_;have A5:∀ c∈fy,0<=c/\c<=rb.length:=λc ao=>by
    rw[c7]at ao;obtain⟨q,aL,rfl⟩:=cP.1 ao;have wM:=hZ q aL;have Jz:q.toNat<ey.length:=by omega
    exact Dk (ey.getD q.toNat 0) (by simp only[bS,dg Jz,kL];exact bJ _)
   intro eF;obtain⟨mK,hw,bf,dB⟩:=aR.LB (I:=J) (b:=8) (e:=3) jt (by omega) (λg aw=>eF.d ⟨g,.cells eb.aS.toArray 3 (0,0)⟩ (by simp[aR.ar,aw])) (dJ b9 ey::(np.ar 82++(back.ar 3++[])));refine⟨(out.n+1,ey,np,hp++[b3],mK),⟨⟨by simp only;omega,Nm,?_,by simp[ic],?_,?_,λb o h=>bf _ _ (a5 _ _ h),Dk,?_⟩,by simp only;omega⟩,?_,kN,.cons rfl (.cons rfl (.nil))⟩
   ·simp only;rw[fI];have:([b3].flatMap al.cells)=b3.cells:=by simp
    rw[this,Jy];exact A4
   ·simp only;rw[gj y4,tL,ug,km,HP,y5];show(P.set m ((hp.map al.a4).length:Int),hp.map al.a4++[(nodeAt t.ns m).dX ((nodeAt t.ns m).au.map λk=>(P.set m ((hp.map al.a4).length:Int)).getD k.toNat 0)])=_;rw[bx,ic,tT,mJ,<-c7,cM,bU];rfl
   ·simp only;intro x ab;rcases cv.1 ab with ab | ab
    ·exact(A3 x ab).mono bf
    ·simp only[eN]at ab;rw[ab,bU];refine⟨ah.k,ah.cx,ah.s1,ah.s2,ah.cY,ah.t,ah.lo,ah.hi,dB,λc ao=>?_⟩;have:=A5 c ao;exact⟨by omega,by omega⟩
   ·simp only;intro x ab;rcases cv.1 ab with ab | ab
    ·exact iy x ab
    ·simp only[eN]at ab;rw[ab,bU];exact A5
   ·simp only;refine .perm (M1:=eb.ar 3++(dJ b9 ey::(np.ar 82++(back.ar 3++[])))) ?_ hw;simp
  ·have lx:d.aG=0:=by have:¬ (0:Int)<(d.aG:Int):=dv aa;omega
   have apf:d.au=[]:=jl (by omega);refine dt.inv (ι:=Nat×aR×List Int) (λy=>{ bo:=[(2,.ref 2 0),(4,.ref 4 0),(5,.val back.val),(6,.val (.slice (some ⟨b9,0,none⟩) t.n t.n)),(7,.val out.val),(8,.val (.int .i64 out.n)),(9,.val (.int .i64 m)),(10,.ref 10 0),(11,.val y.2.1.val),(24,.val back.val),(25,.val (.int .i64 back.n)),(26,.val (.int .i64 out.n)),(52,.val y.2.1.val),(53,.val (.int .i64 d.aG)),(54,.val (.int .i64 y.1))],cl:=[(2,t.cells),(4,[.slice none 0 0,.int .i64 0]),(10,d.cells)],cH:=J,dd:=y.2.1.ar 3++(dJ b9 ey::(out.ar 82++(back.ar 3++[]))) }) (λy=>acZ d ey y) (λy=>d.aG-y.1) ?_ ?_;·refine⟨(0,h2,d.au),⟨dp _,by rw[apf];exact k1 1,lx.symm,by simp⟩,.refl,.cons .refl (.cons .refl (.cons .refl (.cons .refl (.cons .refl (.cons .refl (.cons .refl (.cons .refl (.cons .refl (.cons .refl (.cons .refl (.cons .refl (.cons .refl (.cons ?_ (.cons .refl .nil)))))))))))))),.cons rfl (.cons rfl (.cons rfl (.nil)))⟩;simp only;rw[lx];exact .refl
   rintro⟨k,eb,fy⟩⟨ae,jt,FX,c7⟩;simp only at ae jt FX c7;have Ty:∀ x∈eb.ar 3,x∈eb.ar 3++(dJ b9 ey::(out.ar 82++(back.ar 3++[]))):=λx ab=>iR _ ab;have Tz:dJ b9 ey∈eb.ar 3++(dJ b9 ey::(out.ar 82++(back.ar 3++[]))):=by simp
   have EM:fy.length=d.au.length:=by rw[c7,cr,bx,fO,pF];omega
   refine aX.mk (λad=>?_) (λad=>?_)
   ·have e0:k<d.aG:=by have:(k:Int)<(d.aG:Int):=cJ ad;omega
    have ji:k<d.au.length:=by omega
    have vD:k<fy.length:=by omega
    have aj:=hZ _ (bJ ji);have vE:d.au[k].toNat<ey.length:=by omega
    have Dl:ey.getD d.au[k].toNat 0=ey[d.au[k].toNat]:=by simp[bS,vE]
    have Jx:fy[k]=d.au[k]:=by
     have ak:fy[k]?=d.au[k]?:=by rw[c7,l3 (by rw[bx,fO];omega),bx,fO,pA (by omega),mC,mO,oz]
     rw[dg vD,dg ji]at ak;exact eX ak
    obtain⟨gn,fo,fh⟩:=aR.ok.row (I:=J) (M:=eb.ar 3++(dJ b9 ey::(out.ar 82++(back.ar 3++[])))) (e:=3) (f:=iI) (size:=1) (λ_=>rfl) (by decide) jt Ty vD;rw[Jx]at fh;refine bm.mk gn k fo rfl (show k<eb.n by omega) ?_;refine aO.mk _ fh ?_;refine bm.mk ⟨b9,0,none⟩ d.au[k].toNat rfl (by omega) (by omega) ?_;refine aO.mk _ (Hr Tz vE) ?_;refine bm.mk gn k fo rfl (show k<eb.n by omega) ?_;refine aR.IE iI 1 (λ_=>rfl) (e:=3) jt vD ey[d.au[k].toNat] rfl [] (dJ b9 ey::(out.ar 82++(back.ar 3++[]))) rfl fo ?_;intro o3 lU nn jy iE;refine bd.mk _ (c8 (i:=k) (by omega)) ?_;refine⟨(k+1,o3,fy.set k ey[d.au[k].toNat]),⟨⟨e0,iE,jy.trans FX,?_⟩,by simp only;omega⟩,.refl,.cons .refl (.cons .refl (.cons .refl (.cons .refl (.cons .refl (.cons .refl (.cons .refl (.cons .refl (.cons ?_ (.cons .refl (.cons .refl (.cons .refl (.cons ?_ (xR))))))))))))),.cons rfl (.cons rfl (.cons rfl (.nil)))⟩;·simp only;rw[c7,gj ji,cM,b5,hy,Dl,Ct _ _ (by rw[bx,fO];omega),bx,fO,pA (by omega),mC,fg ji,Cu,dW];rfl
    ·simp only;rw[lU];exact .refl
    ·simp only;rw[lU];exact .refl
   have c0:k=d.aG:=by have:¬ (k:Int)<(d.aG:Int):=dv ad;omega
   subst c0;rw[fC (by omega),sT (by omega),dF]at c7;rw[oq]at jt;refine bW.mk λac1 ac2 ac3=>?_;have bU:∃ b3:al,b3=⟨d.k,d.cx,d.s1,d.s2,d.cY,d.t,d.lo,d.hi,eb.a.map λg=>⟨g,0,none⟩,eb.n,eb.c,fy⟩:=⟨_,rfl⟩;obtain⟨b3,bU⟩:=bU;have Jy:b3.cells=[.int .u8 d.k,.int .u64 d.cx,.int .u64 d.s1,.int .u64 d.s2,.int .u64 d.cY,.string d.t,.int .i64 d.lo,.int .i64 d.hi,.slice (eb.a.map λg=>⟨g,0,none⟩) eb.n eb.c]:=by rw[bU];rfl
   refine bD.k5 aY rfl (by simp) (e:=82) rfl rfl rfl out r4 rfl (cs:=[.int .u8 d.k,.int .u64 d.cx,.int .u64 d.s1,.int .u64 d.s2,.int .u64 d.cY,.string d.t,.int .i64 d.lo,.int .i64 d.hi,.slice (eb.a.map λg=>⟨g,0,none⟩) eb.n eb.c]) rfl rfl rfl (eb.ar 3++[dJ b9 ey]) (back.ar 3++[]) (by simp;rfl) (by omega) (by show(out.n+1)*96<=_;omega) ?_;intro np TA ac4 A4;refine bd.mk _ (c8 (i:=out.n) (by omega)) ?_;have A5:∀ c∈fy,0<=c/\c<=rb.length:=λc ao=>by
    rw[c7]at ao;obtain⟨q,aL,rfl⟩:=cP.1 ao;have wM:=hZ q aL;have Jz:q.toNat<ey.length:=by omega
    exact Dk (ey.getD q.toNat 0) (by simp only[bS,dg Jz,kL];exact bJ _)
   intro eF;obtain⟨mK,hw,bf,dB⟩:=aR.LB (I:=J) (b:=8) (e:=3) jt (by omega) (λg aw=>eF.d ⟨g,.cells eb.aS.toArray 3 (0,0)⟩ (by simp[aR.ar,aw])) (dJ b9 ey::(np.ar 82++(back.ar 3++[])));refine⟨(out.n+1,ey,np,hp++[b3],mK),⟨⟨by simp only;omega,Nm,?_,by simp[ic],?_,?_,λb o h=>bf _ _ (a5 _ _ h),Dk,?_⟩,by simp only;omega⟩,?_,kN,.cons rfl (.cons rfl (.nil))⟩
   ·simp only;rw[fI];have:([b3].flatMap al.cells)=b3.cells:=by simp
    rw[this,Jy];exact A4
   ·simp only;rw[gj y4,tL,ug,km,HP,y5];show(P.set m ((hp.map al.a4).length:Int),hp.map al.a4++[(nodeAt t.ns m).dX ((nodeAt t.ns m).au.map λk=>(P.set m ((hp.map al.a4).length:Int)).getD k.toNat 0)])=_;rw[bx,ic,tT,mJ,<-c7,cM,bU];rfl
   ·simp only;intro x ab;rcases cv.1 ab with ab | ab
    ·exact(A3 x ab).mono bf
    ·simp only[eN]at ab;rw[ab,bU];refine⟨ah.k,ah.cx,ah.s1,ah.s2,ah.cY,ah.t,ah.lo,ah.hi,dB,λc ao=>?_⟩;have:=A5 c ao;exact⟨by omega,by omega⟩
   ·simp only;intro x ab;rcases cv.1 ab with ab | ab
    ·exact iy x ab
    ·simp only[eN]at ab;rw[ab,bU];exact A5
   ·simp only;refine .perm (M1:=eb.ar 3++(dJ b9 ey::(np.ar 82++(back.ar 3++[])))) ?_ hw;simp
 have c0:out.n=rb.length:=by have:¬ (out.n:Int)<(back.n:Int):=dv h;omega
 refine bd.mk ((hp.length:Int)-1) (by show IntKind.i64.wrap ((out.n:Int)-1)=_;rw[wrap_i64 ⟨by omega,by omega⟩,ic]) ?_;intro eF;obtain⟨mK,hw,bf,dB⟩:=aR.LB (I:=J) (b:=96) (e:=82) r4 (by omega) (λg aw=>eF.d ⟨g,.cells out.aS.toArray 82 (0,0)⟩ (by simp[aR.ar,aw])) [];refine⟨mK,[],.sub (M1:=out.ar 82++[]) (by rw[dF];exact .cons _ (xd _ _)) hw,λb o h=>bf _ _ (a5 _ _ h),rfl,⟨hp,out.a.map λg=>⟨g,0,none⟩,out.n,out.c,(hp.length:Int)-1⟩,rfl,⟨dB,λd ah=>(A3 d ah).mono bf,⟨by simp only;omega,by simp only;omega⟩⟩,⟨?_,rfl⟩⟩;rw[fC (by omega)]at ug;rw[wI,ov,<-hk]at *;rw[ug]
def TB(aq:t.ok I)(af:right t=true)(aD:t.n<=1099511627776){node:Nat}(FR:node<t.n) :
  Spec Tryz.prog 172 [t.val,.int .i64 node] I M0 λv I' M'=>(∀ b o,I b=some o->I' b=some o)/\M'=M0/\∃ bn:bk,v=bn.val/\bn.ok I'/\qL t node bn:=by
 refine Spec.mH (Spec.frame (ape aq af aD FR)) ?_;rintro v J M⟨M',rfl,-,-,aa,rfl,bn,rfl,ad,ak⟩;exact⟨aa,rfl,bn,rfl,ad,ak⟩
def apg(be:e2 I az)(aq:t.ok I)(af:right t=true)(aD:t.n<=1099511627776){r:Nat}(en:t.bC=(r:Int)) :
  Spec Tryz.prog 107 [t.val] I M0 λv I' M'=>(∀ b o,I b=some o->I' b=some o)/\M'=M0/\∃ bn:bk,v=bn.val/\bn.ok I'/\qL t r bn:=by
 refine bV [] aY Tryz.func107 rfl rfl rfl ?_;intro B ay;have hk:=aq.n;obtain⟨gV,hn⟩:=l4 af;refine a8.mk [] M0 _ (.refl _) (n7 be.c aq) ?_;rintro v J N -⟨rfl,a5,rfl⟩;subst J;refine aX.mk (λh=>absurd h (by simp[af])) (λ_=>?_);have c9:=TB (M0:=M0) aq af aD (node:=r) (by omega);rw[<-en]at c9;refine a8.whole _ c9 ?_;rintro v J N -⟨a5,ho,bn,rfl,jN,av⟩;subst N;rw[en]at av;exact⟨_,_,.refl,a5,rfl,bn,rfl,jN,av⟩
def jO(ha:Int)(d:al):al:=d.dX (d.au.map (·+ha))
structure aph(I:aH)(ds:List al)(ha:Int)(os0:aR)(x:Nat×aR×List al×aH):Prop where
 i:x.1<=ds.length
 ok:x.2.1.ok 9 (x.2.2.1.flatMap al.cells)
 a4:x.2.2.1.map al.a4=(ds.take x.1).map (jO ha)++(ds.drop x.1).map al.a4
 ns:∀ d∈x.2.2.1,d.ok x.2.2.2
 le:∀ b o,I b=some o->x.2.2.2 b=some o
 a:x.2.1.a=os0.a
 v:x.2.1.val=os0.val
structure api(d:al)(ha:Int)(os0:aR)(y:Nat×aR×List Int):Prop where
 k:y.1<=d.aG
 ok:y.2.1.ok 1 (y.2.2.flatMap iI)
 eq:y.2.2=(d.au.take y.1).map (·+ha)++d.au.drop y.1
 a:y.2.1.a=os0.a
 v:y.2.1.val=os0.val
def apj{ds:List al}{ha:Int}{i:Nat}(hi:i<ds.length)(eh:L.map al.a4=(ds.take i).map (jO ha)++(ds.drop i).map al.a4){d:al}(ah:d.a4=jO ha ds[i]):(L.set i d).map al.a4=(ds.take (i+1)).map (jO ha)++(ds.drop (i+1)).map al.a4:=by rw[rn,eh,gj hi,cM,fg hi,b5,ah,Ct _ _ (by rw[bx,fO];omega),bx,fO,pA (by omega),mC,Cu,dW];rfl
def apk{ds:List al}{ha:Int}{i:Nat}(hi:i<ds.length)(lE:i<L.length)(eh:L.map al.a4=(ds.take i).map (jO ha)++(ds.drop i).map al.a4):L[i].a4=ds[i].a4:=by
 have aa:(L.map al.a4)[i]?=some ds[i].a4:=by rw[eh,l3 (by rw[bx,fO];omega),bx,fO,pA (by omega),mC,fg hi,b5];rfl
 rw[iB,dg lE]at aa;exact eX aa
def ac5{c:Nat}{ds:List al}(h:cI I a n c 9 96 (ds.flatMap al.cells))(fD:∀ d∈ds,d.ok I)(ha:Int)(JA:∀ d∈ds,∀ k∈d.au,hz (k+ha)) :
  Spec Tryz.prog 108 [.slice a n c,.int .i64 ha] I [] λv I' M'=>(∀ b o,I b=some o->I' b=some o)/\∃ (os:aR) (L:List al),v=os.val/\os.n=n/\os.ok 9 (L.flatMap al.cells)/\M'=os.ar 82/\L.map al.a4=ds.map (jO ha)/\∀ d∈L,d.ok I':=by
 refine xQ [] aY Tryz.func108 rfl rfl rfl ?_;intro B ay;have hA:=h.cap;have cS:=h.len;rw[gO _ 9 al.cL]at cS;have aD:ds.length=n:=by omega
 refine pB.mk n n rfl rfl (b' _) (by show 96*n<=_;omega) (by omega) ?_;refine bW.mk λdU Cy LA=>?_;have bb:∀ z:List Value,z.length=9->(rowOf z (n*9)).length=n*9:=λz _=>by simp[ti,madeCells]
 refine bD.Tx aY rfl (by simp) (e:=82) rfl rfl rfl (g:=dU) (n:=n) (c:=n) rfl (by rw[bb _ rfl];exact b' _) (sa:=a) (c':=c) rfl (cb:=ds.flatMap al.cells) h.len (λay=>h.y1 _ ay) (Ni al.one _) [] [] rfl ?_;have c9:∀ z:List Value,z.length=9->cj (rowOf z (n*9)) 0 (ds.flatMap al.cells)=ds.flatMap al.cells:=λz gK=>by unfold cj;rw[qo,hX,du,sT (by rw[bb z gK,h.len];exact b' _),dF]
 have l8:(ds.flatMap al.cells).length=n*9:=h.len;obtain⟨os0,JB⟩:∃ os0:aR,os0=⟨some dU,n,n,cj (rowOf [.int .u8 0,.int .u64 0,.int .u64 0,.int .u64 0,.int .u64 0,.string ⟨#[]⟩,.int .i64 0,.int .i64 0,.slice none 0 0] (n*9)) 0 (ds.flatMap al.cells)⟩:=⟨_,rfl⟩;have A0:os0.ok 9 (ds.flatMap al.cells):=by
  rw[JB];refine⟨l8,(λh=>by cases h),λeg jU=>⟨?_,b' _,by unfold maxLen;simp only;omega,?_⟩⟩;·simp only;rw[c9 _ rfl,l8]
  ·simp only;rw[c9 _ rfl];exact fC (by rw[l8];exact b' _)
 have Jc:os0.val=.slice (some ⟨dU,0,none⟩) n n:=by rw[JB];rfl
 have Nn:os0.a=some dU:=by rw[JB]
 have qy:os0.n=n:=by rw[JB]
 refine dt.uJ (ι:=Nat×aR×List al×aH) (λx=>{ bo:=[(1,.val (.int .i64 ha)),(5,.val (.slice (some ⟨dU,0,none⟩) n n)),(16,.val (.slice (some ⟨dU,0,none⟩) n n)),(17,.val (.int .i64 n)),(18,.val (.int .i64 x.1))],cl:=[],cH:=x.2.2.2,dd:=x.2.1.ar 82++[] }) (λx=>aph I ds ha os0 x) (λx=>n-x.1) ?_ ?_
 ·intro _;refine⟨(0,os0,ds,I),⟨dp _,A0,by simp,fD,λ_ _ h=>h,rfl,rfl⟩,.ma (by rw[JB];rfl),hx,.nil⟩
 rintro⟨i,os,L,J⟩⟨hi,b4,eh,jn,bf,oi,lJ⟩;simp only at hi b4 eh jn bf oi lJ;have y3:L.length=ds.length:=by have:=congrArg List.length eh;rw[bx,cr,bx,bx,fO,pF]at this;omega
 have apl:os.a=some dU:=oi.trans Nn;refine aX.mk (λad=>?_) (λad=>?_)
 rotate_left
 ·have c0:i=n:=by have:¬ (i:Int)<(n:Int):=dv ad;omega
  intro eF;refine⟨_,_,.refl,bf,os,L,by rw[lJ,Jc],by rw[(y2 lJ).1,qy],b4,by rw[dF],?_,jn⟩;rw[eh,fC (by omega),sT (by omega),hy,dF]
 have aZ:i<n:=by have:(i:Int)<(n:Int):=cJ ad;omega
 have kj:i<ds.length:=by omega
 have lE:i<L.length:=by omega
 have No:=apk kj lE eh;have h5:=jn _ (bJ lE);have gm:L[i].au=ds[i].au:=by have:L[i].a4.au=ds[i].a4.au:=congrArg al.au No;exact this
 have ac6:=JA _ (bJ kj);obtain⟨aM,bB,bp⟩:=aR.ok.row (I:=J) (M:=os.ar 82++[]) (e:=82) al.cL (by decide) b4 (λz bb=>iR _ bb) lE;obtain rfl:aM=⟨dU,0,none⟩:=by rw[apl]at bB;exact(eX bB).symm
 have iZ:∀ d:al,d.a4=jO ha ds[i]->(L.set i d).map al.a4=(ds.take (i+1)).map (jO ha)++(ds.drop (i+1)).map al.a4:=λd ah=>apj kj eh ah;have fl:∃ d,L[i]=d:=⟨_,rfl⟩;obtain⟨d,ah⟩:=fl;have fj:=h5.aG;refine bm.mk ⟨dU,0,none⟩ i rfl rfl aZ ?_;refine aO.mk _ bp ?_;refine bm.mk ⟨dU,0,none⟩ i rfl rfl aZ ?_;refine aR.Fk (e:=82) al.cells 9 al.cL b4 lE 8 (vs:=[.slice none 0 0]) (bK rfl) rfl (L[i].dX []) rfl [] [] (by simp) bB ?_;intro ix lU nn jy iE;rw[ah]at No h5 gm fj;refine aX.mk (λak=>?_) (λak=>?_)
 ·have lx:d.aG=0:=by have:((L[i].aG:Nat):Int)=0:=cJ ak;rw[ah]at this;omega
  have mw:d.au=[]:=jl (by omega);refine bd.mk _ (c8 (i:=i) (by omega)) ?_;intro eF;refine⟨(i+1,ix,L.set i (L[i].dX []),J),⟨⟨by simp only;omega,iE,iZ _ ?_,λx ab=>?_,bf,nn.trans oi,lU.trans lJ⟩,by simp only;omega⟩,.refl,hx,.nil⟩;·rw[ah];show d.a4.dX []=jO ha ds[i];rw[No,jO,<-gm,mw];rfl
  ·rcases xb ab with ab | rfl
   ·exact jn _ ab
   ·rw[ah];exact⟨h5.k,h5.cx,h5.s1,h5.s2,h5.cY,h5.t,h5.lo,h5.hi,⟨rfl,⟨b' _,(show 0*8<=140737488355328 by decide)⟩,.inl rfl⟩,λk ae=>by cases ae⟩
 ·have lx:0<d.aG:=by have:¬ ((L[i].aG:Nat):Int)=0:=dv ak;rw[ah]at this;omega
  have pY:=h5.a'.cap;have apm:=h5.a';have B9:L[i].b0=d.b0/\L[i].aG=d.aG/\L[i].ch=d.ch:=by rw[ah];exact⟨rfl,rfl,rfl⟩
  refine pB.mk d.aG d.aG (by rw[B9.2.1]) (by rw[B9.2.1]) (b' _) (by show 8*d.aG<=_;omega) (by omega) ?_;refine bW.mk λdP sQ akb=>?_;have ac7:(rowOf [Value.int .i64 0] (d.aG*1)).length=d.aG:=by simp[ti,madeCells]
  have apn:cj (rowOf [Value.int .i64 0] (d.aG*1)) 0 (d.au.map (.int .i64 ·))=d.au.map (.int .i64 ·):=by unfold cj;rw[qo,hX,du,sT (by rw[ac7,bx];omega),dF]
  refine bD.Tx aY rfl (by simp) (e:=3) rfl rfl rfl (g:=dP) (n:=d.aG) (c:=d.aG) (aS:=rowOf [Value.int .i64 0] (d.aG*1)) rfl (by rw[ac7];show d.aG*1<=_;omega) (sa:=d.b0) (c':=d.ch) (by rw[<-B9.1,<-B9.2.1,<-B9.2.2];rfl) (cb:=d.au.map (.int .i64 ·)) (by rw[bx];show _=d.aG*1;omega) (λay=>apm.y1 _ ay) (FQ _) [] (ix.ar 82++[]) rfl ?_;obtain⟨y6,FY⟩:∃ y6:aR,y6=⟨some dP,d.aG,d.aG,cj (rowOf [Value.int .i64 0] (d.aG*1)) 0 (d.au.map (.int .i64 ·))⟩:=⟨_,rfl⟩;have apo:y6.ok 1 (d.au.flatMap iI):=by rw[FY,oq,apn];refine⟨by rw[bx];simp only;omega,(λh=>by cases h),λeg jU=>⟨by simp only[bx];omega,b' _,by unfold maxLen;simp only;omega,fC (by rw[bx];simp only;omega)⟩⟩
  have awk:y6.val=.slice (some ⟨dP,0,none⟩) d.aG d.aG:=by rw[FY];rfl
  have apq:y6.a=some dP:=by rw[FY]
  have ac8:y6.n=d.aG:=by rw[FY]
  refine dt.inv (ι:=Nat×aR×List Int) (λy=>{ bo:=[(1,.val (.int .i64 ha)),(5,.val (.slice (some ⟨dU,0,none⟩) n n)),(6,.val (.int .i64 i)),(7,.ref 7 0),(8,.val (.slice (some ⟨dP,0,none⟩) d.aG d.aG)),(16,.val (.slice (some ⟨dU,0,none⟩) n n)),(17,.val (.int .i64 n)),(18,.val (.int .i64 i)),(39,.val (.slice (some ⟨dP,0,none⟩) d.aG d.aG)),(40,.val (.int .i64 d.aG)),(41,.val (.int .i64 y.1))],cl:=[],cH:=J,dd:=y.2.1.ar 3++(ix.ar 82++[]) }) (λy=>api d ha y6 y) (λy=>d.aG-y.1) ?_ ?_;·exact⟨(0,y6,d.au),⟨dp _,apo,by simp,rfl,rfl⟩,.ma (by rw[FY];rfl),GV,.nil⟩
  rintro⟨k,eb,fy⟩⟨ae,jt,c7,FZ,hZ⟩;simp only at ae jt c7 FZ hZ;have ac9:eb.a=some dP:=FZ.trans apq;have EM:fy.length=d.au.length:=by rw[c7,cr,bx,fO,pF];omega
  refine aX.mk (λaK=>?_) (λaK=>?_)
  ·have e0:k<d.aG:=by have:(k:Int)<(d.aG:Int):=cJ aK;omega
   have ji:k<d.au.length:=by omega
   have vD:k<fy.length:=by omega
   have Jx:fy[k]=d.au[k]:=by
    have ak:fy[k]?=d.au[k]?:=by rw[c7,l3 (by rw[bx,fO];omega),bx,fO,pA (by omega),mC,mO,oz]
    rw[dg vD,dg ji]at ak;exact eX ak
   obtain⟨gn,fo,fh⟩:=aR.ok.row (I:=J) (M:=eb.ar 3++(ix.ar 82++[])) (e:=3) (f:=iI) (size:=1) (λ_=>rfl) (by decide) jt (λz bb=>iR _ bb) vD;obtain rfl:gn=⟨dP,0,none⟩:=by rw[ac9]at fo;exact(eX fo).symm
   rw[Jx]at fh;have gP:hz (d.au[k]+ha):=ac6 _ (by rw[<-gm];exact bJ ji);refine bm.mk ⟨dP,0,none⟩ k rfl rfl e0 ?_;refine aO.mk _ fh ?_;refine bd.mk (d.au[k]+ha) (wrap_i64 gP) ?_;refine bm.mk ⟨dP,0,none⟩ k rfl rfl e0 ?_;refine aR.IE iI 1 (λ_=>rfl) (e:=3) jt vD (d.au[k]+ha) rfl [] (ix.ar 82++[]) rfl fo ?_;intro o3 apr aps awl apt;refine bd.mk _ (c8 (i:=k) (by omega)) ?_;refine⟨(k+1,o3,fy.set k (d.au[k]+ha)),⟨⟨e0,apt,?_,aps.trans FZ,apr.trans hZ⟩,by simp only;omega⟩,.refl,GV,.nil⟩;simp only;rw[c7,gj ji,cM,b5,hy,Ct _ _ (by rw[bx,fO];omega),bx,fO,pA (by omega),mC,fg ji,Cu,dW];rfl
  have c0:k=d.aG:=by have:¬ (k:Int)<(d.aG:Int):=dv aK;omega
  rw[fC (by omega),sT (by omega),dF]at c7;rw[oq]at jt;refine bm.mk ⟨dU,0,none⟩ i rfl rfl aZ ?_;have hW:i<(L.set i (L[i].dX [])).length:=by rw[rO];exact lE
  have m6:(L.set i (L[i].dX []))[i]=d.dX []:=by rw[List.getElem_set_self,ah]
  have bU:∃ b3:al,b3=⟨d.k,d.cx,d.s1,d.s2,d.cY,d.t,d.lo,d.hi,some ⟨dP,0,none⟩,d.aG,d.aG,fy⟩:=⟨_,rfl⟩;obtain⟨b3,bU⟩:=bU;refine aR.Fk (e:=82) al.cells 9 al.cL iE hW 8 (vs:=[.slice (some ⟨dP,0,none⟩) d.aG d.aG]) (bK rfl) rfl b3 (by rw[m6,bU];rfl) (eb.ar 3) [] rfl (by rw[nn];exact bB) ?_;intro Nk HW vA ot zJ;rw[Hq]at zJ;refine bd.mk _ (c8 (i:=i) (by omega)) ?_;intro eF;obtain⟨mK,hw,g0,dB⟩:=aR.LB (I:=J) (b:=8) (e:=3) jt (by rw[(y2 hZ).1,ac8];omega) (λg aw=>eF.d ⟨g,.cells eb.aS.toArray 3 (0,0)⟩ (by simp[aR.ar,aw])) (Nk.ar 82++[]);refine⟨(i+1,Nk,L.set i b3,mK),⟨⟨by simp only;omega,zJ,iZ _ ?_,λx ab=>?_,λb o h=>g0 _ _ (bf _ _ h),(vA.trans nn).trans oi,(HW.trans lU).trans lJ⟩,by simp only;omega⟩,hw,hx,.nil⟩;·rw[bU,c7];show d.a4.dX (d.au.map (·+ha))=jO ha ds[i];rw[No,jO,gm];rfl
  ·rcases xb ab with ab | rfl
   ·exact(jn _ ab).mono g0
   ·rw[ac9,(y2 hZ).1,(y2 hZ).2,ac8]at dB;have zM:y6.c=d.aG:=by rw[FY]
    rw[zM]at dB;rw[bU];refine⟨h5.k,h5.cx,h5.s1,h5.s2,h5.cY,h5.t,h5.lo,h5.hi,dB,λq aL=>?_⟩;have aL:q∈fy:=aL;rw[c7]at aL;obtain⟨z,bb,rfl⟩:=cP.1 aL;exact ac6 z (by rw[<-gm];exact bb)
def aR.apu(h:os.ok size xs)(ba:∀ x∈os.ar e,x∈M)(ay:0<os.n):∃ aM,os.a.map (λg=>(⟨g,0,none⟩:Addr))=some aM/\cR I M aM (os.n*size) xs:=by
 obtain⟨a,n,c,aS⟩:=os;cases a with
 |none=>have:=(h.nil rfl).1;simp only at this ay;omega| some g=>obtain⟨aa,ad,ak,aK⟩:=h.cap g rfl;exact⟨_,rfl,rfl,aS.toArray,e,(0,0),.inr ⟨⟨g,.cells aS.toArray e (0,0)⟩,ba _ (.head _),rfl,rfl⟩,by simpa using aK,h.len⟩
def apv{c:Nat}{ds:List al}(h:cI I a n c 9 96 (ds.flatMap al.cells))(fD:∀ d∈ds,d.ok I)(ha:Int)(JA:∀ d∈ds,∀ k∈d.au,hz (k+ha)) :
  Spec Tryz.prog 108 [.slice a n c,.int .i64 ha] I M0 λv I' M'=>(∀ b o,I b=some o->I' b=some o)/\∃ (os:aR) (L:List al),v=os.val/\os.n=n/\os.ok 9 (L.flatMap al.cells)/\M'=os.ar 82++M0/\L.map al.a4=ds.map (jO ha)/\∀ d∈L,d.ok I':=by
 refine Spec.mH (Spec.frame (ac5 h fD ha JA)) ?_;rintro v J M⟨M',rfl,-,-,aa,os,L,rfl,ad,ak,rfl,aK,bz⟩;exact⟨aa,os,L,rfl,ad,ak,rfl,aK,bz⟩
def apw(n:Nat)(l:List al):l.map (jO (n:Int))=l.map λx=>x.dX (x.au.map λk=>(n:Int)+k):=fV λx _=>by unfold jO;congr 1;exact fV λk _=>Int.add_comm _ _
def ada(z:Int)(ds:List al):(ds.map al.a4).map (jO z)=ds.map (jO z):=by rw[gu];rfl
def apx(be:e2 I az){d:al}(ah:d.ok I){L:List bk}(bp:cI I b0 L.length Jf 2 32 (L.flatMap bk.cells))(bY:∀ t∈L,t.ok I/\right t=true)(aD:(L.map (·.n)).sum<=1099511627776)(ax:L.length<=1099511627776)(aB:fits d L.length=true) :
  Spec Tryz.prog 175 [d.val,.slice b0 L.length Jf] I [] λv I' M'=>(∀ b o,I b=some o->I' b=some o) /\
   ∃ (os cd:aR) (hp:List al) (b3:al),v=.tuple #[.agg #[os.val,.int .i64 ((hp.length:Nat):Int)],.bool true]/\os.n=hp.length+1/\os.n<=1099511627777/\os.ok 9 ((hp++[b3]).flatMap al.cells)/\M'=os.ar 82++(cd.ar 3++[])/\(∀ x∈hp,x.ok I') /\
    cd.ok 1 (b3.au.map (.int .i64 ·))/\cd.n<=1099511627776/\b3.b0=cd.a.map (λg=>(⟨g,0,none⟩:Addr))/\b3.aG=cd.n/\b3.ch=cd.c/\b3.a4=d.dX b3.au/\(∀ k∈b3.au,hz k)/\(hp++[b3]).map al.a4=sO d (L.map tM):=by
 refine bV [] aY Tryz.func175 rfl rfl rfl ?_;intro B ay;refine a8.mk [] [] _ (.refl _) (PC be.c ah L.length) ?_;rintro v Jv N -⟨rfl,xO,rfl⟩;subst Jv;refine aX.mk (λh=>absurd h (by simp[aB])) (λ_=>?_);refine dt.inv (ι:=Nat×aR×List al×aR×List Int×aH) (λx=>{ bo:=[(2,.ref 2 0),(4,.ref 4 0),(6,.val x.2.1.val),(7,.val x.2.2.2.1.val),(16,.val (.slice b0 L.length Jf)),(17,.val (.int .i64 L.length)),(18,.val (.int .i64 x.1))],cl:=[(2,d.cells),(4,[.slice none 0 0,.int .i64 0])],cH:=x.2.2.2.2.2,dd:=x.2.1.ar 82++(x.2.2.2.1.ar 3++[]) }) (aj6 I L) (λx=>L.length-x.1) ?_ ?_
 ·exact⟨(0,h2,[],h2,[],I),⟨dp _,k1 9,k1 1,rfl,rfl,(λd ah=>by cases ah),λ_ _ h=>h,dp _,(λk ae=>by cases ae)⟩,.refl,rh,.cons rfl (.cons rfl (.nil))⟩
 rintro⟨i,out,hp,cd,TC,J⟩⟨hi,r4,jW,c7,ug,bg,a5,ic,iy⟩;simp only at hi r4 jW c7 ug bg a5 ic iy;have dk:=Yx L i;have vC:out.n=hp.length:=by have:=r4.len;rw[gO _ 9 al.cL]at this;omega
 have awm:=jW.pW;refine aX.mk (λh=>?_) (λh=>?_)
 ·have aZ:i<L.length:=by have:(i:Int)<(L.length:Int):=cJ h;omega
  obtain⟨aM,bB,adb⟩:=(bp.mono a5).row (f:=bk.cells) (λ_=>rfl) aZ aZ;obtain⟨TD,lK⟩:=bY _ (bJ aZ);have JC:=TD.mono a5;have Np:=Yx L (i+1);rw[Yy L i aZ]at Np;have ade:(L.take (i+1)).map tM=(L.take i).map tM++[tM L[i]]:=by rw[gj aZ,cM];rfl
  have apy:=Yy L i aZ;generalize awn:L[i]=t at TD lK JC adb Np ade apy;obtain⟨gV,hn⟩:=l4 lK;obtain⟨r,en⟩:=eG gV;have hk:=TD.n;refine bm.mk aM i bB rfl aZ ?_;refine aO.mk _ (adb _) ?_;refine a8.mk [] (out.ar 82++(cd.ar 3++[])) _ (.refl _) (n7 (be.mono a5).c JC) ?_;rintro v Jv N -⟨rfl,xO,rfl⟩;subst Jv;refine aX.mk (λh=>absurd h (by simp[lK])) (λ_=>?_);have adf:=TB (M0:=out.ar 82++(cd.ar 3++[])) JC lK (by omega) (node:=r) (by omega);rw[<-en]at adf;refine a8.whole _ adf ?_;rintro v iz N -⟨hq,ho,t1,rfl,tJ,av⟩;subst N;have oD:=av;rw[en]at oD;have h9:=Zg lK (show r<t.ns.length by omega) oD;have rA:=Zh lK (show r<t.ns.length by omega) oD;have dn:=H2 lK t.ns.length r (by omega) (by omega);have TE:=tJ.n;have dz:tM t=t1.ns.map al.a4:=av.a4.symm;refine a8.whole _ (apv (M0:=out.ar 82++(cd.ar 3++[])) tJ.a' tJ.ns out.n λx ab k ae=>?_) ?_;·obtain⟨q,aL,rfl⟩:=hO ab;have:=ly h9 q aL k ae;exact⟨by omega,by omega⟩
  rintro v cA N -⟨cO,BP,TF,rfl,IU,adg,ho,adh,apz⟩;subst N;have awo:TF.length=t1.n:=by have:=congrArg List.length adh;rw[bx,bx]at this;omega
  refine bD.wS aY rfl (by simp) (e:=82) rfl rfl rfl out r4 rfl (sa:=BP.a.map λg=>⟨g,0,none⟩) (m:=BP.n) (c':=BP.c) (cb:=TF.flatMap al.cells) rfl adg.len (λay=>aR.apu adg (λz bb=>iR _ bb) ay) (Ni al.one _) (BP.ar 82) (cd.ar 3++[]) rfl (by omega) (by show(out.n+BP.n)*96<=_;omega) ?_;intro np TA awp iE;refine bd.mk ((np.n:Int)-1) (by show IntKind.i64.wrap ((np.n:Int)-1)=_;rw[wrap_i64 ⟨by omega,by omega⟩]) ?_;refine bW.mk λgR Fo alB=>?_;refine bD.k5 aY rfl (by simp) (e:=3) rfl rfl rfl cd jW rfl (cs:=[.int .i64 ((np.n:Int)-1)]) rfl rfl rfl (BP.ar 82++np.ar 82) [] (by rw[dW];rfl) (by omega) (by show(cd.n+1)*8<=_;omega) ?_;intro apA FX awq apB;refine bd.mk _ (c8 (i:=i) (by omega)) ?_;have apC:(tM t).length=t1.n:=by rw[dz,bx];exact TE
  refine⟨(i+1,np,hp++TF,apA,TC++[(np.n:Int)-1],cA),⟨⟨aZ,?_,?_,by simp only[cr,et,hB];omega,?_,λx ab=>?_,λb o h=>cO _ _ (hq _ _ (a5 _ _ h)),?_,λk ae=>?_⟩,by simp only;omega⟩,.sub (by rw[dW];exact mT _ _) .refl,rh,.cons rfl (.cons rfl (.nil))⟩;·simp only;rw[fI];exact iE
  ·simp only;rw[cM];exact apB
  ·simp only;rw[ade,tL,ug,km,HP];show(hp.map al.a4++(tM t).map (λx=>x.dX (x.au.map λk=>((hp.map al.a4).length:Int)+k)),TC++[(((hp.map al.a4).length+(tM t).length:Nat):Int)-1])=_;rw[cM,adh,bx,apC,dz,<-ada,<-vC,apw];congr 3;omega
  ·rcases cv.1 ab with ab | ab
   ·exact(bg x ab).mono λb o h=>cO _ _ (hq _ _ h)
   ·exact apz x ab
  ·simp only[cr];omega
  ·simp only at ae |-;rcases cv.1 ae with ae | ae
   ·have:=iy k ae;omega
   ·rw[eN]at ae;omega
 have c0:i=L.length:=by have:¬ (i:Int)<(L.length:Int):=dv h;omega
 subst c0;rw[fC (b' _)]at ug ic iy;refine bW.mk λawr aws awt=>?_;refine bD.k5 aY rfl (by simp) (e:=82) rfl rfl rfl out r4 rfl (cs:=[.int .u8 d.k,.int .u64 d.cx,.int .u64 d.s1,.int .u64 d.s2,.int .u64 d.cY,.string d.t,.int .i64 d.lo,.int .i64 d.hi,cd.val]) rfl rfl rfl [] (cd.ar 3++[]) rfl (by omega) (by show(out.n+1)*96<=_;omega) ?_;intro os A6 adi apD;refine bd.mk ((hp.length:Nat):Int) (by show IntKind.i64.wrap ((os.n:Int)-1)=_;rw[wrap_i64 ⟨by omega,by omega⟩];omega) ?_;refine⟨_,_,.refl,a5,os,cd,hp,⟨d.k,d.cx,d.s1,d.s2,d.cY,d.t,d.lo,d.hi,cd.a.map λg=>⟨g,0,none⟩,cd.n,cd.c,TC⟩,rfl,by omega,by omega,?_,rfl,bg,jW,by omega,rfl,rfl,rfl,rfl,λk ae=>?_,?_⟩
 ·rw[fI];exact apD
 ·have:=iy k ae;exact⟨by omega,by omega⟩
 ·rw[sO,ug,cM];rfl
def apE(be:e2 I az){d:al}(ah:d.ok I){L:List bk}(bp:cI I b0 L.length Jf 2 32 (L.flatMap bk.cells))(bY:∀ t∈L,t.ok I/\right t=true)(aD:(L.map (·.n)).sum<=1099511627776)(ax:L.length<=1099511627776)(aB:fits d L.length=true) :
  Spec Tryz.prog 175 [d.val,.slice b0 L.length Jf] I M0 λv I' M'=>(∀ b o,I b=some o->I' b=some o)/\M'=M0 /\
   ∃ bn:bk,v=.tuple #[bn.val,.bool true]/\bn.ok I'/\bn.bC=(bn.ns.length:Int)-1/\bn.ns.map al.a4=sO d (L.map tM):=by
 refine Spec.mH (Spec.frame (Spec.jz (apx be ah bp bY aD ax aB))) ?_;rintro v J M⟨M',rfl,-,a5,rfl,-,I',M1,⟨aa,os,cd,hp,b3,rfl,ic,MG,b4,rfl,bg,jW,iy,aI,a6,cq,dS,oc,eh⟩,bE⟩;have fh:=aR.jz (b:=8) bE jW (λz bb=>rj _ (iR _ bb)) (by omega);have f:∀ {α:Type} (p:al->α),p b3.a4=p (d.dX b3.au):=λp=>by rw[dS]
 refine⟨a5,rfl,⟨hp++[b3],os.a.map λg=>⟨g,0,none⟩,os.n,os.c,(hp.length:Nat)⟩,rfl,⟨aR.jz bE b4 (λz bb=>iR _ bb) (by omega),λx ab=>?_,⟨by simp only;omega,by simp only;omega⟩⟩,by simp,eh⟩;rcases cv.1 ab with ab | ab
 ·exact(bg x ab).mono bE.le
 ·rw[eN]at ab;subst ab;have uh:=ah.mono a5;refine⟨?_,?_,?_,?_,?_,?_,?_,?_,by rw[aI,a6,cq];exact fh,oc⟩
  ·have:x.k=d.k:=f al.k;rw[this];exact uh.k
  ·have:x.cx=d.cx:=f al.cx;rw[this];exact uh.cx
  ·have:x.s1=d.s1:=f al.s1;rw[this];exact uh.s1
  ·have:x.s2=d.s2:=f al.s2;rw[this];exact uh.s2
  ·have:x.cY=d.cY:=f al.cY;rw[this];exact uh.cY
  ·have:x.t=d.t:=f al.t;rw[this];exact uh.t
  ·have:x.lo=d.lo:=f al.lo;rw[this];exact uh.lo
  ·have:x.hi=d.hi:=f al.hi;rw[this];exact uh.hi
def TG{A K B:List Int}(ah:hQ (A++(K++B))){x:Int}(ab:x∈K):k3 (A++(K++B)) x=k3 K x+(A.length:Int):=by have dI:x ∉ A:=λh=>(rN.1 ah).2.2 x h x (iR _ ab) rfl;unfold k3;rw[S8,bN dI,S8,bT ab];omega
def adj{Nq:List Int}{k:Int}(ah:hQ (Nq++[k])):k3 (Nq++[k]) k=(Nq.length:Int):=by have dI:k ∉ Nq:=λh=>(rN.1 ah).2.2 k h k (.head _) rfl;unfold k3;rw[S8,bN dI,List.idxOf_cons_self];omega
section
variable{t:bk}(af:g' t)
include af
theorem TH{j:Nat}(ai:j<t.ns.length){a9 post:List Int}{k:Int}(ae:(nodeAt t.ns j).au=a9++k::post):ej t.ns j=a9.flatMap (ej t.ns)++(ej t.ns k++(post.flatMap (ej t.ns)++[(j:Int)])):=by rw[kz af ai,ae,fI,iS,dW,dW]
theorem apF{j:Nat}(ai:j<t.ns.length){a9 post:List Int}{k:Int}(ae:(nodeAt t.ns j).au=a9++k::post):k3 (ej t.ns j) k=((a9.flatMap (ej t.ns)).length:Int)+(ej t.ns k).length-1:=by
 have Nr:k∈(nodeAt t.ns j).au:=by rw[ae];simp
 obtain⟨ay,aa⟩:=af.node ai Nr;obtain⟨q,rfl⟩:=eG ay;have aL:q<t.ns.length:=by omega
 have ah:=Ic af j ai;rw[TH af ai ae]at ah |-;rw[TG ah (Za af aL)];have gm:=Ic af q aL;have e:=kz af aL;rw[e]at gm |-;rw[adj gm,cr,et,hB];omega
theorem apG{j:Nat}(ai:j<t.ns.length){a9 post:List Int}{k:Int}(ae:(nodeAt t.ns j).au=a9++k::post) :
  (((wI t.ns j).drop (a9.flatMap (ej t.ns)).length).take (ej t.ns k).length).map (jO (-((a9.flatMap (ej t.ns)).length:Int)))=wI t.ns k:=by
 have Nr:k∈(nodeAt t.ns j).au:=by rw[ae];simp
 obtain⟨ay,aa⟩:=af.node ai Nr;obtain⟨q,rfl⟩:=eG ay;have aL:q<t.ns.length:=by omega
 have ah:=Ic af j ai;have aJ:=QW af q aL;have av:=TH af ai ae;rw[EU af ai,EU af aL];rw[av]at ah;have aI:(((ej t.ns j).map (nT t.ns (ej t.ns j))).drop (a9.flatMap (ej t.ns)).length).take (ej t.ns q).length=(ej t.ns q).map (nT t.ns (ej t.ns j)):=by rw[<-G3,<-G4];congr 1;rw[av,Ra,we]
 rw[aI,gu];refine fV λb ag=>?_;show jO _ (nT t.ns (ej t.ns j) b)=nT t.ns (ej t.ns q) b;show(nodeAt t.ns b.toNat).dX (((nodeAt t.ns b.toNat).au.map (k3 (ej t.ns j))).map _)=(nodeAt t.ns b.toNat).dX _;congr 1;rw[gu];refine fV λx ab=>?_;obtain⟨i,hi,rfl⟩:=hO ag;have apH:x∈ej t.ns q:=sA (aJ i hi x ab);show k3 (ej t.ns j) x+_=_;rw[av,TG ah apH];omega
end
def apI{c:Nat}{ds:List al}(h:cI I a n c 9 96 (ds.flatMap al.cells))(fD:∀ d∈ds,d.ok I)(ha:Int)(JA:∀ d∈ds,∀ k∈d.au,hz (k+ha)) :
  Spec Tryz.prog 108 [.slice a n c,.int .i64 ha] I M0 λv I' M'=>(∀ b o,I b=some o->I' b=some o)/\M'=M0/\∃ (bL:Option Addr) (c':Nat) (L:List al),v=.slice bL n c'/\cI I' bL n c' 9 96 (L.flatMap al.cells)/\L.map al.a4=ds.map (jO ha)/\∀ d∈L,d.ok I':=by
 refine Spec.mH (Spec.frame (Spec.jz (ac5 h fD ha JA))) ?_;rintro v J M⟨M',rfl,-,a5,rfl,-,I',M1,⟨aa,os,L,rfl,rfl,bg,rfl,eh,jn⟩,bE⟩;exact⟨a5,rfl,_,_,L,rfl,aR.jz bE bg (λ_ h=>h) h.cap.2,eh,λd ah=>(jn d ah).mono bE.le⟩
def cI.JD{c:Nat}{f:α->List Value}(aB:∀ x,(f x).length=size){l:List α}(h:cI I a n c size b (l.flatMap f)){lo hi:Nat}(aa:lo<=hi)(ad:hi<=n)(ax:l.length=n) :
  cI I (if c=lo then a else a.map (·.add (lo*size))) (hi-lo) (c-lo) size b (((l.drop lo).take (hi-lo)).flatMap f):=by
 have cS:(((l.drop lo).take (hi-lo)).flatMap f).length=(hi-lo)*size:=by rw[gO f size aB,fO,pF,ax,pA (by omega)]
 have hA:=h.cap;refine⟨cS,⟨by omega,jg (qg b (show hi-lo<=n by omega)) hA.2⟩,?_⟩;by_cases ay:hi-lo=0
 ·exact .inl ay
 ·right
  rcases h.rd with aD | ⟨aM,rfl,c9,cs,T,an,bA,aj⟩;·omega
  ·have bt:¬ c=lo:=by omega
   rw[bN bt];refine⟨aM.add (lo*size),rfl,?_,cs,T,an,?_,?_⟩;·rw[eS _ c9]
   ·rw[eS _ c9];exact bA
   ·rw[eS _ c9];have aI:((l.drop lo).take (hi-lo)).flatMap f=((l.flatMap f).drop (lo*size)).take ((hi-lo)*size):=by
     have aq:∀ (l:List α) (k:Nat),(l.take k).flatMap f=(l.flatMap f).take (k*size):=λl k=>by
      by_cases ae:k<=l.length
      ·have e:l.flatMap f=(l.take k).flatMap f++(l.drop k).flatMap f:=by rw[<-fI,pM]
       have ad:((l.take k).flatMap f).length=k*size:=by rw[gO f size aB,L4 ae]
       rw[e,<-ad,we]
      ·rw[fC (by omega),fC (by rw[gO f size aB];exact qg _ (by omega))]
     rw[aq,ao5 f size aB]
    rw[aI,<-aj,D5,zA,zB];congr 1;have:(hi-lo)*size<=n*size-lo*size:=by rw[<-Nat.sub_mul];exact qg _ (by omega)
    omega
structure apJ(I:aH)(t:bk)(ks:List Int)(x:Nat×aR×List bk×aH):Prop where
 i:x.1<=ks.length
 os:x.2.1.ok 2 (x.2.2.1.flatMap bk.cells)
 len:x.2.2.1.length=x.1
 le:∀ b o,I b=some o->x.2.2.2 b=some o
 all:∀ q (h:q<x.2.2.1.length),(x.2.2.1[q]).ok x.2.2.2/\qL t (ks.getD q 0) x.2.2.1[q]
def apK(be:e2 I az)(aq:t.ok I)(af:right t=true)(aD:t.n<=1099511627776){r:Nat}(en:t.bC=(r:Int)) : Spec Tryz.prog 53 [t.val] I M0 λv I' M'=>(∀ b o,I b=some o->I' b=some o)/\∃ (os:aR) (L:List bk),os.ok 2 (L.flatMap bk.cells)/\v=os.val/\M'=os.ar 56++M0 /\
  L.length=(nodeAt t.ns r).au.length/\∀ q (h:q<L.length),(L[q]).ok I'/\qL t ((nodeAt t.ns r).au.getD q 0) L[q]:=by
 refine bV [] aY Tryz.func53 rfl rfl rfl ?_;intro B ay;have aV:=jv.1 af;have hk:=aq.n;obtain⟨gV,hn⟩:=l4 af;have eH:r<t.ns.length:=by omega
 refine a8.whole _ (apg be aq af aD en) ?_;rintro v J N -⟨a5,ho,t1,rfl,tJ,av⟩;subst N;have rA:=Zh af eH av;have dn:=H2 af t.ns.length r eH (by omega);have TE:=tJ.n;have gi:=EU aV eH;have rI:=QX aV r eH;have F0:t1.ns.length=(ej t.ns r).length:=by have:=congrArg List.length av.a4;rw[bx,gi,bx]at this;exact this
 have Su:=kz aV eH;have gy:0<(ej t.ns r).length:=by rw[Su];simp
 obtain⟨ks,er⟩:∃ ks,(nodeAt t.ns r).au=ks:=⟨_,rfl⟩;have EV:(t1.ns[t1.ns.length-1]'(by omega)).au=ks.map (k3 (ej t.ns r)):=by
  have aa:(t1.ns.map al.a4)[t1.ns.length-1]?=some (nT t.ns (ej t.ns r) r):=by
   rw[av.a4,gi,iB];have:(ej t.ns r)[t1.ns.length-1]?=some (r:Int):=by rw[F0,<-XZ];exact Zb aV eH
   rw[this];rfl
  rw[iB,dg (by omega)]at aa;have ad:(t1.ns[t1.ns.length-1]'(by omega)).a4.au=(nT t.ns (ej t.ns r) r).au:=congrArg al.au (eX aa);rw[<-er];exact ad
 refine aX.mk (λh=>?_) (λ_=>?_)
 ·have:(t1.n:Int)=0:=cJ h;omega
 have m5:t1.bC=((t1.ns.length-1:Nat):Int):=by rw[av.bC];omega
 obtain⟨m9,nP,jD⟩:=tJ.a'.row al.cL (show t1.ns.length-1<t1.n by omega) (show t1.ns.length-1<t1.ns.length by omega);have h5:=tJ.ns _ (bJ (show t1.ns.length-1<t1.ns.length by omega));generalize t1.ns[t1.ns.length-1]'(by omega)=d at EV jD h5;have fj:=h5.aG;have c7:ks.length=d.aG:=by have:=congrArg List.length EV;rw[bx]at this;omega
 have pY:=h5.a'.cap;have iy:ks.length<=t.ns.length:=by
  have aI:=EI af eH;have a6:t.ns[r].au=ks:=by rw[<-er,gr eH]
  have cq:ks.length<=gQ (l9 t.ns) ks:=LQ af λk ae=>by have:=aV.node eH (k:=k) (by rw[er];exact ae);omega
  rw[a6]at aI;omega
 refine bm.mk m9 (t1.ns.length-1) nP m5 (by omega) ?_;refine aO.mk _ ((jD _).part (k:=8) (m:=1) (by decide)) ?_;refine dt.inv (ι:=Nat×aR×List bk×aH) (λx=>{ bo:=[(1,.ref 1 0),(3,.val x.2.1.val),(4,.val (.int .i64 ((ks.take x.1).flatMap (ej t.ns)).length)),(19,.val (.slice d.b0 d.aG d.ch)),(20,.val (.int .i64 d.aG)),(21,.val (.int .i64 x.1))],cl:=[(1,t1.cells)],cH:=x.2.2.2,dd:=x.2.1.ar 56++M0 }) (λx=>apJ J t ks x) (λx=>ks.length-x.1) ?_ ?_
 ·exact⟨(0,h2,[],J),⟨dp _,k1 2,rfl,λ_ _ h=>h,λq h=>absurd h (ng _)⟩,.refl,zz,.cons rfl (.nil)⟩
 rintro⟨i,os,wF,cA⟩⟨hi,b4,AP,cO,eO⟩;simp only at hi b4 AP cO eO;have A6:os.n=i:=by have:=b4.len;rw[gO _ 2 (λ_=>rfl),AP]at this;omega
 refine aX.mk (λh=>?_) (λh=>?_)
 rotate_left
 ·have c0:i=d.aG:=by have:¬ (i:Int)<(d.aG:Int):=dv h;omega
  exact⟨_,_,.refl,λb o h=>cO _ _ (a5 _ _ h),os,wF,b4,rfl,rfl,by rw[er];omega,by rw[er];exact eO⟩
 have aZ:i<d.aG:=by have:(i:Int)<(d.aG:Int):=cJ h;omega
 have y7:i<ks.length:=by omega
 have TI:(nodeAt t.ns r).au=ks.take i++ks[i]::ks.drop (i+1):=by rw[er,<-fg y7,pM]
 have Dm:=apF aV eH TI;have TJ:=apG aV eH TI;have gh:ks[i]∈(nodeAt t.ns r).au:=by rw[er];exact bJ y7
 have apL:=aV.node eH gh;have ms:0<(ej t.ns ks[i]).length:=by obtain⟨q,aL⟩:=eG apL.1;have:=kz aV (j:=q) (by omega);rw[aL,this];simp
 have adk:((ks.take i).flatMap (ej t.ns)).length+(ej t.ns ks[i]).length<=t1.n:=by have:=congrArg List.length (TH aV eH TI);simp only[cr,et,hB]at this;omega
 have oc:(ks.map (k3 (ej t.ns r)))[i]'(by rw[bx];exact y7)=((ks.take i).flatMap (ej t.ns)).length+(ej t.ns ks[i]).length-1:=by rw[fW];exact Dm
 obtain⟨gn,fo,fh⟩:=(h5.mono cO).a'.one aZ (show i<d.au.length by omega);have apM:d.au[i]'(by omega)=(((ks.take i).flatMap (ej t.ns)).length:Int)+(ej t.ns ks[i]).length-1:=by simp only[EV];exact oc
 rw[apM]at fh;have TK:((ks.take (i+1)).flatMap (ej t.ns)).length=((ks.take i).flatMap (ej t.ns)).length+(ej t.ns ks[i]).length:=by rw[gj y7,fI,cr];simp
 have apN:ks.getD i 0=ks[i]:=by simp[bS,y7]
 have TL:=tJ.mono cO;generalize((ks.take i).flatMap (ej t.ns)).length=A at TJ adk fh TK;generalize awu:(ej t.ns ks[i]).length=qb at TJ adk fh TK ms;have dB:=cI.JD al.cL TL.a' (lo:=A) (hi:=A+qb) (by omega) (by omega) TE;have h9:=Zg af eH av;refine bm.mk gn i fo rfl aZ ?_;refine aO.mk _ (fh _) ?_;refine bd.mk ((A+qb:Nat):Int) (by rw[wrap_i64 ⟨by omega,by omega⟩];omega) ?_;refine jR.mk A (A+qb) rfl rfl (by omega) (by have:=TL.a'.cap.1;omega) ?_;refine bd.mk (-(A:Int)) (by first | exact wrap_i64 ⟨by omega,by omega⟩ | (rw[wrap_i64 ⟨by omega,by omega⟩];omega)) ?_;refine a8.whole _ (apI (M0:=os.ar 56++M0) dB (λx ab=>TL.ns x (AV (sA ab))) (-(A:Int)) λx ab k ae=>?_) ?_
 ·obtain⟨q,aL,rfl⟩:=hO (AV (sA ab));have:=ly h9 q aL k ae;exact⟨by omega,by omega⟩
 rintro v kF N -⟨k9,ho,bL,c',Ns,rfl,adl,apO,apP⟩;subst N;have apQ:Ns.length=qb:=by have:=adl.len;rw[gO _ 9 al.cL]at this;omega
 refine bd.mk ((qb:Int)-1) (by rw[wrap_i64 ⟨by omega,by omega⟩];omega) ?_;refine bW.mk λawv aww awx=>?_;refine bD.k5 aY rfl (by simp) (e:=56) rfl rfl rfl os b4 rfl (cs:=[.slice bL (A+qb-A) c',.int .i64 ((qb:Int)-1)]) rfl rfl rfl [] M0 rfl (by omega) (by show(os.n+1)*32<=_;omega) ?_;intro ix jy gq iE;refine bd.mk ((A+qb:Nat):Int) (by rw[wrap_i64 ⟨by omega,by omega⟩];omega) ?_;refine bd.mk _ (c8 (i:=i) (by omega)) ?_;have e8:bk.ok kF ⟨Ns,bL,A+qb-A,c',(qb:Int)-1⟩:=⟨adl,apP,⟨by simp only;omega,by simp only;omega⟩⟩;have jX:qL t ks[i] ⟨Ns,bL,A+qb-A,c',(qb:Int)-1⟩:=by refine⟨?_,by simp only[apQ]⟩;simp only;rw[apO,<-TJ,<-ada,G4,G3,av.a4,show A+qb-A=qb by omega]
 refine⟨(i+1,ix,wF++[⟨Ns,bL,A+qb-A,c',(qb:Int)-1⟩],kF),⟨⟨y7,?_,by simp[AP],λb o h=>k9 _ _ (cO _ _ h),λq aL=>?_⟩,by simp only;omega⟩,.refl,.cons .refl (.cons .refl (.cons ?_ (fG))),.cons rfl (.nil)⟩
 ·simp only;rw[fI];exact iE
 ·simp only at aL |-;by_cases e:q<wF.length
  ·rw[yh e];exact⟨(eO q e).1.mono k9,(eO q e).2⟩
  ·have:q=i:=by simp at aL;omega
   subst this;rw[Cs (by omega)];simp only[AP,mC,tp];rw[apN];exact⟨e8,jX⟩
 ·simp only;rw[TK];exact .refl
section
end
section
end
open Classical in
def adm{ds:List a3}{i:Nat}:i∈r2 ds F ↔ i<ds.length/\mI (me ds F) i i:=by unfold r2;rw[n4,j9,S7]
def JE:c6 az g=0 ↔ g.n≠0/\oa g.ds=true/\pV az g=false/\(∀ i,i<g.ds.length->p7 g.ds i=true)/\∀ d∈g.ds,∀ n∈d.t.ns,n.k=3->0<=eV n.t g.ds 0:=by
 rw[<-ab5];have eO:(g.ds.all λd=>d.t.ns.all (yV g.ds))=true ↔ ∀ d∈g.ds,∀ n∈d.t.ns,n.k=3->0<=eV n.t g.ds 0:=by
  simp only[fS,yV,lp,tq,st,h6];constructor
  ·intro h d ah n aD ak;rcases h d ah n aD with h | h
   ·exact absurd ak h
   ·exact h
  ·intro h d ah n aD;by_cases ak:n.k=3
   ·exact .inr (h d ah n aD ak)
   ·exact .inl ak
 have aB:(List.range g.ds.length).all (p7 g.ds)=true ↔ ∀ i,i<g.ds.length->p7 g.ds i=true:=by simp[fS]
 rw[<-eO,<-aB];unfold M2;by_cases aa:g.n=0
 ·rw[iX (by omega),cF];exact⟨(λh=>by cases h),(λh=>absurd aa h.1)⟩
 ·rw[eY (by omega),cE];cases oa g.ds with
  |false=>exact⟨(λh=>by cases h),(λh=>by cases h.2.1)⟩| true=>
  cases pV az g with
  |true=>exact⟨(λh=>by cases h),(λh=>by cases h.2.2.1)⟩| false=>
  cases(List.range g.ds.length).all (p7 g.ds)with
  |false=>exact⟨(λh=>by cases h),(λh=>by cases h.2.2.2.1)⟩| true=>
  cases(g.ds.all λd=>d.t.ns.all (yV g.ds))with
  |false=>exact⟨(λh=>by cases h),(λh=>by cases h.2.2.2.2)⟩| true=>exact⟨λ_=>⟨aa,rfl,rfl,rfl,rfl⟩,λ_=>rfl⟩
def r5(ds:List a3):cU:=⟨ds,none,ds.length,0⟩
section
variable{α:Type}{z:α}{F:al->List α->α}
def TM{f:al->(Int->α)->α}:∀ (a b:List al) (a2:List α),gF z f (a++b) a2=gF z f b (gF z f a a2)
 |[],b,a2=>rfl| d::a,b,a2=>by rw[pN,gF,gF,TM a b]
variable(bE:∀ d l,F (d.dX l)=F d)
include bE
theorem adn{n:Nat}{a2:List α}(aD:a2.length=n):∀ (l:List al) (p:List α),(∀ d∈l,∀ k∈d.au,0<=k)->gF z (λd g=>F d (d.au.map g)) (l.map λx=>x.dX (x.au.map λk=>(n:Int)+k)) (a2++p)=a2++gF z (λd g=>F d (d.au.map g)) l p
 |[],p,_=>rfl
 |d::l,p,h=>by
  have e:F (d.dX (d.au.map λk=>(n:Int)+k)) ((d.au.map λk=>(n:Int)+k).map λk=>(a2++p).getD k.toNat z)=F d (d.au.map λk=>p.getD k.toNat z):=by rw[bE,gu];congr 1;refine fV λk ae=>?_;have ay:=h d (.head _) k ae;show(a2++p).getD ((n:Int)+k).toNat z=_;rw[bS,l3 (by omega),bS];congr 2;omega
  rw[b5,gF,gF];show gF z _ _ (a2++p++[F (d.dX (d.au.map λk=>(n:Int)+k)) ((d.au.map λk=>(n:Int)+k).map λk=>(a2++p).getD k.toNat z)])=_;rw[e,dW];exact adn aD l _ λx ab=>h x (.tail _ ab)
def A7(z:α)(F:al->List α->α)(l:List al):α:=mA z (λd g=>F d (d.au.map g)) l ((l.length:Int)-1)
theorem ado:∀ (fX:List (List al)) (a0:List al×List Int) (vs:List α),(∀ l∈fX,0<l.length/\∀ d∈l,∀ k∈d.au,0<=k) -> (a0.2.map λk=>(gF z (λd g=>F d (d.au.map g)) a0.1 []).getD k.toNat z)=vs->(∀ k∈a0.2,0<=k/\k<a0.1.length) -> ((fX.foldl js a0).2.map λk=>(gF z (λd g=>F d (d.au.map g)) (fX.foldl js a0).1 []).getD k.toNat z)=vs++fX.map (A7 z F)
 |[],a0,vs,_,h,_=>by simpa using h
 |l::fX,a0,vs,ax,h,ae=>by
  obtain⟨BM,l0⟩:=ax l (.head _);have cS:(gF z (λd g=>F d (d.au.map g)) a0.1 []).length=a0.1.length:=by rw[PJ];simp
  have be:gF z (λd g=>F d (d.au.map g)) (js a0 l).1 []=gF z (λd g=>F d (d.au.map g)) a0.1 []++gF z (λd g=>F d (d.au.map g)) l []:=by show gF z _ (a0.1++l.map λx=>x.dX (x.au.map λk=>(a0.1.length:Int)+k)) []=_;rw[TM];have:=adn bE (z:=z) cS l [] l0;rwa [dF]at this
  rw[km];have:=ado fX (js a0 l) (vs++[A7 z F l]) (λx ab=>ax x (.tail _ ab)) ?_ ?_;·rw[this,b5,dW];rfl
  ·rw[be];show(a0.2++[((a0.1.length+l.length:Nat):Int)-1]).map _=_;rw[cM,<-h,b5,hy];congr 1
   ·refine fV λk hR=>?_;have:=ae k hR;rw[bS,ri (by rw[cS];omega),bS]
   ·congr 1;rw[bS,l3 (by rw[cS];omega),cS];unfold A7 mA;rw[bS];congr 2;omega
  ·intro k hR;rcases cv.1 (show k∈a0.2++[((a0.1.length+l.length:Nat):Int)-1]from hR)with hR | hR
   ·have:=ae k hR;show 0<=k/\k<((a0.1++l.map λx=>x.dX (x.au.map λk=>(a0.1.length:Int)+k)).length:Nat);rw[cr];omega
   ·rw[eN]at hR;show 0<=k/\k<((a0.1++l.map λx=>x.dX (x.au.map λk=>(a0.1.length:Int)+k)).length:Nat);rw[cr,bx];omega
theorem apR{d:al}(ax:∀ l∈fX,0<l.length/\∀ d∈l,∀ k∈d.au,0<=k):A7 z F (sO d fX)=F d (fX.map (A7 z F)):=by
 have h:=ado bE (z:=z) fX ([],[]) [] ax rfl (λk ae=>by cases ae);rw[hX]at h;have cS:(gF z (λd g=>F d (d.au.map g)) (fX.foldl js ([],[])).1 []).length=(fX.foldl js ([],[])).1.length:=by rw[PJ];simp
 unfold A7 mA sO;rw[TM,gF,gF];show(_++[F (d.dX (fX.foldl js ([],[])).2) ((fX.foldl js ([],[])).2.map λk=>(gF z (λd g=>F d (d.au.map g)) (fX.foldl js ([],[])).1 []).getD k.toNat z)]).getD _ z=_;rw[h,bE,bS,l3 (by rw[cS];simp)];have dy:((((fX.foldl js ([],[])).1++[d.dX (fX.foldl js ([],[])).2]).length:Int)-1).toNat-(gF z (λd g=>F d (d.au.map g)) (fX.foldl js ([],[])).1 []).length=0:=by rw[cS];simp
 rw[dy];rfl
end
def adp{α:Type}(z:α)(F:al->List α->α)(t:bk):α:=mA z (λd g=>F d (d.au.map g)) t.ns t.bC
def TN(d:al)(l:List Int)(n:Int):fits (d.dX l) n=fits d n:=rfl
structure A8(a0:List al×List Int):Prop where
 fits:∀ d∈a0.1,fits d d.au.length=true
 au:∀ j (h:j<a0.1.length),∀ k∈a0.1[j].au,0<=k/\k<j
 diff:hQ (eL a0.1)
 all:∀ j:Nat,j<a0.1.length->((j:Int)∈eL a0.1 ↔ (j:Int) ∉ a0.2)
 cd:hQ a0.2
 JF:∀ k∈a0.2,0<=k/\k<a0.1.length
def Nt{l:List al}(h:∀ j (h:j<l.length),∀ k∈l[j].au,0<=k/\k<j):∀ k∈eL l,0<=k/\k<l.length:=λk ae=>by obtain⟨d,ah,jW⟩:=hl.1 ae;obtain⟨j,ai,rfl⟩:=hO ah;have:=h j ai k jW;omega
def apS(n:Int)(l:List al):eL (l.map λx=>x.dX (x.au.map λk=>n+k))=(eL l).map λk=>n+k:=by unfold eL;rw[yl,AW];rfl
def A8.step{a0:List al×List Int}(h:A8 a0){l:List al}(ax:g' (jK l)):A8 (js a0 l):=by
 have m5:=ax.bC;have l0:=Nt (l:=l) ax.au;have F1:=Nt h.au;have eO:eL (js a0 l).1=eL a0.1++(eL l).map λk=>(a0.1.length:Int)+k:=by show eL (a0.1++_)=_;rw[<-apS];unfold eL;rw[fI]
 have cS:(js a0 l).1.length=a0.1.length+l.length:=by show(a0.1++_).length=_;rw[cr,bx]
 have jW:(js a0 l).2=a0.2++[((a0.1.length+l.length:Nat):Int)-1]:=rfl;have tv:(jK l).bC=(l.length:Int)-1:=rfl;have sw:(jK l).ns=l:=rfl;rw[tv,sw]at m5;refine⟨λd ah=>?_,λj ai k ae=>?_,?_,λj ai=>?_,?_,λk ae=>?_⟩
 ·rcases cv.1 (show d∈a0.1++l.map (λx=>x.dX (x.au.map λk=>(a0.1.length:Int)+k))from ah)with ah | ah
  ·exact h.fits d ah
  ·obtain⟨x,ab,rfl⟩:=cP.1 ah;obtain⟨j,ai,rfl⟩:=hO ab;have:=ax.fits j ai;rw[TN];show Go.V.fits l[j] (((l[j].au.map λk=>(a0.1.length:Int)+k).length:Nat):Int)=true;rw[bx];exact this
 ·have ai:j<(a0.1++l.map (λx=>x.dX (x.au.map λk=>(a0.1.length:Int)+k))).length:=ai;have hR:k∈((a0.1++l.map (λx=>x.dX (x.au.map λk=>(a0.1.length:Int)+k)))[j]'ai).au:=ae;have nq:j<a0.1.length+l.length:=by rw[<-cS];exact ai
  by_cases fB:j<a0.1.length;·rw[yh fB]at hR;exact h.au j fB k hR
  ·rw[Cs (by omega),fW]at hR;obtain⟨q,aL,rfl⟩:=cP.1 (show k∈(l[j-a0.1.length]'(by omega)).au.map (λk=>(a0.1.length:Int)+k)from hR);have:=ax.au (j-a0.1.length) (by show _<l.length;omega) q aL;omega
 ·rw[eO];refine rN.2 ⟨h.diff,Cv.2 ((show hQ (eL l)from ax.diff).imp λbt e=>bt (by omega)),λx ab y aC e=>?_⟩;obtain⟨q,aL,rfl⟩:=cP.1 aC;have aa:=F1 x ab;have ad:=l0 q aL;omega
 ·rw[eO,jW,cv,cv,eN,cP];rw[cS]at ai;by_cases fB:j<a0.1.length
  ·have a7:=h.all j fB;constructor
   ·rintro(aa | ⟨q,aL,e⟩)
    ·rintro(ad | ad)
     ·exact a7.1 aa ad
     ·omega
    ·have:=l0 q aL;omega
   ·intro aa;exact .inl (a7.2 λad=>aa (.inl ad))
  ·have a7:=ax.all (j-a0.1.length) (by show _<l.length;omega);rw[tv,sw]at a7;constructor
   ·rintro(aa | ⟨q,aL,e⟩)
    ·have:=F1 _ aa;omega
    ·rintro(ad | ad)
     ·have:=h.JF _ ad;omega
     ·have a6:q=((j-a0.1.length:Nat):Int):=by omega
      rw[a6]at aL;exact a7.1 aL (by omega)
   ·intro aa;refine .inr ⟨((j-a0.1.length:Nat):Int),a7.2 λe=>aa (.inr (by omega)),by omega⟩
 ·rw[jW];refine rN.2 ⟨h.cd,by simp,λx ab y aC e=>?_⟩;rw[eN]at aC;have:=h.JF x ab;omega
 ·rw[jW]at ae;rw[cS];rcases cv.1 ae with ae | ae
  ·have:=h.JF k ae;omega
  ·rw[eN]at ae;omega
def A8.adq:∀ (fX:List (List al)) (a0:List al×List Int),A8 a0->(∀ l∈fX,g' (jK l))->A8 (fX.foldl js a0)/\(fX.foldl js a0).2.length=a0.2.length+fX.length
 |[],a0,h,_=>⟨h,rfl⟩| l::fX,a0,h,ax=>by obtain⟨aa,ad⟩:=A8.adq fX (js a0 l) (h.step (ax l (.head _))) λx ab=>ax x (.tail _ ab);refine⟨aa,?_⟩;rw[km,ad];show(a0.2++[_]).length+_=_;simp;omega
def apT{d:al}(ax:∀ l∈fX,g' (jK l))(aB:fits d fX.length=true):g' (jK (sO d fX)):=by
 obtain⟨h,c7⟩:=A8.adq fX ([],[]) ⟨(λd ah=>by cases ah),(λj h=>absurd h (ng _)),.nil,(λj h=>absurd h (ng _)),.nil,(λk ae=>by cases ae)⟩ ax;have F1:=Nt h.au;unfold sO;generalize fX.foldl js ([],[])=a0 at h c7 F1;have eO:eL (a0.1++[d.dX a0.2])=eL a0.1++a0.2:=by unfold eL;rw[fI];simp[al.dX]
 have cS:(a0.1++[d.dX a0.2]).length=a0.1.length+1:=by simp
 refine⟨?_,λj ai=>?_,λj ai k ae=>?_,?_,λj ai=>?_⟩
 ·show 0<=(((a0.1++[d.dX a0.2]).length:Nat):Int)-1/\(((a0.1++[d.dX a0.2]).length:Nat):Int)-1<((a0.1++[d.dX a0.2]).length:Nat);omega
 ·have ai:j<(a0.1++[d.dX a0.2]).length:=ai;show fits ((a0.1++[d.dX a0.2])[j]'ai) ((((a0.1++[d.dX a0.2])[j]'ai).au.length:Nat):Int)=true;rcases cv.1 (bJ ai)with hm | hm
  ·exact h.fits _ hm
  ·rw[eN.1 hm,TN];show fits d (a0.2.length:Nat)=true;rw[c7];simpa using aB
 ·have ai:j<(a0.1++[d.dX a0.2]).length:=ai;have ae:k∈((a0.1++[d.dX a0.2])[j]'ai).au:=ae;by_cases fB:j<a0.1.length
  ·rw[yh fB]at ae;exact h.au j fB k ae
  ·have jS:j<(a0.1++[d.dX a0.2]).length:=ai;have e:j=a0.1.length:=by omega
   subst e;rw[Cs (by omega)]at ae;have ae:k∈a0.2:=by simpa[al.dX]using ae
   have:=h.JF k ae;omega
 ·show hQ (eL (a0.1++[d.dX a0.2]));rw[eO];refine rN.2 ⟨h.diff,h.cd,λx ab y aC e=>?_⟩;subst e;have aa:=F1 x ab;obtain⟨q,rfl⟩:=eG aa.1;exact(h.all q (by omega)).1 ab aC
 ·show(j:Int)∈eL (a0.1++[d.dX a0.2]) ↔ (j:Int)≠(((a0.1++[d.dX a0.2]).length:Nat):Int)-1;have ai:j<(a0.1++[d.dX a0.2]).length:=ai;rw[eO,cv,cS];by_cases fB:j<a0.1.length
  ·have a7:=h.all j fB;constructor
   ·intro _;omega
   ·intro _;by_cases hm:(j:Int)∈a0.2
    ·exact .inr hm
    ·exact .inl (a7.2 hm)
  ·constructor
   ·rintro(aa | aa)
    ·have:=F1 _ aa;omega
    ·have:=h.JF _ aa;omega
   ·intro bt;omega
def adr:∀ (fX:List (List al)) (a0:List al×List Int),(fX.foldl js a0).1.length=a0.1.length+(fX.map List.length).sum
 |[],a0=>by simp
 |l::fX,a0=>by rw[km,adr fX];show(a0.1++_).length+_=_;rw[cr,bx,b5,hj];omega
def apU(d:al)(fX:List (List al)):(sO d fX).length=(fX.map List.length).sum+1:=by unfold sO;rw[cr,adr];simp
def Nu{α:Type}{f g:α->Nat}:∀ {l:List α},(∀ x∈l,f x<=g x)->(l.map f).sum<=(l.map g).sum
 |[],_=>b' _| x::l,h=>by have aa:=h x (.head _);have ad:=Nu (l:=l) λy aC=>h y (.tail _ aC);simp only[b5,hj];omega
def ads{x:Nat}:∀ {l:List Nat},x∈l->x<=l.sum
 |y::l,h=>by
  rw[hj];rcases eI.1 h with rfl | h;·omega
  ·have:=ads h;omega
abbrev xh:=(aW×List Nat)×Bool
def apV:xh:=((cf,[]),false)
def ui(pl:List (ByteArray×Int))(F:List aW)(t:bk):xh:=adp apV (h4 pl F) t
def adt(pl:List (ByteArray×Int))(F:List aW)(t:bk):ui pl F t=pf pl F t.ns t.bC:=rfl
def apW{pl:List (ByteArray×Int)}(af:right t=true):(ui pl F t).1.1=(eB pl F t.ns []).getD t.bC.toNat cf:=by obtain⟨gV,hn⟩:=l4 af;obtain⟨r,en⟩:=eG gV;rw[adt,en,M8 af (r+1) r (by omega) (by omega),Q2]
def apX{a b:Bool}(h:(a||b)=true):a=true\/b=true:=by cases a<;>simp_all
structure TO{α:Type}(F:al->List α->α):Prop where
 au:∀ d l,F (d.dX l)=F d
 one:∀ d x,d.k=4\/d.k=5->F d [x]=x
 nest:∀ d d' xs ys fi,d.k=4\/d.k=5->d'.k=d.k->F d (xs++F d' ys::fi)=F d (xs++(ys++fi))
 drop:∀ d d' xs fi,d.k=4->d'.k=0->F d (xs++F d' []::fi)=F d (xs++fi)
 apY:∀ d d',d.k=4->d'.k=0->F d []=F d' []
 apZ:∀ d d',d.k=5->d'.k=1->d'.cx=0->d'.s1=0->d'.s2=0->d'.cY=0->F d []=F d' []
def JG(xs ys:List (aW×List Nat)):ki (xs++ys)=ki xs++bif xs.all (·.1.z)then ki ys else []:=by
 induction xs with
 |nil=>rfl
 |cons x xs aQ=>
  rw[pN,ki,ki,aQ,xA];cases x.1.z<;>simp
def ap0(ks:List aW)(a0:aW×Bool):(ks.foldl k2 a0).1.z=(a0.1.z&&ks.all (·.z)):=by
 induction ks generalizing a0 with
 |nil=>simp| cons k ks aQ=>rw[km,aQ,xA];simp[k2,Bool.and_assoc]
def adu(ks:List aW)(a0:aW×Bool):(ks.foldl k2 a0).1.s=(a0.1.s||ks.any (·.s)):=by
 induction ks generalizing a0 with
 |nil=>simp| cons k ks aQ=>rw[km,aQ,List.any_cons];simp[k2,Bool.or_assoc]
def JH(ks:List aW)(a0:aW×Bool):(ks.foldl k2 a0).2=(a0.2&&ks.all (·.j2)):=by
 induction ks generalizing a0 with
 |nil=>simp| cons k ks aQ=>rw[km,aQ,xA];simp[k2,Bool.and_assoc]
def ap1(ks:List aW):∀ a0:aW×Bool,(ks.foldl k2 a0).1.f=(a0.1.f||(a0.2&&(hP ks).1.f)):=by
 unfold hP
 induction ks with
 |nil=>intro a0;simp
 |cons k ks aQ=>
  intro a0;rw[km,km,aQ,aQ (k2 _ k)];simp only[k2];cases a0.1.f<;>cases a0.2<;>cases k.f<;>cases k.j2<;>simp
def JI(ks:List aW):(hD ks).z=ks.all (·.z):=by show(hP ks).1.z=_;unfold hP;rw[ap0,qC]
def TP(ks:List aW):(hD ks).j2=ks.all (·.j2):=by
 have aa:=JI ks;have ad:(hD ks).s=(ks.any (·.s)&&ks.all (·.j2)):=by show((hP ks).1.s&&(hP ks).2)=_;unfold hP;rw[adu,JH,uM,qC]
 have ak:(hD ks).j2=((hD ks).z||(hD ks).s):=rfl;rw[ak,aa,ad];clear aa ad ak
 induction ks with
 |nil=>rfl
 |cons k ks aQ=>
  rw[xA,List.any_cons,xA];have h:k.j2=(k.z||k.s):=rfl;rw[h,<-aQ];cases k.z<;>cases k.s<;>cases ks.all (·.z)<;>cases ks.any (·.s)<;>simp_all
def adv(xs ys fi:List aW):hD (xs++hD ys::fi)=hD (xs++(ys++fi)):=by
 have bb:(hD (xs++hD ys::fi)).z=(hD (xs++(ys++fi))).z:=by rw[JI,JI];simp[JI]
 have hu:(hP (xs++hD ys::fi)).2=(hP (xs++(ys++fi))).2:=by unfold hP;rw[JH,JH];simp[TP]
 have aB:(hD (xs++hD ys::fi)).f=(hD (xs++(ys++fi))).f:=by
  show(hP _).1.f=(hP _).1.f;have e:∀ a b:List aW,(hP (a++b)).1.f=((hP a).1.f||((hP a).2&&(hP b).1.f)):=by intro a b;show((a++b).foldl k2 (⟨true,false,false⟩,true)).1.f=_;rw[tL,ap1];rfl
  have aI:∀ (y:aW) (b:List aW),(hP (y::b)).1.f=(y.f||(y.j2&&(hP b).1.f)):=by intro y b;have:=e [y] b;rw[qG]at this;rw[this];show((false||(true&&y.f))||((true&&y.j2)&&_))=_;rw[uM,qC,qC]
  rw[e,e xs,aI,e ys,TP];have a6:(hP ys).2=ys.all (·.j2):=by unfold hP;rw[JH,qC]
  rw[a6];rfl
 have av:(hD (xs++hD ys::fi)).s=(hD (xs++(ys++fi))).s:=by
  have aa:∀ ks,(hD ks).s=(ks.any (·.s)&&ks.all (·.j2)):=by intro ks;show((hP ks).1.s&&(hP ks).2)=_;unfold hP;rw[adu,JH,uM,qC]
  rw[aa,aa];simp only[List.any_append,List.any_cons,Ho,xA,TP,aa];cases xs.any (·.s)<;>cases ys.any (·.s)<;>cases fi.any (·.s)<;>cases xs.all (·.j2)<;>cases ys.all (·.j2)<;>cases fi.all (·.j2)<;>rfl
 cases a7:hD (xs++hD ys::fi);cases ag:hD (xs++(ys++fi));rw[a7,ag]at bb aB av;simp only at bb aB av;rw[bb,aB,av]
def ap2(ks:List aW):∀ f:aW,ks.foldl o2 f=o2 f (pX ks):=by
 unfold pX
 induction ks with
 |nil=>intro f;simp[o2]
 |cons k ks aQ=>
  intro f;rw[km,km,aQ,aQ (o2 _ k)];simp only[o2,aW.mk.injEq];refine⟨?_,?_,?_⟩<;>cases f.z<;>cases f.s<;>cases f.f<;>cases k.z<;>cases k.s<;>cases k.f<;>simp
def ap3(xs ys fi:List aW):pX (xs++pX ys::fi)=pX (xs++(ys++fi)):=by show(xs++pX ys::fi).foldl o2 _=(xs++(ys++fi)).foldl o2 _;rw[tL,tL,tL,km,<-ap2 ys]
def ap4(x:aW):hD [x]=x:=by cases x with | mk z s f=>cases z<;>cases s<;>cases f<;>rfl
def ap5(x:aW):pX [x]=x:=by cases x with | mk z s f=>cases z<;>cases s<;>cases f<;>rfl
def ap6{d:al}(h:d.k=4)(ks:List aW):gz d ks=hD ks:=by unfold gz;simp[h]
def ap7{d:al}(h:d.k=5)(ks:List aW):gz d ks=pX ks:=by unfold gz;simp[h]
def A9{pl:List (ByteArray×Int)}{d:al}(h:d.k=4)(xs:List xh):h4 pl F d xs=((hD (xs.map (·.1.1)),ki (xs.map (·.1))),xs.any (·.2)):=by unfold h4 rV lB yY;simp only[ap6 h,h,gu];simp;rfl
def F2{pl:List (ByteArray×Int)}{d:al}(h:d.k=5)(xs:List xh):h4 pl F d xs=((pX (xs.map (·.1.1)),(xs.map (·.1)).flatMap (·.2)),xs.any (·.2)):=by unfold h4 rV lB yY;simp only[ap7 h,h,gu];simp;rfl
def adw{pl:List (ByteArray×Int)}{d:al}(h:d.k=0):h4 pl F d []=((⟨true,false,false⟩,[]),false):=by unfold h4 rV lB yY gz;simp[h]
def ap8{pl:List (ByteArray×Int)}{d:al}(h:d.k=1)(ay:d.kT=true):h4 pl F d []=((⟨false,false,true⟩,[]),false):=by unfold h4 rV lB yY gz;simp[h,ay]
def TQ(pl:List (ByteArray×Int))(F:List aW):TO (h4 pl F):=by
 refine⟨λd l=>rfl,?_,?_,?_,?_,?_⟩
 ·rintro d x (h | h)
  ·rw[A9 h];simp[ap4,ki]
  ·rw[F2 h];simp[ap5]
 ·rintro d d' xs ys fi (h | h) bq
  ·rw[h]at bq;rw[A9 h,A9 h,A9 bq];have e:(xs++((hD (ys.map (·.1.1)),ki (ys.map (·.1))),ys.any (·.2))::fi).map (·.1.1)=xs.map (·.1.1)++hD (ys.map (·.1.1))::fi.map (·.1.1):=by simp
   rw[e,adv];have a6:ki ((xs++((hD (ys.map (·.1.1)),ki (ys.map (·.1))),ys.any (·.2))::fi).map (·.1))=ki ((xs++(ys++fi)).map (·.1)):=by rw[cM,b5,cM,cM,JG,JG (xs.map _),JG (ys.map _),ki];rw[JI];simp only[Lw];rfl
   rw[a6];simp
  ·rw[h]at bq;rw[F2 h,F2 h,F2 bq];have e:(xs++((pX (ys.map (·.1.1)),(ys.map (·.1)).flatMap (·.2)),ys.any (·.2))::fi).map (·.1.1)=xs.map (·.1.1)++pX (ys.map (·.1.1))::fi.map (·.1.1):=by simp
   rw[e,ap3];simp
 ·rintro d d' xs fi h bq;rw[A9 h,A9 h,adw bq];have e:(xs++((⟨true,false,false⟩,[]),false)::fi:List xh).map (·.1.1)=xs.map (·.1.1)++hD []::fi.map (·.1.1):=by simp;rfl
  rw[e,adv];have a6:ki ((xs++((⟨true,false,false⟩,[]),false)::fi:List xh).map (·.1))=ki ((xs++fi).map (·.1)):=by rw[cM,b5,cM,JG,JG,ki];rfl
  rw[a6];simp
 ·rintro d d' h bq;rw[A9 h,adw bq];rfl
 ·rintro d d' h bq ay aa ad ak;rw[F2 h,ap8 bq (by unfold al.kT;simp[ay,aa,ad,ak])];rfl
inductive aT where
 |mk:Nat->List aT->aT
namespace aT
def bs:aT->Nat
 |mk k _=>k
def sub:aT->List aT
 |mk _ ks=>ks
mutual
def c2:aT->List Nat
 |mk k ks=>Nv ks++[k]
def Nv:List aT->List Nat
 |[]=>[]| a::l=>c2 a++Nv l
end
def adx:∀ l:List aT,Nv l=l.flatMap c2
 |[]=>rfl| a::l=>by rw[Nv,adx l];rfl
def mL(k:Nat)(ks:List aT):c2 (mk k ks)=ks.flatMap c2++[k]:=by rw[c2,adx]
def ind{P:aT->Prop}(h:∀ k ks,(∀ c∈ks,P c)->P (mk k ks)):∀ T,P T
 |mk k ks=>h k ks (λc ao=>ind h c)
def F3:∀ T:aT,T.bs∈T.c2
 |mk k ks=>by rw[mL];exact rj _ (.head _)
end aT
inductive cD(ns:List al):aT->Prop
 |mk {k:Nat} {ks:List aT}:k<ns.length->(nodeAt ns k).au=ks.map (λc=>(c.bs:Int))->(∀ c∈ks,cD ns c)->cD ns (.mk k ks)
def r6(ns:List al):Prop:=∀ j (h:j<ns.length),∀ k∈ns[j].au,0<=k/\k<j
def cD.inv{ns:List al}{k:Nat}{ks:List aT}(h:cD ns (.mk k ks)):k<ns.length/\(nodeAt ns k).au=ks.map (λc=>(c.bs:Int))/\∀ c∈ks,cD ns c:=by
 cases h with
 |mk aa ad ak=>exact⟨aa,ad,ak⟩
def cD.nr{ns:List al}:∀ {T:aT},cD ns T->T.bs<ns.length
 | .mk k ks,h=>h.inv.1
def r6.node{ns:List al}(ae:r6 ns){j:Nat}(ai:j<ns.length){k:Int}(h:k∈(nodeAt ns j).au):0<=k/\k<j:=by rw[gr ai]at h;exact ae j ai k h
def JJ{α β:Type}{R:α->β->Prop}:∀ {l:List α},(∀ x∈l,∃ y,R x y)->∃ m:List β,m.length=l.length/\∀ i (h:i<l.length) (bq:i<m.length),R l[i] m[i]
 |[],_=>⟨[],rfl,λi h=>absurd h (ng _)⟩
 |x::l,h=>by
  obtain⟨y,aC⟩:=h x (.head _);obtain⟨m,hm,af⟩:=JJ λa a7=>h a (.tail _ a7);refine⟨y::m,by simp[hm],λi hi cC=>?_⟩;cases i with
  |zero=>exact aC| succ i=>exact af i (by simpa using hi) (by simpa using cC)
def cD.ex{ns:List al}(ae:r6 ns):∀ k,k<ns.length->∃ T:aT,T.bs=k/\cD ns T:=by
 intro k
 induction k using Nat.strongRecOn with
 |_ k aQ=>
  intro ax;obtain⟨ks,aa,ad⟩:=JJ (R:=λ(x:Int) (T:aT)=>(T.bs:Int)=x/\cD ns T) (l:=(nodeAt ns k).au) λx ab=>by obtain⟨ay,aa⟩:=ae.node ax ab;obtain⟨T,be,dI⟩:=aQ x.toNat (by omega) (by omega);exact⟨T,by omega,dI⟩
  refine⟨.mk k ks,rfl,.mk ax ?_ λc ao=>?_⟩;·refine oH (by simp[aa]) λi hi cC=>?_;rw[fW];exact(ad i hi (by omega)).1.symm
  ·obtain⟨i,hi,rfl⟩:=hO ao;exact(ad i (by omega) hi).2
def cD.ap9{ns:List al}:∀ {S:aT},cD ns S->∀ {T:aT},cD ns T->S.bs=T.bs->S=T:=by
 intro S
 induction S using aT.ind with
 |h k ks aQ=>
  intro cc T be e;cases T with
  |mk fL JK=>
  obtain rfl:k=fL:=e;obtain⟨-,ad,ak⟩:=cc.inv;obtain⟨-,oQ,yp⟩:=be.inv;rw[ad]at oQ;have ax:ks.length=JK.length:=by simpa using congrArg List.length oQ
  congr 1;refine oH ax λi hi cC=>?_;have aK:(ks.map (λc=>(c.bs:Int)))[i]?=(JK.map (λc=>(c.bs:Int)))[i]?:=by rw[oQ]
  rw[iB,iB,dg hi,dg cC]at aK;have bz:(ks[i].bs:Int)=JK[i].bs:=eX aK;exact aQ _ (bJ hi) (ak _ (bJ hi)) (yp _ (bJ cC)) (by omega)
def cD.lt{ns:List al}:∀ {T:aT},cD ns T->∀ x∈T.c2,x<ns.length:=by
 intro T
 induction T using aT.ind with
 |h k ks aQ=>
  intro h x ab;obtain⟨aa,-,ak⟩:=h.inv;rw[aT.mL]at ab;rcases cv.1 ab with ab | ab;·obtain⟨c,ao,ab⟩:=hl.1 ab;exact aQ c ao (ak c ao) x ab
  ·rw[eN.1 ab];exact aa
def cD.TR{ns:List al}(ae:r6 ns){k:Nat}{ks:List aT}(h:cD ns (.mk k ks)){c:aT}(ao:c∈ks):c.bs<k:=by
 obtain⟨aa,ad,ak⟩:=h.inv;have:(c.bs:Int)∈(nodeAt ns k).au:=by rw[ad];exact cP.2 ⟨c,ao,rfl⟩
 have:=ae.node aa this;omega
def cD.le{ns:List al}(ae:r6 ns):∀ {T:aT},cD ns T->∀ x∈T.c2,x<=T.bs:=by
 intro T
 induction T using aT.ind with
 |h k ks aQ=>
  intro h x ab;obtain⟨aa,-,ak⟩:=h.inv;rw[aT.mL]at ab;rcases cv.1 ab with ab | ab;·obtain⟨c,ao,ab⟩:=hl.1 ab;have aK:=aQ c ao (ak c ao) x ab;have bz:=h.TR ae ao;show x<=k;omega
  ·rw[eN.1 ab];exact b' _
def cD.congr{ns jc:List al}:∀ {T:aT},cD ns T->(∀ x∈T.c2,x<jc.length/\(nodeAt jc x).au=(nodeAt ns x).au)->cD jc T:=by
 intro T
 induction T using aT.ind with
 |h k ks aQ=>intro h ab;obtain⟨aa,ad,ak⟩:=h.inv;have e0:=ab k (aT.F3 (.mk k ks));refine .mk e0.1 (by rw[e0.2,ad]) λc ao=>aQ c ao (ak c ao) λx uj=>ab x ?_;rw[aT.mL];exact iR _ (hl.2 ⟨c,ao,uj⟩)
def ady{ns m:List al}{k:Nat}(ae:k<ns.length):nodeAt (ns++m) k=nodeAt ns k:=by unfold nodeAt;rw[bS,bS,ri ae]
def F4{ns:List al}{d:al}:nodeAt (ns++[d]) ns.length=d:=by unfold nodeAt;rw[bS,l3 (b' _),mC];rfl
def cD.app{ns:List al}{T:aT}(h:cD ns T)(m:List al):cD (ns++m) T:=h.congr λx ab=>by have:=h.lt x ab;exact⟨by rw[cr];omega,by rw[ady this]⟩
def aqa{ns:List al}(ah:hQ (eL ns)){i j:Nat}(hi:i<ns.length)(ai:j<ns.length)(bt:i≠j){k:Int}(aa:k∈(nodeAt ns i).au)(ad:k∈(nodeAt ns j).au):False:=by
 rw[gr hi]at aa;rw[gr ai]at ad;have:=(Ez.1 ah).2;rw[Qa]at this;rcases Nat.lt_or_gt_of_ne bt with h | h
 ·exact this i j hi ai h k aa k ad rfl
 ·exact this j i ai hi h k ad k aa rfl
def adz{ns:List al}(ah:hQ (eL ns)){j:Nat}(ai:j<ns.length):hQ (nodeAt ns j).au:=by rw[gr ai];exact(Ez.1 ah).1 _ (bJ ai)
def adA{α:Type}(f g:α->Nat):∀ l:List α,(l.map λx=>f x+g x).sum=(l.map f).sum+(l.map g).sum
 |[]=>rfl| a::l=>by simp only[b5,hj,adA f g l];omega
def adB{α β:Type}(g:β->Nat)(f:α->List β):∀ l:List α,((l.flatMap f).map g).sum=(l.map λa=>((f a).map g).sum).sum
 |[]=>rfl| a::l=>by rw[iS,cM,oT,adB g f l];rfl
def adC{α:Type}(x:Nat)(f:α->List Nat):∀ l:List α,(l.flatMap f).count x=(l.map λa=>(f a).count x).sum
 |[]=>rfl| a::l=>by rw[iS,List.count_append,adC x f l];rfl
def xi(ns:List al)(x y:Nat):Nat:=(nodeAt ns y).au.count (x:Int)
def adD(x:Nat):∀ ks:List aT,(ks.map (λc=>(c.bs:Int))).count (x:Int)=(ks.map λc=>if c.bs=x then 1 else 0).sum
 |[]=>rfl
 |c::ks=>by
  rw[b5,List.count_cons,adD x ks,b5,hj];by_cases e:c.bs=x;·subst e;simp;omega
  ·have:¬ ((c.bs:Int)=x):=by omega
   simp[e,this]
def cD.count{ns:List al}(x:Nat):∀ {T:aT},cD ns T->T.c2.count x=(if T.bs=x then 1 else 0)+(T.c2.map (xi ns x)).sum:=by
 intro T
 induction T using aT.ind with
 |h k ks aQ=>
  intro h;obtain⟨aa,ad,ak⟩:=h.inv;have aI:(ks.map λc=>c.c2.count x)=ks.map λc=>(if c.bs=x then 1 else 0)+(c.c2.map (xi ns x)).sum:=fV λc ao=>aQ c ao (ak c ao);have a6:xi ns x k=(ks.map λc=>if c.bs=x then 1 else 0).sum:=by unfold xi;rw[ad,adD]
  rw[aT.mL,List.count_append,adC,aI,adA,cM,oT,adB,sZ,List.sum_singleton,a6,List.count_singleton];show _+(if k == x then 1 else 0)=(if k=x then 1 else 0)+_;by_cases e:k=x;·simp[e];omega
  ·simp[e];omega
def cD.count_le{ns:List al}(ae:r6 ns)(ah:hQ (eL ns)){T:aT}(h:cD ns T):∀ (m x:Nat),ns.length-x<=m->T.c2.count x<=1
 |0,x,hm=>by
  have:x ∉ T.c2:=λab=>by have:=h.lt x ab;omega
  rw[S6 this];omega
 |m+1,x,hm=>by
  rw[h.count x];by_cases aJ:∃ p∈T.c2,(x:Int)∈(nodeAt ns p).au
  ·obtain⟨p,adE,ya⟩:=aJ;have rI:=h.lt p adE;have awy:=h.le ae p adE;have awz:=ae.node rI ya;have e:T.c2.map (xi ns x)=T.c2.map λy=>if y=p then 1 else 0:=fV λy aC=>by
    by_cases e:y=p;·subst e;rw[bT rfl];unfold xi;exact Nat.le_antisymm (List.nodup_iff_count.1 (adz ah rI) _) (List.count_pos_iff.2 ya)
    ·rw[bN e];unfold xi;exact S6 λtm=>aqa ah (h.lt y aC) rI e tm ya
   have a6:∀ l:List Nat,(l.map λy=>if y=p then 1 else 0).sum=l.count p:=λl=>by
    induction l with
    |nil=>rfl
    |cons a l aQ=>
     rw[b5,hj,aQ,List.count_cons];by_cases e:a=p;·simp[e];omega
     ·simp[e]
   rw[e,a6,bN (by omega),du];exact cD.count_le ae ah h m p (by omega)
  ·have e:(T.c2.map (xi ns x)).sum=0:=by
    have:∀ l:List Nat,(∀ y∈l,(x:Int) ∉ (nodeAt ns y).au)->(l.map (xi ns x)).sum=0:=λl=>by
     induction l with
     |nil=>intro _;rfl| cons a l aQ=>intro ax;rw[b5,hj,aQ λy aC=>ax y (.tail _ aC)];unfold xi;rw[S6 (ax a (.head _))]
    exact this _ λy aC QO=>aJ ⟨y,aC,QO⟩
   rw[e];split<;>omega
def cD.nodup{ns:List al}(ae:r6 ns)(ah:hQ (eL ns)){T:aT}(h:cD ns T):T.c2.Nodup:=
 List.nodup_iff_count.2 λx=>h.count_le ae ah (ns.length-x) x (b' _)
def Nw(h:l.Nodup)(ax:∀ x∈l,x<n):l.length<=n:=by have ad:=List.Nodup.length_le_of_subset h (l₂:=List.range n) λx ab=>j9.2 (ax x ab);rwa [wR]at ad
end Go.V
