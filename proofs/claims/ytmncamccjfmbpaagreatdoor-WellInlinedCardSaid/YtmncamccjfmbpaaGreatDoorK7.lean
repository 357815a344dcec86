/- Part 7 of what the proofs of this seat share: the executor, data in memory, walks.
-/
import Derived.Test.YtmncamccjfmbpaaGreatDoorK6
import Derived.Test.YtmncamccjfmbpaaGreatDoorK4
import Derived.Test.YtmncamccjfmbpaaGreatDoorK5
import Derived.Lib.TrailingZeros
set_option linter.all false
set_option maxHeartbeats 8000000
set_option maxRecDepth 100000
namespace Go.V
open Go Go.Proofs
def w4:=@List.mem_or_eq_of_mem_set
def y9:=@List.sublist_append_left
def y':=@List.length_reverse
def w5:=@List.map_flatMap
def Vn:=@Int.tdiv_eq_ediv_of_nonneg
def Na:=@List.idxOf_append
def Nb:=@List.mem_reverse
variable{I:aM}{M N M0:List aE}{w:World}{f b e n size r node D5:Nat}{aF:List Int}{g:eo}{os:aU}{l eL:List Nat}{xs vs:List Value}{t:bw}{A:Nat->List Nat}{x:Int}{u:Value}{a cW:Option Addr}{α:Type}{L:List an}{nm:ByteArray}{e3:List (List an)}
def dT.va(h:dT I M w)(aO:M.Perm N):dT I N w:=
 ⟨h.i,λx ab=>h.m x (aO.mem_iff.2 ab),λx ab=>h.d x (aO.mem_iff.2 ab),((aO.map (·.num)).nodup_iff).1 h.bX⟩
def Kept.va{I':aM}{M' ow:List aE}{w':World}(h:Kept I M w I' M' w')(aO:M.Perm N)(yv:M'.Perm ow):Kept I N w I' ow w':=
 ⟨h.le,h.ry,λx ab=>by
  rcases h.sM x (yv.mem_iff.2 ab)with⟨y,aD,e⟩ | aa;·exact .inl ⟨y,aO.mem_iff.1 aD,e⟩
  ·exact .inr aa,λb ah aD=>h.dA b ah λy qy=>aD y (aO.mem_iff.1 qy),h.out,h.sz⟩
def Spec.va{P:Program}{args:List Value}{p q:Value->aM->List aE->Prop}(aO:M.Perm N)(aK:∀ v I' M',p v I' M'->∃ ow,M'.Perm ow/\q v I' ow)(h:Spec P f args I M p):Spec P f args I N q:=by
 rcases h with⟨aa,ad⟩ | ad
 ·refine .inl ⟨aa,λw hw=>(ad w (hw.va aO.symm)).mono ?_⟩;rintro e w'⟨v,I',M',al,aL,bG,cr⟩;obtain⟨ow,eM,fo⟩:=aK _ _ _ aL;exact⟨v,I',ow,al,fo,bG.va eM,cr.va aO eM⟩
 ·refine .inr λw hw=>?_;obtain⟨v,w',I',M',al,aL,bG,cr⟩:=ad w (hw.va aO.symm);obtain⟨ow,eM,fo⟩:=aK _ _ _ aL;exact⟨v,w',I',ow,al,fo,bG.va eM,cr.va aO eM⟩
def df.loop(s:df)(i:Nat):df:=⟨s.n,s.m,s.w ||| j1 i⟩
def ox(pl:List (ByteArray×Int))(F:List aI)(s:df)(i:Nat)(d:a2):df:=
 bif mh d.t.ns (dF pl F d.t.ns [])then(s.marks i (ff pl F d.t.ns d.t.bm).2).loop i else s.marks i (ff pl F d.t.ns d.t.bm).2
def jk(n:Nat):df:=⟨n,List.replicate 64 0,0⟩
def iB(pl:List (ByteArray×Int))(F:List aI):Nat->List a2->df->df
 |_,[],s=>s| i,d::ds,s=>iB pl F (i+1) ds (ox pl F s i d)
def oy(ds:List a2)(F:List aI):df:=iB (bp ds) F 0 ds (jk ds.length)
def Vo(pl:List (ByteArray×Int))(F:List aI)(s:df)(i:Nat)(d:a2):(ox pl F s i d).m.length=s.m.length:=by
 unfold ox;cases mh d.t.ns (dF pl F d.t.ns [])with
 |true=>exact df.Ba _ s i| false=>exact df.Ba _ s i
def Vp(pl:List (ByteArray×Int))(F:List aI):∀ (l:List a2) (i:Nat) (s:df) (d:a2),iB pl F i (l++[d]) s=ox pl F (iB pl F i l s) (i+l.length) d
 |[],i,s,d=>rfl| a::l,i,s,d=>by rw[qO,iB,iB,Vp pl F l];congr 1;simp;omega
def Nc(pl:List (ByteArray×Int))(F:List aI):∀ (l:List a2) (i:Nat) (s:df),(iB pl F i l s).m.length=s.m.length
 |[],i,s=>rfl| d::l,i,s=>by rw[iB,Nc pl F l,Vo]
def Vq{s:df}(a3:jj b s∈M):c7 I M ((⟨b,0,none⟩:Addr).add 65) 1 [mY s.w]:=by rw[dY _ rfl];refine⟨rfl,_,_,_,.inr ⟨_,a3,rfl,rfl⟩,?_,rfl⟩;show(s.cells.drop (0+65)).take 1=_;rw[df.cells,c9,Dc,FB (re _)];rfl
def af2(s:df)(i:Nat):bQ s.cells (0+65) [mY (s.w ||| j1 i)]=(s.loop i).cells:=by unfold df.cells df.loop bQ;simp only[c9,ea,gL];rw[oN,pV (re _),Dc,qe (by simp[re])];simp
def Hx{s:df}(a3:jj b s∈M):c7 I M (⟨b,0,none⟩:Addr) 66 s.cells:=
 ⟨rfl,_,_,_,.inr ⟨_,a3,rfl,rfl⟩,by simp only[xV];exact fT (show s.cells.length<=66 by rw[df.da];exact cI _),df.da s⟩
def af3(bl:gg I aF)(ax:g.ok I)(g7:∀ d∈g.ds,rf d.t)(j7:eH aF g=0->g.n<=64):Spec Tryz.prog 104 [g.val] I [] λv I' M'=>(∀ b o,I b=some o->I' b=some o)/\M'=[] /\
  ((eH aF g≠0/\v=.tuple #[(jk 0).val,.int .i64 (eH aF g)])\/(eH aF g=0/\∃ F,iv g.ds F/\v=.tuple #[(oy g.ds F).val,.int .i64 0])):=by
 refine cp [1,2,6,7] a4 Tryz.func104 rfl rfl rfl ?_;intro B ay;have jw:=ax.n;have iN:=ax.bb.cap;refine cJ.mk λb1 mH KH=>?_;refine cJ.mk λcd iG Kd=>?_;refine aZ.mk [.slice g.a g.n g.c] (cX (cs:=[.slice g.a g.n g.c]) (k:=0) (n:=1) (.tail _ (.head _)) (by simp)) ?_;refine bd.mk [] [jj cd (jk 0),⟨b1,.cells #[.slice g.a g.n g.c] 24 (0,0)⟩] _ (.refl _) (ace bl ax) ?_;rintro v cT N -⟨dg,⟨hm,rfl,rfl⟩|⟨hm,tJ,F,rfl,rfl,bf⟩⟩
 ·refine a9.mk (λ_=>?_) (λh=>absurd h (by simp[hm]));refine cn.pg [] _ _ _ rfl rfl rfl rfl (jk 0).cells rfl ?_;refine aZ.mk _ (Hx (.head _)) ?_;exact⟨_,_,.sub (gn _) .refl,dg,rfl,.inl ⟨hm,rfl⟩⟩
 refine a9.mk (λh=>absurd h (by simp)) (λ_=>?_);have a3:=Gm jw hm;have Vr:F.length=g.n:=by rw[bf.len,jw]
 have af4:=j7 hm;refine aZ.mk [.slice g.a g.n g.c] (cX (cs:=[.slice g.a g.n g.c]) (k:=0) (n:=1) (.tail _ (.tail _ (.head _))) (by simp)) ?_;refine cJ.mk λb6 JX Q6=>?_;refine cn.pg [] _ _ _ rfl rfl rfl rfl (jk g.n).cells rfl ?_;refine aZ.mk [.slice g.a g.n g.c] (cX (cs:=[.slice g.a g.n g.c]) (k:=0) (n:=1) (.tail _ (.tail _ (.tail _ (.head _)))) (by simp)) ?_;refine dI.inv (ι:=Nat×aM) (λx=>{ bn:=[(1,.val (ptr b1)),(2,.val (ptr cd)),(4,.val (.slice (some ⟨tJ,0,none⟩) g.n g.n)),(6,.val (ptr b6)),(25,.val (.slice g.a g.n g.c)),(26,.val (.int .i64 g.n)),(27,.val (.int .i64 x.1))],cl:=[],c2:=x.2,dx:=[jj b6 (iB (bp g.ds) F 0 (g.ds.take x.1) (jk g.n)),eY tJ F,jj cd (jk 0),⟨b1,.cells #[.slice g.a g.n g.c] 24 (0,0)⟩] }) (λx=>x.1<=g.n/\∀ b o,I b=some o->x.2 b=some o) (λx=>g.n-x.1) ?_ ?_
 ·exact⟨(0,cT),⟨dO _,dg⟩,.refl,qB,.nil⟩
 rintro⟨i,J⟩⟨hi,bL⟩;simp only at hi bL;refine a9.mk (λh=>?_) (λh=>?_)
 rotate_left
 ·have cV:i=g.n:=by have:¬ (i:Int)<(g.n:Int):=eO h;omega
  refine aZ.mk _ (Hx (.head _)) ?_;refine cn.pg [jj b6 (iB (bp g.ds) F 0 (g.ds.take i) (jk g.n)),eY tJ F] _ _ _ rfl rfl rfl rfl (iB (bp g.ds) F 0 (g.ds.take i) (jk g.n)).cells ?_ ?_;·rfl
  refine aZ.mk _ (Hx (.tail _ (.tail _ (.head _)))) ?_;refine⟨_,_,.sub (gn _) .refl,bL,rfl,.inr ⟨hm,F,bf,?_⟩⟩;rw[cV,fT (l:=g.ds) (by omega),oy,jw];rfl
 have aW:i<g.n:=by have:(i:Int)<(g.n:Int):=dV h;omega
 have cy:i<g.ds.length:=by omega
 have Hy:=ax.mono bL;have af5:=bl.mono bL;obtain⟨aV,bU,bB⟩:=Hy.bb.row a2.da aW cy;have gh:=b9 cy;have aj:=Hy.ds _ gh;have af:=a3.right _ gh;have dR:=a3.named _ gh;have M6:=g7 _ gh;have kK:iB (bp g.ds) F 0 (g.ds.take (i+1)) (jk g.n)=ox (bp g.ds) F (iB (bp g.ds) F 0 (g.ds.take i) (jk g.n)) i g.ds[i]:=by rw[gD cy,Vp,Gx (by omega),c9]
 have hp:(iB (bp g.ds) F 0 (g.ds.take i) (jk g.n)).m.length=64:=by rw[Nc];rfl
 generalize g.ds[i]=d at bB aj af dR M6 kK;refine bu.mk aV i bU rfl aW ?_;refine aZ.mk _ (bB _) ?_;refine cJ.mk λb7 yB Gp=>?_;refine cn.pg [] _ _ _ rfl rfl rfl rfl [.int .i64 i] rfl ?_;refine aZ.mk [.slice g.a g.n g.c] (cX (cs:=[.slice g.a g.n g.c]) (k:=0) (n:=1) (.tail _ (.tail _ (.tail _ (.tail _ (.head _))))) (by simp)) ?_;generalize al9:iB (bp g.ds) F 0 (g.ds.take i) (jk g.n)=s at hp kK |-;have lG:∀ {M:List aE},eY tJ F∈M->lK J M (some ⟨tJ,0,none⟩) g.n F:=λyX=>by have:=Gl (I:=J) yX;rwa [Vr]at this
 have Vs:wy g F d.t=some (dF (bp g.ds) F d.t.ns []):=by rw[wy,af,dR,h6 Vr];rfl
 refine bd.whole _ (ab8 (lc:=g.n) af5 Hy aj.t (lG (.tail _ (.tail _ (.head _))))) ?_;rintro v fp dB -⟨eQ,⟨aJ,-,-⟩|⟨r,bR,aJ,rfl,rfl⟩⟩
 ·rw[Vs]at aJ;cases aJ
 rw[Vs]at aJ;obtain rfl:=gO aJ;refine cP.mk (λh=>?_) (λh=>?_)
 rotate_left
 ·cases h
 refine a9.mk (λh=>absurd h (by simp)) (λ_=>?_);have mN:=kG af;have wT:=Vl (b1:=b1) (b6:=b6) (b7:=b7) (i:=i) (xa:=some ⟨bR,0,none⟩) (xc:=d.t.n) (F:=F) (Hy.mono eQ) af4 (aj.t.mono eQ) M6 af dR (by omega) (M1:=[eY bR (dF (bp g.ds) F d.t.ns []),⟨b7,.cells #[.int .i64 i] 3 (0,0)⟩,eY tJ F,jj cd (jk 0),⟨b1,.cells #[.slice g.a g.n g.c] 24 (0,0)⟩]) (.tail _ (.tail _ (.tail _ (.tail _ (.head _))))) (.tail _ (.head _)) (by
  have:=Gl (I:=fp) (M:=[eY bR (dF (bp g.ds) F d.t.ns []),⟨b7,.cells #[.int .i64 i] 3 (0,0)⟩,eY tJ F,jj cd (jk 0),⟨b1,.cells #[.slice g.a g.n g.c] 24 (0,0)⟩]) (b:=bR) (l:=dF (bp g.ds) F d.t.ns []) (.head _);rw[C1,aj.t.n]at this;simpa using this) d.t.ns.length d.t.bm.toNat (by omega) (by omega) s hp
 rw[tc mN.1]at wT;have af6:=Spec.va (q:=λv I' M'=>I'=fp/\M'=jj b6 (s.marks i (ff (bp g.ds) F d.t.ns d.t.bm.toNat).2)::[eY bR (dF (bp g.ds) F d.t.ns []),⟨b7,.cells #[.int .i64 i] 3 (0,0)⟩,eY tJ F,jj cd (jk 0),⟨b1,.cells #[.slice g.a g.n g.c] 24 (0,0)⟩]) (nu (a:=jj b6 s) (l₁:=[eY bR (dF (bp g.ds) F d.t.ns []),⟨b7,.cells #[.int .i64 i] 3 (0,0)⟩]) (l₂:=[eY tJ F,jj cd (jk 0),⟨b1,.cells #[.slice g.a g.n g.c] 24 (0,0)⟩])).symm (λv I' M' h=>⟨M',.refl _,h⟩) wT;refine bd.whole _ af6 ?_;rintro v lU N -⟨kw,gq⟩;subst lU;subst N;generalize fc:s.marks i (ff (bp g.ds) F d.t.ns d.t.bm.toNat).2=s1 at *;have ama:s1.m.length=64:=by rw[<-fc,df.Ba,hp]
 refine bd.whole _ (afP (xs:=dF (bp g.ds) F d.t.ns []) (aj.t.mono eQ) af ?_) ?_
 ·have:=Gl (I:=fp) (M:=jj b6 s1::[eY bR (dF (bp g.ds) F d.t.ns []),⟨b7,.cells #[.int .i64 i] 3 (0,0)⟩,eY tJ F,jj cd (jk 0),⟨b1,.cells #[.slice g.a g.n g.c] 24 (0,0)⟩]) (b:=bR) (l:=dF (bp g.ds) F d.t.ns []) (.tail _ (.head _));rw[C1,aj.t.n]at this;simpa using this
 rintro v lU N -⟨ag,kw,gq⟩;subst lU;subst N;subst v;have hL:(jj b6 (ox (bp g.ds) F s i d))=(jj b6 (bif mh d.t.ns (dF (bp g.ds) F d.t.ns [])then s1.loop i else s1)):=by rw[ox,<-fc];rfl
 refine a9.mk (λhe=>?_) (λhe=>?_)
 rotate_left
 ·have qE:mh d.t.ns (dF (bp g.ds) F d.t.ns [])=false:=he;refine bi.mk _ (de (i:=i) (by omega)) ?_;refine⟨(i+1,fp),⟨⟨aW,λb o h=>eQ _ _ (bL _ _ h)⟩,by simp only;omega⟩,.sub (.cons_cons _ (.cons _ (.cons _ (.refl _)))) (.tn ?_),qB,.nil⟩;simp only;rw[kK,hL,qE];rfl
 have qE:mh d.t.ns (dF (bp g.ds) F d.t.ns [])=true:=he;refine dh.draw a4 rfl rfl rfl ?_;refine aZ.mk _ (Vq (.head _)) ?_;refine aZ.mk [.int .i64 i] (cX (cs:=[.int .i64 i]) (k:=0) (n:=1) (.tail _ (.tail _ (.head _))) (by simp)) ?_;refine tW.mk i rfl ?_;refine bi.mk _ (LQ (by omega)) ?_;refine cn.iM [] _ s1.cells _ rfl ?_ rfl (s1.loop i).cells ?_ ?_
 ·rw[df.da];rfl
 ·show bQ s1.cells (0+65) [Value.int .u64 (AR s1.w.toNat (j1 i).toNat)]=_;rw[G6];exact af2 s1 i
 refine bi.mk _ (de (i:=i) (by omega)) ?_;refine⟨(i+1,fp),⟨⟨aW,λb o h=>eQ _ _ (bL _ _ h)⟩,by simp only;omega⟩,.sub (.cons_cons _ (.cons _ (.cons _ (.refl _)))) (.tn ?_),qB,.nil⟩;simp only;rw[kK,hL,qE];rfl
def Bb(l:List Nat):List Value:=l.map λn:Nat=>Value.int .i64 n
def w6(s:df):List Nat:=bitsOf s.w 64
open Classical in
noncomputable def tK(s:df):List Nat:=(List.range 64).filter λi=>decide (oh s.m i i)
def af7{s:df}{b:dm}(h:∀ i,i<64->(b.getLsbD i=true ↔ oh s.m i i)):bitsOf b 64=tK s:=by
 unfold bitsOf tK;apply BY;intro i hi;have:=h i (by simpa using hi);by_cases au:oh s.m i i
 ·simp[au,this.2 au]
 ·have:b.getLsbD i=false:=by
   cases ah:b.getLsbD i with
   |false=>rfl| true=>exact absurd (this.1 ah) au
  simp[au,this]
def Vt(pl:List (ByteArray×Int))(F:List aI):∀ (l:List a2) (i:Nat) (s:df),(iB pl F i l s).n=s.n
 |[],i,s=>rfl
 |d::l,i,s=>by
  rw[iB,Vt pl F l];have hm:∀ (q:List Nat) (s:df),(s.marks i q).n=s.n:=λq=>by
   induction q with
   |nil=>exact λs=>rfl
   |cons k q aR=>exact λs=>aR (s.mark i k)
  unfold ox;cases mh d.t.ns (dF pl F d.t.ns [])with
  |true=>exact hm _ s| false=>exact hm _ s
def af8(ds:List a2)(F:List aI):(oy ds F).n=ds.length:=Vt _ _ _ _ _
def af9(ds:List a2)(F:List aI):(oy ds F).m.length=64:=by rw[oy,Nc];rfl
noncomputable def D6(e:Int)(s:df):Int×Int:=
 if e≠0 then(0,e)else if 0<(tK s).length then(((tK s).headD 0:Nat),42)else if 0<(w6 s).length then(((w6 s).headD 0:Nat),43)else(0,0)
def aU.pos(h:os.ok 1 (Bb l)):l.length=os.n:=by have:=h.len;simpa[Bb]using this
def Vu(h:os.ok 1 (Bb l))(av:0<l.length)(a3:os.aq e++M0=M):∃ aV,os.a.map (λg=>(⟨g,0,none⟩:Addr))=some aV/\c7 I M (aV.add (0*1)) 1 [.int .i64 (l.headD 0:Nat)]:=by
 have aO:=aU.pos h;cases aY:os.a with
 |none=>have:=(h.nil aY).1;omega
 |some b=>
  obtain⟨aa,ad,al,aL⟩:=h.cap b aY;refine⟨⟨b,0,none⟩,rfl,?_⟩;subst a3;cases l with
  |nil=>simp at av
  |cons a l=>
   cases au:os.aS with
   |nil=>rw[au]at aL;simp[Bb]at aL
   |cons x xs=>
    rw[au]at aL;have aJ:os.n*1=(os.n-1)+1:=by omega
    rw[aJ,oN]at aL;have ab:x=.int .i64 a:=(List.cons.inj aL).1;refine⟨rfl,_,_,_,.inr ⟨⟨b,.cells os.aS.toArray e (0,0)⟩,?_,rfl,rfl⟩,?_,rfl⟩;·unfold aU.aq;rw[aY];exact .head _
    ·rw[au,ab];rfl
def aga(bl:gg I aF)(ax:g.ok I)(g7:∀ d∈g.ds,rf d.t)(j7:eH aF g=0->g.n<=64):Spec Tryz.prog 57 [g.val] I [] λv I' M'=>(∀ b o,I b=some o->I' b=some o)/\M'=[] /\
  ∃ r:Int×Int,v=.tuple #[.int .i64 r.1,.int .i64 r.2]/\((eH aF g≠0/\r=(0,eH aF g))\/(eH aF g=0/\∃ F,iv g.ds F/\r=D6 0 (oy g.ds F))):=by
 refine cp [4] a4 Tryz.func57 rfl rfl rfl ?_;intro B ay;have jw:=ax.n;refine bd.mk [] [] _ (.refl _) (af3 bl ax g7 j7) ?_;rintro v cT N -⟨dg,rfl,⟨hm,rfl⟩|⟨hm,F,bf,rfl⟩⟩
 ·refine cJ.mk λey F5 F6=>?_;refine cn.pg [] _ _ _ rfl rfl rfl rfl (jk 0).cells rfl ?_;refine a9.mk (λh=>?_) (λh=>absurd h (by simp[hm]));exact⟨_,_,.sub (gn _) .refl,dg,rfl,(0,eH aF g),rfl,.inl ⟨hm,rfl⟩⟩
 refine cJ.mk λey F5 F6=>?_;refine cn.pg [] _ _ _ rfl rfl rfl rfl (oy g.ds F).cells rfl ?_;have kK:=af8 g.ds F;have hp:=af9 g.ds F;have aJ:=j7 hm;generalize ar:oy g.ds F=s at kK hp;refine a9.mk (λh=>absurd h (by simp)) (λ_=>?_);refine aZ.mk _ (Hx (.head _)) ?_;refine bd.whole _ (adn s ⟨hp,by omega⟩) ?_;rintro v J N -⟨rfl,rfl,b,rfl,ah⟩;refine bd.whole _ (TB b) ?_;rintro v J N -⟨rfl,os,cC,rfl,rfl⟩;have cC:os.ok 1 (Bb (tK s)):=by rw[<-af7 ah];exact cC
 have aO:=aU.pos cC;refine a9.mk (λh=>?_) (λh=>?_)
 ·have bq:0<(tK s).length:=by have:(0:Int)<(os.n:Int):=dV h;omega
  obtain⟨aV,bU,bB⟩:=Vu (I:=J) cC bq rfl;refine bu.mk aV 0 bU rfl (by omega) ?_;refine aZ.mk _ bB ?_;exact⟨_,_,.sub (gn _) .refl,dg,rfl,(((tK s).headD 0:Nat),42),rfl,.inr ⟨hm,F,bf,by rw[ar,D6,ca (by simp),ck bq]⟩⟩
 have bq:¬ 0<(tK s).length:=by have:¬ (0:Int)<(os.n:Int):=eO h;omega
 refine aZ.mk _ (Vq (nQ _ (.head _))) ?_;refine bd.whole _ (TB s.w) ?_;rintro v fp N -⟨rfl,Nd,Hz,rfl,rfl⟩;have Hz:Nd.ok 1 (Bb (w6 s)):=Hz;have uZ:=aU.pos Hz;refine a9.mk (λh=>?_) (λh=>?_)
 ·have ad:0<(w6 s).length:=by have:(0:Int)<(Nd.n:Int):=dV h;omega
  obtain⟨aV,bU,bB⟩:=Vu (I:=fp) Hz ad rfl;refine bu.mk aV 0 bU rfl (by omega) ?_;refine aZ.mk _ bB ?_;exact⟨_,_,.sub (gn _) .refl,dg,rfl,(((w6 s).headD 0:Nat),43),rfl,.inr ⟨hm,F,bf,by rw[ar,D6,ca (by simp),ca bq,ck ad]⟩⟩
 have ad:¬ 0<(w6 s).length:=by have:¬ (0:Int)<(Nd.n:Int):=eO h;omega
 exact⟨_,_,.sub (gn _) .refl,dg,rfl,(0,0),rfl,.inr ⟨hm,F,bf,by rw[ar,D6,ca (by simp),ca bq,ca ad]⟩⟩
def HA(l:List Nat)(w:dm):dm:=l.foldl (λw k=>w ||| j1 k) w
def agb(l:List Nat)(w:dm){i:Nat}(hi:i<64):(HA l w).getLsbD i=(w.getLsbD i||l.contains i):=acE l w hi
def nD(m:List dm)(i:Nat):m.set i (m.getD i 0)=m:=by
 apply vT;intro j;rw[kl];by_cases h:i=j
 ·subst h;by_cases av:i<m.length
  ·simp[av,cv]
  ·simp[av]
 ·simp[h]
def Vv(i:Nat):∀ (l:List Nat) (s:df),i<s.m.length->(s.marks i l).m=s.m.set i (HA l (s.m.getD i 0))
 |[],s,h=>(nD s.m i).symm| k::l,s,h=>by have aR:=Vv i l (s.mark i k) (by simpa[df.mark]using h);show((s.mark i k).marks i l).m=_;rw[aR,df.mark];simp only;rw[Cm,LR (by simpa using h)];rfl
def Nf(i:Nat):∀ (l:List Nat) (s:df),(s.marks i l).w=s.w
 |[],s=>rfl| k::l,s=>Nf i l (s.mark i k)
def Vw(pl:List (ByteArray×Int))(F:List aI)(s:df)(i:Nat)(d:a2)(h:i<s.m.length):(ox pl F s i d).m=s.m.set i (HA (ff pl F d.t.ns d.t.bm).2 (s.m.getD i 0)):=by
 unfold ox;rw[<-Vv i _ s h];cases mh d.t.ns (dF pl F d.t.ns [])<;>rfl
def Vx(pl:List (ByteArray×Int))(F:List aI)(s:df)(i:Nat)(d:a2):(ox pl F s i d).w=bif mh d.t.ns (dF pl F d.t.ns [])then s.w ||| j1 i else s.w:=by
 unfold ox;cases mh d.t.ns (dF pl F d.t.ns [])
 ·exact Nf i _ s
 ·show(s.marks i _).w ||| j1 i=_
  rw[Nf];rfl
def Ng(pl:List (ByteArray×Int))(F:List aI):∀ (l:List a2) (i:Nat) (s:df),s.m.length=64->i+l.length<=64 -> (∀ j,j<i\/i+l.length<=j->(iB pl F i l s).m.getD j 0=s.m.getD j 0) /\ (∀ q (h:q<l.length),(iB pl F i l s).m.getD (i+q) 0=HA (ff pl F l[q].t.ns l[q].t.bm).2 (s.m.getD (i+q) 0)) /\ (∀ j,j<64->j<i\/i+l.length<=j->(iB pl F i l s).w.getLsbD j=s.w.getLsbD j) /\ (∀ q (h:q<l.length),(iB pl F i l s).w.getLsbD (i+q)=(s.w.getLsbD (i+q)||mh l[q].t.ns (dF pl F l[q].t.ns [])))
 |[],i,s,_,_=>⟨λ_ _=>rfl,λ_ h=>absurd h (by simp),λ_ _ _=>rfl,λ_ h=>absurd h (by simp)⟩
 |d::l,i,s,ar,av=>by
  rw[ea]at av;obtain⟨aa,ad,al,aL⟩:=Ng pl F l (i+1) (ox pl F s i d) (by rw[Vo,ar]) (by omega);have hm:∀ j,j≠i->(ox pl F s i d).m.getD j 0=s.m.getD j 0:=λj ai=>by rw[Vw pl F s i d (by omega)];simp[cv,kl,pE ai]
  have hw:∀ j,j<64->j≠i->(ox pl F s i d).w.getLsbD j=s.w.getLsbD j:=λj ai bs=>by
   rw[Vx];cases mh d.t.ns (dF pl F d.t.ns []);·rfl
   ·rw[bZ,yq,Gv ai];simp[bs]
  refine⟨λj ai=>?_,λq h=>?_,λj ai vR=>?_,λq h=>?_⟩;·rw[ea]at ai;rw[iB,aa j (by omega),hm j (by omega)]
  ·cases q with
   |zero=>rw[iB,aa _ (by omega),Vw pl F s i d (by omega)];rw[ms,LR (by omega)];rfl| succ q=>have:=ad q (by simpa using h);rw[show i+1+q=i+(q+1) by omega]at this;rw[iB,this,hm _ (by omega)];rfl
  ·rw[ea]at vR;rw[iB,al j ai (by omega),hw j ai (by omega)]
  ·cases q with
   |zero=>
    rw[iB,al _ (by omega) (by omega),Vx,ms,oM];cases he:mh d.t.ns (dF pl F d.t.ns []);·simp
    ·rw[bZ,yq,Gv (by omega)];simp
   |succ q=>
    have aK:q<l.length:=by simpa using h
    have:=aL q aK;rw[show i+1+q=i+(q+1) by omega]at this;rw[iB,this,hw _ (by omega) (by omega)];rfl
def ia(ds:List a2)(F:List aI)(i:Nat):List Nat:=match ds[i]? with
 |some d=>(ff (bp ds) F d.t.ns d.t.bm).2| none=>[]
def D7(ds:List a2)(F:List aI)(i:Nat):Bool:=match ds[i]? with
 |some d=>mh d.t.ns (dF (bp ds) F d.t.ns [])| none=>false
def HB{ds:List a2}{F:List aI}(aJ:ds.length<=64){i k:Nat}(ae:k<64):((oy ds F).m.getD i 0).getLsbD k=(ia ds F i).contains k:=by
 obtain⟨aa,ad,-,-⟩:=Ng (bp ds) F ds 0 (jk ds.length) (by rfl) (by omega);have ay:∀ j,(jk ds.length).m.getD j 0=0#64:=λj=>by
  simp only[jk,cv,List.getElem?_replicate];by_cases h:j<64<;>simp[h]
 unfold ia oy;by_cases h:i<ds.length
 ·have:=ad i h;rw[c9]at this;rw[this,ay,agb _ _ ae,dX h];simp
 ·rw[aa i (by omega),ay,pN (by omega)];simp
def Vy{ds:List a2}{F:List aI}(aJ:ds.length<=64){i:Nat}(hi:i<64):(oy ds F).w.getLsbD i=D7 ds F i:=by
 obtain⟨-,-,aa,ad⟩:=Ng (bp ds) F ds 0 (jk ds.length) (by rfl) (by omega);unfold D7 oy;by_cases h:i<ds.length
 ·have:=ad i h;rw[c9]at this;rw[this,dX h];simp[jk]
 ·rw[aa i hi (by omega),pN (by omega)];simp[jk]
section
end
section
end
def HC{ds:List a2}{f:a2->aI}{i:Nat}(h:i<ds.length):(ds.map f).getD i bK=f ds[i]:=by simp[cv,h]
def mV.all{ds:List a2}{l:List aI}(h:mV ds l):mV ds (ds.map (hh (bp ds) l))/\dK l (ds.map (hh (bp ds) l)):=by
 have bg:dK l (ds.map (hh (bp ds) l)):=dK.of (by simp[h.len]) λi hi=>by rw[HC (by rw[<-h.len];exact hi)];exact h.up i _
 refine⟨⟨by simp,λi hi=>?_,λm hm au=>dK.of (by simp[hm]) λi hi=>?_⟩,bg⟩
 ·rw[HC hi];exact C5 bg _
 ·have ct:i<ds.length:=by simpa using hi
  rw[HC ct];exact(C5 (h.least m hm au) _).trans (au i ct)
def w7(b:Bool)(xs:List (aI×List Nat)):List Nat:=bif b then iw xs else xs.flatMap (·.2)
def agc(b:Bool):w7 b []=[]:=by cases b<;>rfl
def agd(b:Bool)(x:aI×List Nat)(xs:List (aI×List Nat)):w7 b (x::xs)=x.2++bif b && !x.1.z then []else w7 b xs:=by
 cases b with
 |true=>
  cases a':x.1.z<;>simp[w7,iw,a']
 |false=>simp[w7]
def age{pl:List (ByteArray×Int)}{d:an}{xs:List (aI×List Nat)}(al:¬ d.k=3)(cr:¬ (d.k=6/\d.hi=0)):iS pl d xs=w7 (decide (d.k=4)) xs:=by
 unfold iS w7;rw[eU al,b0];cases aL:decide (d.k=4)with
 |true=>rfl
 |false=>
  rw[b0,b0];by_cases a:d.k=6;·have b:¬ d.hi=0:=λe=>cr ⟨a,e⟩;rw[h6 a,eU b];rfl
  ·rw[eU a];rfl
def vb(pl:List (ByteArray×Int))(F:List aI)(d:an)(xs:List ((aI×List Nat)×Bool)):Bool:=xs.any λx=>(decide (d.k=6)&&(decide (d.hi=-1)&&x.1.1.z))||x.2
def k'(pl:List (ByteArray×Int))(F:List aI)(d:an)(xs:List ((aI×List Nat)×Bool)):(aI×List Nat)×Bool:=(og pl F d (xs.map (·.1)),vb pl F d xs)
def m3(pl:List (ByteArray×Int))(F:List aI)(ns:List an)(j:Int):(aI×List Nat)×Bool:=gM ((bK,[]),false) (λd g=>k' pl F d (d.ap.map g)) ns j
def Vz{pl:List (ByteArray×Int)}{F:List aI}(af:right t=true){j:Nat}(ai:j<t.ns.length):m3 pl F t.ns j=k' pl F t.ns[j] (t.ns[j].ap.map (m3 pl F t.ns)):=
 ux (λd g cN h=>by rw[fy h]) af ai
def HD{pl:List (ByteArray×Int)}{F:List aI}{t:bw}(af:right t=true):∀ (m j:Nat),j<m->j<t.ns.length->(m3 pl F t.ns j).1=ff pl F t.ns j
 |0,j,h,_=>absurd h (ot _)
 |m+1,j,hm,ai=>by
  rw[Vz af ai,KU af ai];have:(t.ns[j].ap.map (m3 pl F t.ns)).map (·.1)=t.ns[j].ap.map (ff pl F t.ns):=by rw[gz];refine fy λk ae=>?_;obtain⟨aa,ad⟩:=jX af j ai k ae;obtain⟨q,rfl⟩:=eN aa;exact HD af m q (by omega) (by omega)
  show og pl F t.ns[j] _=_;rw[this]
def agf(pl:List (ByteArray×Int))(F:List aI)(ns:List an)(j:Int):m3 pl F (ns.map an.a6) j=m3 pl F ns j:=by unfold m3 gM;rw[Ap (f:=λd g=>k' pl F d (d.ap.map g)) (g:=λd g=>k' pl F d (d.ap.map g)) (λd q=>rfl)]
def nE(ds:List a2)(F:List aI)(i:Nat):List Nat:=(List.range ds.length).filter λk=>(ia ds F i).contains k
def nF(ds:List a2)(F:List aI)(i:Nat):Bool:=match ds[i]? with
 |some d=>(m3 (bp ds) F d.t.ns d.t.bm).2| none=>false
def nG(ds:List a2)(F:List aI):List Nat:=(List.range ds.length).filter (nF ds F)
inductive iV(A:Nat->List Nat):Nat->Nat->Prop
 |one{i k}(h:k∈A i):iV A i k| step {i j k} (h:j∈A i) (t:iV A j k):iV A i k
def iV.snoc{i j k:Nat}(h:iV A i j)(ae:k∈A j):iV A i k:=by
 induction h with
 |one h=>exact .step h (.one ae)| step h t aR=>exact .step h (aR ae)
def sw:List Nat->List Nat->List Nat
 |[],l=>l| x::r,l=>sw r (bif l.contains x then l else l++[x])
def Bc:∀ (r l:List Nat) (x:Nat),x∈sw r l ↔ x∈l\/x∈r
 |[],l,x=>by simp[sw]
 |y::r,l,x=>by
  rw[sw,Bc r];cases h:l.contains y with
  |true=>
   have aD:y∈l:=by simpa using h
   rw[bZ];constructor
   ·rintro(a | a)
    ·exact .inl a
    ·exact .inr (.tail _ a)
   ·rintro(a | a)
    ·exact .inl a
    ·rcases dW.1 a with rfl | a
     ·exact .inl aD
     ·exact .inr a
  |false=>
   rw[b0];rw[cO,eK,dW];constructor
   ·rintro((a | a) | a)
    ·exact .inl a
    ·exact .inr (.inl a)
    ·exact .inr (.inr a)
   ·rintro(a | a | a)
    ·exact .inl (.inl a)
    ·exact .inl (.inr a)
    ·exact .inr a
def VA:∀ (r l:List Nat),∃ s,sw r l=l++s
 |[],l=>⟨[],by simp[sw]⟩
 |y::r,l=>by
  obtain⟨s,ar⟩:=VA r (bif l.contains y then l else l++[y]);rw[sw,ar];cases l.contains y with
  |true=>exact⟨s,rfl⟩| false=>exact⟨[y]++s,by simp⟩
def VB:∀ (r l:List Nat),l.Nodup->(sw r l).Nodup
 |[],l,h=>h
 |y::r,l,h=>by
  rw[sw];apply VB r;cases au:l.contains y with
  |true=>exact h
  |false=>
   have aD:y ∉ l:=by simpa using au
   rw[b0,sK];refine⟨h,by simp,λa aY b ah e=>?_⟩;have:b=y:=by simpa using ah
   subst this;subst e;exact aD aY
def VC:∀ (n:Nat) (l:List Nat),l.Nodup->(∀ x∈l,x<n)->l.length<=n
 |0,[],_,_=>cI _| 0,a::l,_,h=>absurd (h a (.head _)) (ot _)
 |n+1,l,aj,h=>by
  have aa:=VC n (l.erase n) (aj.erase n) λx ab=>by have ad:=h x (List.mem_of_mem_erase ab);have al:x≠n:=(aj.mem_erase_iff.1 ab).1;omega
  have aL:=List.length_erase (a:=n) (l:=l);split at aL<;>omega
def Bd(A:Nat->List Nat):Nat->Nat->List Nat->List Nat
 |0,_,l=>l
 |f+1,k,l=>match l[k]? with
  |some x=>Bd A f (k+1) (sw (A x) l)| none=>l
structure rh(A:Nat->List Nat)(n k:Nat)(eL l:List Nat):Prop where
 bX:l.Nodup
 lt:∀ x∈l,x<n
 sub:∀ x∈eL,x∈l
 src:∀ x∈l,x∈eL\/∃ y∈eL,iV A y x
 Nh:∀ j x,j<k->l[j]?=some x->∀ y∈A x,y∈l
 k:k<=l.length
def rh.len{k:Nat}(h:rh A n k eL l):l.length<=n:=VC n l h.bX h.lt
def rh.next{k:Nat}(dk:∀ x,∀ y∈A x,y<n)(h:rh A n k eL l){x:Nat}(ab:l[k]?=some x):rh A n (k+1) eL (sw (A x) l):=by
 obtain⟨s,ar⟩:=VA (A x) l;have ae:k<l.length:=by
  rcases Nat.lt_or_ge k l.length with aa | aa;·exact aa
  ·rw[pN aa]at ab;cases ab
 have l5:x∈l:=vF ab;refine⟨VB _ _ h.bX,λz a'=>?_,λz a'=>(Bc _ _ _).2 (.inl (h.sub z a')),λz a'=>?_,λj z ai a' y aD=>?_,by rw[ar];simp;omega⟩
 ·rcases(Bc _ _ _).1 a' with a | a
  ·exact h.lt z a
  ·exact dk x z a
 ·rcases(Bc _ _ _).1 a' with a | a
  ·exact h.src z a
  ·rcases h.src x l5 with b | ⟨w,hw,b⟩
   ·exact .inr ⟨x,b,.one a⟩
   ·exact .inr ⟨w,hw,b.snoc a⟩
 ·have gv:l[j]?=some z:=by rw[ar,oL (by omega)]at a';exact a'
  by_cases e:j=k;·subst e;rw[ab]at gv;obtain rfl:=gO gv;exact(Bc _ _ _).2 (.inr aD)
  ·exact(Bc _ _ _).2 (.inl (h.Nh j z (by omega) gv y aD))
def rh.done{i:Nat}(h:rh A n l.length (A i) l)(x:Nat):x∈l ↔ iV A i x:=by
 constructor
 ·intro ab;rcases h.src x ab with a | ⟨y,aD,a⟩
  ·exact .one a
  ·exact .step aD a
 ·have cl:∀ {y z:Nat},iV A y z->y∈l->z∈l:=fun {y z} au=>by
   induction au with
   |one ae=>intro aD;obtain⟨j,ai,e⟩:=hz aD;exact h.Nh j _ ai (by rw[dX ai,e]) _ ae
   |step ai t aR=>intro aD;refine aR ?_;obtain⟨q,aK,e⟩:=hz aD;exact h.Nh q _ aK (by rw[dX aK,e]) _ ai
  intro au;cases au with
  |one ae=>exact h.sub x ae| step ai t=>exact cl t (h.sub _ ai)
def Ni{pl:List (ByteArray×Int)}{F:List aI}(af:right t=true){j:Nat}(ai:j<t.ns.length):(m3 pl F t.ns j).2=true ↔ ∃ k∈t.ns[j].ap,(t.ns[j].k=6/\t.ns[j].hi=-1/\(dF pl F t.ns []).getD k.toNat bK=(dF pl F t.ns []).getD k.toNat bK/\((dF pl F t.ns []).getD k.toNat bK).z=true)\/(m3 pl F t.ns k).2=true:=by
 have k2:∀ k∈t.ns[j].ap,(m3 pl F t.ns k).1.1=(dF pl F t.ns []).getD k.toNat bK:=λk ae=>by obtain⟨aa,ad⟩:=jX af j ai k ae;obtain⟨q,rfl⟩:=eN aa;rw[HD af (q+1) q (by omega) (by omega),KV]
 rw[Vz af ai];show vb pl F t.ns[j] _=true ↔ _;unfold vb;rw[yV];constructor
 ·rintro⟨x,ab,h⟩;obtain⟨k,ae,rfl⟩:=cG.1 ab;refine⟨k,ae,?_⟩;rw[k2 k ae]at h;simp only[jP,b',hk]at h;rcases h with⟨a,b,c⟩ | h
  ·exact .inl ⟨a,b,rfl,c⟩
  ·exact .inr h
 ·rintro⟨k,ae,h⟩;refine⟨_,cG.2 ⟨k,ae,rfl⟩,?_⟩;rw[k2 k ae];simp only[jP,b',hk];rcases h with⟨a,b,-,c⟩ | h
  ·exact .inl ⟨a,b,c⟩
  ·exact .inr h
def VD{pl:List (ByteArray×Int)}{F:List aI}{t:bw}(af:right t=true):∀ (m j:Nat),j<t.ns.length->t.ns.length-j<=m->(m3 pl F t.ns j).2=true->(m3 pl F t.ns t.bm).2=true
 |0,j,ai,hm,_=>by omega
 |m+1,j,ai,hm,h=>by
  by_cases e:(j:Int)=t.bm;·rw[<-e];exact h
  ·obtain⟨p,aO,ae,aW⟩:=RD af ai e;exact VD af m p aO (by omega) ((Ni af aO).2 ⟨_,ae,.inr h⟩)
def agh{l:List Int}{k:Int}(ae:k∈l)(h:l.length=1):l.headD 0=k:=by
 match l,h with
 |[a],_=>exact(eK.1 ae).symm
def VE{pl:List (ByteArray×Int)}{F:List aI}{t:bw}(af:right t=true)(aa:∀ d∈t.ns,d.k=6->d.ap.length=1):∀ (m j:Nat),j<m->∀ (ai:j<t.ns.length),(m3 pl F t.ns j).2=true->mh t.ns (dF pl F t.ns [])=true
 |0,j,h,_,_=>absurd h (ot _)
 |m+1,j,hm,ai,h=>by
  obtain⟨k,ae,⟨a,b,-,c⟩ | h⟩:=(Ni af ai).1 h;·refine yV.2 ⟨t.ns[j],b9 ai,?_⟩;simp only[b',hk];refine⟨a,b,?_⟩;rw[agh ae (aa _ (b9 ai) a)];exact c
  ·obtain⟨ad,al⟩:=jX af j ai k ae;obtain⟨q,rfl⟩:=eN ad;exact VE af aa m q (by omega) (by omega) h
def agi{pl:List (ByteArray×Int)}{F:List aI}(af:right t=true)(aa:∀ d∈t.ns,d.k=6->d.ap.length=1):(m3 pl F t.ns t.bm).2=mh t.ns (dF pl F t.ns []):=by
 obtain⟨ib,gA⟩:=kG af;obtain⟨r,eD⟩:=eN ib;apply rq.2;constructor
 ·intro h;rw[eD]at h;exact VE af aa (r+1) r (by omega) (by omega) h
 ·intro h;obtain⟨d,aj,h⟩:=yV.1 h;obtain⟨j,ai,rfl⟩:=hz aj;simp only[b',hk]at h;obtain⟨a,b,c⟩:=h;have av:=aa _ aj a;have ae:t.ns[j].ap.headD 0∈t.ns[j].ap:=by
   match ab:t.ns[j].ap,av with
   |[q],_=>simp
  exact VD af t.ns.length j ai (by omega) ((Ni af ai).2 ⟨_,ae,.inl ⟨a,b,rfl,c⟩⟩)
def VF{b:Bool}{x:Nat}:∀ {xs:List (aI×List Nat)},x∈w7 b xs->∃ y∈xs,x∈y.2
 |[],h=>by rw[agc]at h;cases h
 |y::xs,h=>by
  rw[agd]at h;rcases cO.1 h with h | h;·exact⟨y,.head _,h⟩
  ·cases ah:b && !y.1.z with
   |true=>rw[ah]at h;cases h| false=>rw[ah]at h;obtain⟨z,a',ab⟩:=VF (xs:=xs) h;exact⟨z,.tail _ a',ab⟩
def VG{ds:List a2}{F:List aI}{t:bw}(af:right t=true)(dR:tk (bp ds) t.ns=true):∀ (m j:Nat),j<m->j<t.ns.length->∀ x∈(ff (bp ds) F t.ns j).2,x<ds.length
 |0,j,h,_=>absurd h (ot _)
 |m+1,j,hm,ai=>by
  intro x ab;rw[KU af ai]at ab;have ab:x∈iS (bp ds) t.ns[j] (t.ns[j].ap.map (ff (bp ds) F t.ns)):=ab;have nN:=fL.1 dR _ (b9 ai);by_cases al:t.ns[j].k=3
  ·obtain⟨q,C2,Al,M9⟩:=Vi (nm:=t.ns[j].t) (ds:=ds) (by simpa[al]using nN);rw[iS,h6 al,bZ,M9]at ab;have:x=q:=by simpa using ab
   omega
  by_cases cr:t.ns[j].k=6/\t.ns[j].hi=0;·rw[iS,eU al,b0,eU (show ¬ t.ns[j].k=4 by omega),b0,h6 cr.1,h6 cr.2]at ab;cases ab
  ·rw[age al cr]at ab;obtain⟨y,aD,agj⟩:=VF ab;obtain⟨k,ae,rfl⟩:=cG.1 aD;obtain⟨aa,ad⟩:=jX af j ai k ae;obtain⟨q,rfl⟩:=eN aa;exact VG af dR m q (by omega) (by omega) x agj
def Nj(a3:tl g){F:List aI}(i:Nat):∀ k∈ia g.ds F i,k<g.ds.length:=by
 intro k ae;unfold ia at ae;by_cases h:i<g.ds.length
 ·rw[dX h]at ae;have gh:=b9 h;have af:=a3.right _ gh;obtain⟨ib,gA⟩:=kG af;obtain⟨r,eD⟩:=eN ib;have ae:k∈(ff (bp g.ds) F g.ds[i].t.ns g.ds[i].t.bm).2:=ae;rw[eD]at ae;exact VG af (a3.named _ gh) (r+1) r (by omega) (by omega) k ae
 ·rw[pN (by omega)]at ae;cases ae
def VH(a3:tl g)(j7:g.ds.length<=64){F:List aI}{i k:Nat}(hi:i<64):oh (oy g.ds F).m i k ↔ iV (ia g.ds F) i k:=by
 constructor
 ·intro h
  induction h with
  |one ae h=>rw[HB j7 ae]at h;exact .one (by simpa using h)| step h ai t aR=>rw[HB j7 ai]at h;exact .step (by simpa using h) (aR ai)
 ·intro h
  induction h with
  |one h=>have:=Nj a3 _ _ h;exact .one (by omega) (by rw[HB j7 (by omega)];simpa using h)| step h t aR=>have:=Nj a3 _ _ h;exact .step (by rw[HB j7 (by omega)];simpa using h) (by omega) (aR (by omega))
def VI(aJ:n<=64)(p q:Nat->Bool)(aa:∀ k,k<n->p k=q k)(ad:∀ k,n<=k->k<64->p k=false):(List.range 64).filter p=(List.range n).filter q:=by
 have j7:(List.range 64)=List.range n++(List.range' n (64-n)):=by rw[zl,zl,show 64=n+(64-n) by omega,<-List.range'_append_1];simp
 have al:(List.range' n (64-n)).filter p=[]:=by rw[List.filter_eq_nil_iff];intro k ae;rw[List.mem_range'_1]at ae;rw[ad k (by omega) (by omega)];simp
 rw[j7,CL,al,ee];apply BY;intro k ae;exact aa k (by simpa using ae)
def agk(ax:g.ok I)(a3:tl g)(F:List aI)(i:Nat):nF g.ds F i=D7 g.ds F i:=by
 unfold nF D7;by_cases h:i<g.ds.length
 ·rw[dX h];have gh:=b9 h;have af:=a3.right _ gh;have aw:=(ax.ds _ gh).t;refine agi af λd aj ae=>?_;obtain⟨j,ai,rfl⟩:=hz aj;have bJ:=aw.ns _ aj;have:=(Vb bJ.k.1 (zX af ai)).one (by omega);omega
 ·rw[pN (by omega)]
def agl(ax:g.ok I)(a3:tl g)(j7:g.ds.length<=64)(F:List aI):w6 (oy g.ds F)=nG g.ds F:=by
 unfold w6 nG bitsOf;refine VI j7 _ _ (λk ae=>?_) (λk ae eG=>?_)
 ·rw[Vy j7 (by omega),agk ax a3]
 ·rw[Vy j7 eG,D7,pN ae]
open Classical in
noncomputable def pq(ds:List a2)(F:List aI):List Nat:=(List.range ds.length).filter λi=>decide (iV (ia ds F) i i)
def agm{ds:List a2}{F:List aI}{i:Nat}(h:ds.length<=i):ia ds F i=[]:=by rw[ia,pN h]
open Classical in
def agn(a3:tl g)(j7:g.ds.length<=64)(F:List aI):tK (oy g.ds F)=pq g.ds F:=by
 unfold tK pq;refine VI j7 _ _ (λk ae=>?_) (λk ae eG=>?_)
 ·exact decide_eq_decide.2 (VH a3 j7 (by omega))
 ·refine eU λau=>?_;have au:=(VH a3 j7 eG).1 au;have aJ:=agm (F:=F) ae;cases au with
  |one h=>rw[aJ]at h;cases h| step h t=>rw[aJ]at h;cases h
structure Nk(d:an):Prop where
 aT:d.aT<400
 t:d.t.size<8020
structure VJ(t:bw):Prop where
 n:t.n<400
 ns:∀ bX∈t.ns,Nk bX
structure Nl(d:a2):Prop where
 name:d.name.size<8020
 t:VJ d.t
structure HE(g:eo):Prop where
 n:g.n<400
 ds:∀ d∈g.ds,Nl d
def wo.D8{d:an}(h:wo I d)(ar:Nk d):d.ok I:=
 ⟨h.k,h.b3,h.s1,h.s2,h.cm,h.eX,h.lo,h.hi,h.bb.Kj (by have:=ar.aT;omega),h.ap⟩
def Af.D8(h:Af I t)(ar:VJ t):t.ok I:=
 ⟨h.bb.Kj (by have:=ar.n;omega),λbX bJ=>(h.ns bX bJ).D8 (ar.ns bX bJ),h.bm⟩
def r'.D8(h:r' I g)(ar:HE g):g.ok I:=
 ⟨h.bb.Kj (by have:=ar.n;omega),λd aj=>⟨by have:=(ar.ds d aj).name;omega,(h.ds d aj).t.D8 (ar.ds d aj).t⟩⟩
structure VK(g:eo)(x:Nat×Nat):Prop where
 k:x.2<=g.n
 n:x.1<=2000
 small:x.1<400->x.2<=x.1/\∀ i (h:i<g.ds.length),i<x.2->Nl g.ds[i]
structure VL(g:eo)(t:bw)(k:Nat)(x:Nat×Nat):Prop where
 j:x.2<=t.n
 n:x.1<=2000
 small:x.1<400->t.n<400/\k+1<=x.1/\(∀ i (h:i<g.ds.length),i<k->Nl g.ds[i])/\(∀ h:k<g.ds.length,g.ds[k].name.size<8020)/\∀ i (h:i<t.ns.length),i<x.2->Nk t.ns[i]
def ago(ax:r' I g) :
  Spec Tryz.prog 11 [g.val] I [] λv I' M'=>(∃ r,v=.bool r/\(r=false->HE g))/\I'=I/\M'=[]:=by
 refine cp [] a4 Tryz.func11 rfl rfl rfl ?_;intro B ay;have jw:=ax.n;refine dI.inv (ι:=Nat×Nat) (λx=>{ bn:=[(1,.ref 1 0),(3,.val (.int .i64 x.1)),(4,.val (.int .i64 x.2))],cl:=[(1,[.slice g.a g.n g.c])],c2:=I }) (λx=>VK g x/\0<=x.1) (λx=>g.n-x.2) ?_ ?_
 ·exact⟨(0,0),⟨⟨dO _,dO _,λ_=>⟨dO _,λi _ h=>by simp at h⟩⟩,cI _⟩,.refl,g1,.cons rfl (.nil)⟩
 rintro⟨m,k⟩⟨⟨ae,hm,Nm⟩,cV⟩;simp only at ae hm Nm cV;have fin:(m<400->k=g.n)->∀ c,c=decide ((400:Int)<=(m:Int))->(c=false->HE g):=λaa c au VM=>by
  rw[au]at VM;have DX:m<400:=by have:=eO VM;omega
  obtain⟨s1,s2⟩:=Nm DX;have al:=aa DX;refine⟨by omega,λd aj=>?_⟩;obtain⟨y,aD,rfl⟩:=hz aj;exact s2 y aD (by omega)
 refine cP.mk (λal=>a9.mk (λaL=>?_) (λaL=>?_)) (λal=>?_)
 ·have c0:k<g.n:=by simpa using al
  have uw:m<400:=by have:=dV aL;omega
  obtain⟨s1,s2⟩:=Nm uw;have uv:k<g.ds.length:=by omega
  obtain⟨aV,bU,bB⟩:=ax.bb.row a2.da c0 uv;have aj:=ax.ds _ (b9 uv);have nN:=aj.name;have hZ:=aj.t;have agp:=hZ.n;have gA:∀ M,c7 I M ((aV.add (k*3)).add 0) 1 [.string g.ds[k].name]:=λM=>(bB M).part (k:=0) (m:=1) (by decide);have kp:∀ M,c7 I M ((aV.add (k*3)).add 1) 2 g.ds[k].t.cells:=λM=>(bB M).part (k:=1) (m:=2) (by decide);have FD:∀ (q:Nat),q<8020->g.ds[k].name.size=q->∀ h:k<g.ds.length,g.ds[k].name.size<8020:=λq aK e h=>by rw[e];exact aK
  generalize g':g.ds[k].name=nm at nN gA FD;generalize agq:g.ds[k].t=u at hZ agp kp;refine bu.mk aV k bU rfl c0 ?_;refine aZ.mk _ (kp _) ?_;refine dh.draw a4 rfl rfl rfl ?_;refine bi.mk ((m+1:Nat):Int) (wq (by omega) (by omega)) ?_;refine bi.mk ((m+1+min 400 u.n:Nat):Int) (wq (by omega) (by omega)) ?_;refine bu.mk aV k bU rfl c0 ?_;refine aZ.mk _ (gA _) ?_;refine zn.mk (by decide) ?_;refine bi.mk ((nm.size/20:Nat):Int) (wq (by rw[Vn (by omega)];omega) (by omega)) ?_;refine bi.mk ((m+1+min 400 u.n+min 400 (nm.size/20):Nat):Int) (wq (by omega) (by omega)) ?_;refine dI.inv (ι:=Nat×Nat) (λx=>{ bn:=[(1,.ref 1 0),(3,.val (.int .i64 x.1)),(4,.val (.int .i64 k)),(5,.ref 5 0),(6,.val (.int .i64 x.2))],cl:=[(1,[.slice g.a g.n g.c]),(5,u.cells)],c2:=I }) (λx=>VL g u k x/\0<=x.1) (λx=>u.n-x.2) ?_ ?_;·exact⟨(_,0),⟨⟨dO _,by simp only;omega,λh=>by simp only at h;exact⟨by omega,by simp only;omega,s2,λh=>FD nm.size (by omega) rfl h,λi _ h=>by simp at h⟩⟩,by simp only;omega⟩,.refl,iJ,.cons rfl (.cons rfl (.nil))⟩
  rintro⟨p,q⟩⟨⟨aK,aO,Nn⟩,y1⟩;simp only at aK aO y1 Nn;have out:(p<400->q=u.n)->VK g (p,k+1):=λaa=>by
   refine⟨by simp only;omega,aO,λad=>?_⟩;simp only at ad;obtain⟨sj,pj,wV,No,Np⟩:=Nn ad;have amb:=aa ad;refine⟨pj,λi hi h0=>?_⟩;by_cases e:i=k
   ·subst e;refine⟨No hi,?_⟩;rw[agq];exact⟨sj,λbX bJ=>by
     obtain⟨y,aD,rfl⟩:=hz bJ;exact Np y aD (by omega)⟩
   ·exact wV i hi (by simp only at h0;omega)
  refine cP.mk (λbG=>a9.mk (λcr=>?_) (λcr=>?_)) (λbG=>?_)
  ·have gX:q<u.n:=by simpa using bG
   have uZ:p<400:=by have:=dV cr;omega
   obtain⟨sj,pj,wV,No,Np⟩:=Nn uZ;have mQ:q<u.ns.length:=by omega
   obtain⟨C0,VN,la⟩:=hZ.bb.row an.da gX mQ;have bJ:=hZ.ns _ (b9 mQ);have dQ:=bJ.eX;have oe:∀ M,c7 I M ((C0.add (q*9)).add 8) 1 [.slice u.ns[q].cW u.ns[q].aT u.ns[q].c5]:=λM=>(la M).part (k:=8) (m:=1) (by decide);have wm:∀ M,c7 I M ((C0.add (q*9)).add 5) 1 [.string u.ns[q].t]:=λM=>(la M).part (k:=5) (m:=1) (by decide);generalize agr:u.ns[q]=bX at bJ dQ oe wm;refine dh.draw a4 rfl rfl rfl ?_;refine bu.mk C0 q VN rfl gX ?_;refine aZ.mk _ (oe _) ?_;refine bi.mk ((p+min 400 bX.aT:Nat):Int) (wq (by omega) (by omega)) ?_;refine bu.mk C0 q VN rfl gX ?_;refine aZ.mk _ (wm _) ?_;refine zn.mk (by decide) ?_;refine bi.mk ((bX.t.size/20:Nat):Int) (wq (by rw[Vn (by omega)];omega) (by omega)) ?_;refine bi.mk ((p+min 400 bX.aT+min 400 (bX.t.size/20):Nat):Int) (wq (by omega) (by omega)) ?_;refine bi.mk _ (de (i:=q) (by omega)) ?_;refine⟨(_,q+1),⟨⟨⟨by simp only;omega,by simp only;omega,λeM=>?_⟩,by simp only;omega⟩,by simp only;omega⟩,.refl,iJ,.cons rfl (.cons rfl (.nil))⟩;simp only at eM |-;refine⟨sj,by omega,wV,No,λi hi h0=>?_⟩;by_cases e:i=q;·subst e;rw[agr];exact⟨by omega,by omega⟩
   ·exact Np i hi (by omega)
  ·have uZ:400<=p:=by have:=eO cr;omega
   refine bi.mk _ (de (i:=k) (by omega)) ?_;exact⟨(p,k+1),⟨⟨out λh=>by omega,y1⟩,by simp only;omega⟩,.refl,g1,.cons rfl (.nil)⟩
  ·have gX:u.n<=q:=by simpa using bG
   refine bi.mk _ (de (i:=k) (by omega)) ?_;exact⟨(p,k+1),⟨⟨out λh=>by omega,y1⟩,by simp only;omega⟩,.refl,g1,.cons rfl (.nil)⟩
 ·have uw:400<=m:=by have:=eO aL;omega
  exact⟨_,_,.refl,⟨_,rfl,fin (λh=>by omega) _ rfl⟩,rfl,rfl⟩
 ·have aaO:g.n<=k:=by simpa using al
  exact⟨_,_,.refl,⟨_,rfl,fin (λh=>by omega) _ rfl⟩,rfl,rfl⟩
def HF(h:eH aF g=0):g.n<=64:=by
 unfold eH at h;cases aa:decide ((g.n:Int)=0)with
 |true=>rw[aa]at h;simp at h
 |false=>
  rw[aa,b0]at h;cases ad:nw g.ds with
  |false=>rw[ad]at h;simp at h
  |true=>
   rw[ad]at h;cases al:n' aF g with
   |true=>rw[al]at h;simp at h| false=>unfold n' at al;simp only[qN,pM]at al;omega
def VO{A:Nat->List Nat}{n:Nat}{eL:List Nat}(dk:∀ x,∀ y∈A x,y<n):∀ (f k:Nat) (l:List Nat),rh A n k eL l->n+1<=f+k->rh A n (Bd A f k l).length eL (Bd A f k l)
 |0,k,l,h,az=>by have:=h.len;have:=h.k;omega
 |f+1,k,l,h,az=>by
  rw[Bd];cases ab:l[k]? with
  |none=>
   have aa:k=l.length:=by have:=h.k;have:=List.getElem?_eq_none_iff.1 ab;omega
   subst aa;exact h
  |some x=>exact VO dk f (k+1) _ (h.next dk ab) (by omega)
def iV.congr{B:Nat->List Nat}(h:∀ i k,k∈A i->k∈B i){i k:Nat}(au:iV A i k):iV B i k:=by
 induction au with
 |one aa=>exact .one (h _ _ aa)| step aa t aR=>exact .step (h _ _ aa) aR
def iV.trans{i j k:Nat}(h:iV A i j)(bq:iV A j k):iV A i k:=by
 induction h with
 |one h=>exact .step h bq| step h t aR=>exact .step h (aR bq)
def VP(a3:tl g){F:List aI}{i k:Nat}:k∈nE g.ds F i ↔ k∈ia g.ds F i:=by
 unfold nE;rw[nR];constructor
 ·rintro⟨-,h⟩;simpa using h
 ·intro h;exact⟨by simpa using Nj a3 i k h,by simpa using h⟩
def ags(a3:tl g){F:List aI}{i k:Nat}:iV (nE g.ds F) i k ↔ iV (ia g.ds F) i k:=
 ⟨iV.congr λ_ _ h=>(VP a3).1 h,iV.congr λ_ _ h=>(VP a3).2 h⟩
def VQ{ds:List a2}{F:List aI}{i k:Nat}(h:k∈nE ds F i):k<ds.length:=by unfold nE at h;simpa using(nR.1 h).1
def agt(ds:List a2)(F:List aI)(i:Nat):(nE ds F i).Nodup:=List.Nodup.sublist x7 B0
def rh.start{ds:List a2}{F:List aI}(i:Nat):rh (nE ds F) ds.length 0 (nE ds F i) (nE ds F i):=
 ⟨agt ds F i,λx ab=>VQ ab,λ_ h=>h,λ_ h=>.inl h,λj x ai=>absurd ai (ot _),dO _⟩
def za(ds:List a2)(F:List aI):List Nat:=(List.range ds.length).filter λi=>(Bd (nE ds F) (ds.length+1) 0 (nE ds F i)).contains i
open Classical in
def agu(a3:tl g)(F:List aI):za g.ds F=pq g.ds F:=by
 unfold za pq;refine BY λi _=>?_;have aa:=VO (λx y aD=>VQ aD) (g.ds.length+1) 0 _ (rh.start (ds:=g.ds) (F:=F) i) (by omega);have ad:=(aa.done i).trans (ags a3);cases au:(Bd (nE g.ds F) (g.ds.length+1) 0 (nE g.ds F i)).contains i with
 |true=>exact(h6 (ad.1 (by simpa using au))).symm| false=>refine(eU λh=>?_).symm;have:=ad.2 h;rw[<-List.contains_iff_mem,au]at this;cases this
open Classical in
noncomputable def HG(ds:List a2):List aI:=if h:∃ F,iv ds F then h.choose else []
def Nq{ds:List a2}{F:List aI}(h:iv ds F):HG ds=F:=by have ab:∃ F,iv ds F:=⟨F,h⟩;unfold HG;rw[dif_pos ab];exact ab.choose_spec.unique h
def tL(aF:List Int)(g:eo)(r:Int×Int):Prop:=(eH aF g≠0/\r=(0,eH aF g))\/(eH aF g=0/\∃ F,iv g.ds F/\r=if 0<(pq g.ds F).length then((((pq g.ds F).headD 0:Nat):Int),42)else if 0<(nG g.ds F).length then((((nG g.ds F).headD 0:Nat):Int),43)else(0,0))
def VR(bl:gg I aF)(ax:g.ok I)(g7:∀ d∈g.ds,rf d.t):Spec Tryz.prog 57 [g.val] I [] λv I' M'=>(∀ b o,I b=some o->I' b=some o)/\M'=[] /\ ∃ r:Int×Int,v=.tuple #[.int .i64 r.1,.int .i64 r.2]/\tL aF g r:=
 Spec.lT (aga bl ax g7 HF) λv I' M' h=>by
  obtain⟨aa,ad,r,al,bG⟩:=h;refine⟨aa,ad,r,al,?_⟩;rcases bG with bG | ⟨hm,F,c,d⟩;·exact .inl bG
  ·have a3:=Gm ax.n hm;have j7:=HF hm;have jw:=ax.n;refine .inr ⟨hm,F,c,?_⟩;rw[d,D6,ca (by simp),agn a3 (by omega),agl ax a3 (by omega)]
def Nr(bl:gg I aF)(ax:g.ok I)(g7:∀ d∈g.ds,rf d.t):Spec Tryz.prog 13 [g.val] I [] λv I' M'=>(∀ b o,I b=some o->I' b=some o)/\M'=[] /\
  ∃ r:Int×Int,v=.int .i64 r.2/\tL aF g r:=by
 refine cp [] a4 Tryz.func13 rfl rfl rfl ?_;intro B ay;refine bd.mk [] [] _ (.refl _) (VR bl ax g7) ?_;rintro v cT N -⟨dg,rfl,r,rfl,h⟩;exact⟨_,_,.refl,dg,rfl,r,rfl,h⟩
section
variable{I:aM}{M0:List aE}{aF:List Int}
def agv(bl:gg I aF)(ax:g.ok I)(g7:∀ d∈g.ds,rf d.t):Spec Tryz.prog 57 [g.val] I M0 λv I' M'=>(∀ b o,I b=some o->I' b=some o)/\M'=M0/\∃ r:Int×Int,v=.tuple #[.int .i64 r.1,.int .i64 r.2]/\tL aF g r:=by refine Spec.lT (Spec.frame (VR bl ax g7)) ?_;rintro v J M⟨M',rfl,-,aa,-,rfl,r,rfl,ad⟩;exact⟨aa,rfl,r,rfl,ad⟩
def agw(bl:gg I aF)(ax:g.ok I)(g7:∀ d∈g.ds,rf d.t):Spec Tryz.prog 13 [g.val] I M0 λv I' M'=>(∀ b o,I b=some o->I' b=some o)/\M'=M0/\∃ r:Int×Int,v=.int .i64 r.2/\tL aF g r:=by refine Spec.lT (Spec.frame (Nr bl ax g7)) ?_;rintro v J M⟨M',rfl,-,aa,-,rfl,r,rfl,ad⟩;exact⟨aa,rfl,r,rfl,ad⟩
end
structure pt where
 k:Int
 b3:Int
 s1:Int
 s2:Int
 cm:Int
 t:List UInt8
 lo:Int
 hi:Int
 ap:List Int
def pt.bX(c:pt)(a:Option Addr)(n k:Nat):an:=⟨c.k,c.b3,c.s1,c.s2,c.cm,⟨c.t.toArray⟩,c.lo,c.hi,a,n,k,c.ap⟩
inductive vc:List pt->List an->Prop
 |nil:vc [] []| cons {c cs ns} (a:Option Addr) (n k:Nat) (t:vc cs ns):vc (c::cs) (c.bX a n k::ns)
structure tM where
 ns:List pt
 bm:Int
structure D9(c:tM)(t:bw):Prop where
 ns:vc c.ns t.ns
 bm:t.bm=c.bm
structure hq where
 name:List UInt8
 t:tM
inductive pu:List hq->List a2->Prop
 |nil:pu [] []| cons {c cs ds} {t:bw} (h:D9 c.t t) (k:pu cs ds):pu (c::cs) (⟨⟨c.name.toArray⟩,t⟩::ds)
def VS:Int->Bool
 | .ofNat k=>Nat.ble k 9223372036854775807| .negSucc k=>Nat.ble k 9223372036854775807
def VT:Int->Bool
 | .ofNat k=>Nat.ble k 18446744073709551615| .negSucc _=>false
def okB:Int->Bool
 | .ofNat k=>Nat.ble k 255| .negSucc _=>false
def agx(h:VS x=true):gy x:=by
 cases x with
 |ofNat k=>have:=bH h;exact⟨by simp only[x6];omega,by simp only[x6];omega⟩| negSucc k=>have:=bH h;exact⟨by omega,by omega⟩
def agy(h:VT x=true):gb x:=by
 cases x with
 |ofNat k=>have:=bH h;exact⟨by simp,by simp;omega⟩| negSucc k=>cases h
def agz(h:okB x=true):0<=x/\x<256:=by
 cases x with
 |ofNat k=>have:=bH h;exact⟨by simp,by simp;omega⟩| negSucc k=>cases h
noncomputable def Ns:ao->Option Int
 | .i .u8 n=>bM (okB n) (some n) none| _=>none
noncomputable def Be:ao->Option Int
 | .i .u64 n=>bM (VT n) (some n) none| _=>none
noncomputable def Bf:ao->Option Int
 | .i .i64 n=>bM (VS n) (some n) none| _=>none
noncomputable def HH:ao->Option (List UInt8)
 | .s l=>bM (Nat.ble l.length 140737488355328) (some l) none| _=>none
section
variable{D:bz}{v:ao}{u:Value}
def agA{n:Int}(h:Ns v=some n)(ag:aH D v u):u=.int .u8 n/\0<=n/\n<256:=by
 unfold Ns at h;split at h
 ·obtain⟨aa,ad⟩:=e4 h;cases ad;simp only[aH]at ag;exact⟨ag,agz aa⟩
 ·cases h
def HI{n:Int}(h:Be v=some n)(ag:aH D v u):u=.int .u64 n/\gb n:=by
 unfold Be at h;split at h
 ·obtain⟨aa,ad⟩:=e4 h;cases ad;simp only[aH]at ag;exact⟨ag,agy aa⟩
 ·cases h
def HJ{n:Int}(h:Bf v=some n)(ag:aH D v u):u=.int .i64 n/\gy n:=by
 unfold Bf at h;split at h
 ·obtain⟨aa,ad⟩:=e4 h;cases ad;simp only[aH]at ag;exact⟨ag,agx aa⟩
 ·cases h
def VU{l:List UInt8}(h:HH v=some l)(ag:aH D v u):u=.string ⟨l.toArray⟩/\(⟨l.toArray⟩:ByteArray).size<=140737488355328:=by
 unfold HH at h;split at h
 ·obtain⟨aa,ad⟩:=e4 h;cases ad;simp only[aH]at ag;exact⟨ag,bH aa⟩
 ·cases h
end
noncomputable def D'{R:Type}(G:GT)(m:a8 eA)(x:ao)(size b:Nat)(K:List ao->Option R):Option R:=match x with
 | .sn=>K []| .so=>K []| .sl id off n c=>bM (Nat.ble n c) (bM (Nat.ble (Nat.mul n b) 140737488355328) (q' G m (.p id off) (Nat.mul n size) K) none) none| .sx id off e n=>bM (Nat.ble (Nat.mul n b) 140737488355328) (q' G m (.p id off) (Nat.mul n size) K) none| _=>none
noncomputable def ints:List ao->Option (List Int)
 |[]=>some []| v::l=>bh (Bf v) none λn=>bh (ints l) none λr=>some (n::r)
noncomputable def HK(G:GT)(m:a8 eA):List ao->Option (List pt)
 |[]=>some []
 |a::b::c::d::e::f::g::h::x::l=>bh (Ns a) none λa=>bh (Be b) none λb=>bh (Be c) none λc=>bh (Be d) none λd=>bh (Be e) none λe=>bh (HH f) none λf=>bh (Bf g) none λg=>bh (Bf h) none λh=>
  bh (D' G m x 1 8 ints) none λks=>bh (HK G m l) none λns=>some (⟨a,b,c,d,e,f,g,h,ks⟩::ns)
 |_=>none
noncomputable def Nt(G:GT)(m:a8 eA)(x r:ao):Option tM:=bh (D' G m x 9 96 (HK G m)) none λns=>bh (Bf r) none λr=>some ⟨ns,r⟩
noncomputable def HL(G:GT)(m:a8 eA):List ao->Option (List hq)
 |[]=>some []| a::x::r::l=>bh (HH a) none λa=>bh (Nt G m x r) none λt=>bh (HL G m l) none λds=>some (⟨a,t⟩::ds)
 |_=>none
noncomputable def Nu(G:GT)(m:a8 eA):ao->Option (List hq)
 | .a [x]=>D' G m x 3 48 (HL G m)| _=>none
section
variable{Y:fJ}{D:bz}{m:be}{I J:aM}{M:List aE}
def Nv{R:Type}(h:cE Y D m I M)(bL:sv I M J){x:ao}(ab:aH D x u){K:List ao->Option R}{r:R}(af:D' Y.G m.t x size b K=some r) :
  ∃ a n c l vs,u=.slice a n c/\dZ J a n c size b vs/\bx D l vs/\K l=some r:=by
 unfold D' at af;split at af
 ·simp only[aH]at ab;exact⟨none,0,0,[],[],ab,⟨by simp,⟨cI _,by omega⟩,.inl rfl⟩,by simp[bx],af⟩
 ·simp only[aH]at ab;obtain⟨a,c,ab⟩:=ab;exact⟨some a,0,c,[],[],ab,⟨by simp,⟨dO _,by omega⟩,.inl rfl⟩,by simp[bx],af⟩
 ·rename_i id off n c;obtain⟨aa,af⟩:=e4 af;obtain⟨ad,af⟩:=e4 af;simp only[aH]at ab;obtain⟨a,aY,ab⟩:=ab;obtain⟨aV,l,vs,aA,a0,bY,dE⟩:=tv h (x:=.p id off) (u:=.pointer (some ⟨a.b,a.o+off,none⟩)) (by simp only[aH];exact⟨a,aY,rfl⟩) af;cases aA;obtain⟨a1,cs,T,f,ba,b4,gx⟩:=a0;exact⟨_,n,c,l,vs,ab,⟨gx,⟨bH aa,bH ad⟩,.inr ⟨_,rfl,rfl,cs,T,f,bL.aT _ _ ba,b4⟩⟩,bY,dE⟩
 ·rename_i id off e n;obtain⟨ad,af⟩:=e4 af;simp only[aH]at ab;obtain⟨a,aY,au,ab⟩:=ab;obtain⟨aV,l,vs,aA,a0,bY,dE⟩:=tv h (x:=.p id off) (u:=.pointer (some ⟨a.b,a.o+off,none⟩)) (by simp only[aH];exact⟨a,aY,rfl⟩) af;cases aA;obtain⟨a1,cs,T,f,ba,b4,gx⟩:=a0;exact⟨_,n,a.c-e,l,vs,ab,⟨gx,⟨by omega,bH ad⟩,.inr ⟨_,rfl,rfl,cs,T,f,bL.aT _ _ ba,b4⟩⟩,bY,dE⟩
 ·cases af
def VV:∀ {l:List ao} {vs:List Value} {ks:List Int},ints l=some ks->bx D l vs->vs=ks.map (Value.int .i64 ·)/\∀ x∈ks,gy x
 |[],vs,ks,h,ag=>by cases h;simp only[bx]at ag;exact⟨ag,by simp⟩
 |v::l,vs,ks,h,ag=>by unfold ints at h;obtain⟨n,aa,h⟩:=bW h;obtain⟨r,ad,h⟩:=bW h;cases h;simp only[bx]at ag;obtain⟨x,xs,a1,ba,rfl⟩:=ag;obtain⟨rfl,aA⟩:=HJ aa a1;obtain⟨rfl,a0⟩:=VV ad ba;exact⟨rfl,λx ab=>(dW.1 ab).elim (λe=>e ▸ aA) (a0 x)⟩
def VW(h:cE Y D m I M)(bL:sv I M J):∀ (l:List ao) {vs:List Value} {cs:List pt},HK Y.G m.t l=some cs->bx D l vs->∃ ns:List an,vs=ns.flatMap an.cells/\vc cs ns/\∀ d∈ns,d.ok J
 |[],vs,cs,af,ag=>by cases af;simp only[bx]at ag;exact⟨[],ag,.nil,by simp⟩
 |a::b::c::d::e::f::g::i::x::l,vs,cs,af,ag=>by
  unfold HK at af;obtain⟨bF,aa,af⟩:=bW af;obtain⟨ij,ad,af⟩:=bW af;obtain⟨c',al,af⟩:=bW af;obtain⟨h',aL,af⟩:=bW af;obtain⟨cM,bG,af⟩:=bW af;obtain⟨n4,cr,af⟩:=bW af;obtain⟨cN,eM,af⟩:=bW af;obtain⟨fK,fo,af⟩:=bW af;obtain⟨ks,fj,af⟩:=bW af;obtain⟨pw,rP,af⟩:=bW af;cases af;simp only[bx]at ag;obtain⟨_,_,dS,⟨_,_,ch,⟨_,_,gI,⟨_,_,lB,⟨_,_,MP,⟨_,_,agB,⟨_,_,agC,⟨_,_,agD,⟨_,_,agE,agF,rfl⟩,rfl⟩,rfl⟩,rfl⟩,rfl⟩,rfl⟩,rfl⟩,rfl⟩,rfl⟩:=ag;obtain⟨rfl,aA⟩:=agA aa dS;obtain⟨rfl,a0⟩:=HI ad ch;obtain⟨rfl,bY⟩:=HI al gI;obtain⟨rfl,dE⟩:=HI aL lB;obtain⟨rfl,kY⟩:=HI bG MP;obtain⟨rfl,k6⟩:=VU cr agB;obtain⟨rfl,A1⟩:=HJ eM agC;obtain⟨rfl,DQ⟩:=HJ fo agD;obtain⟨cW,aT,c5,li,amc,rfl,tC,agG,agH⟩:=Nv h bL agE fj;obtain⟨rfl,agI⟩:=VV agH agG;obtain⟨ns,rfl,agJ,agK⟩:=VW h bL l rP agF;refine⟨pt.bX ⟨bF,ij,c',h',cM,n4,cN,fK,ks⟩ cW aT c5::ns,rfl,.cons cW aT c5 agJ,λy aD=>?_⟩;rcases dW.1 aD with rfl | aD;·exact⟨aA,a0,bY,dE,kY,lj k6 (by decide),A1,DQ,tC,agI⟩
  ·exact agK y aD
def agL(h:cE Y D m I M)(bL:sv I M J){x r:ao}{w:Value}{c:tM}(af:Nt Y.G m.t x r=some c)(ab:aH D x u)(hw:aH D r w):∃ t:bw,u=.slice t.a t.n t.c/\w=.int .i64 t.bm/\t.ok J/\D9 c t:=by unfold Nt at af;obtain⟨ns,aa,af⟩:=bW af;obtain⟨k,ad,af⟩:=bW af;cases af;obtain⟨rfl,aA⟩:=HJ ad hw;obtain⟨a,n,c,l,vs,rfl,a0,bY,dE⟩:=Nv h bL ab aa;obtain⟨ds,rfl,kY,k6⟩:=VW h bL l dE bY;exact⟨⟨ds,a,n,c,k⟩,rfl,rfl,⟨a0,k6,aA⟩,⟨kY,rfl⟩⟩
def VX(h:cE Y D m I M)(bL:sv I M J):∀ (l:List ao) {vs:List Value} {cs:List hq},HL Y.G m.t l=some cs->bx D l vs->∃ ds:List a2,vs=ds.flatMap a2.cells/\pu cs ds/\∀ d∈ds,d.ok J
 |[],vs,cs,af,ag=>by cases af;simp only[bx]at ag;exact⟨[],ag,.nil,by simp⟩
 |a::x::r::l,vs,cs,af,ag=>by
  unfold HL at af;obtain⟨bF,aa,af⟩:=bW af;obtain⟨bj,ad,af⟩:=bW af;obtain⟨ds',al,af⟩:=bW af;cases af;simp only[bx]at ag;obtain⟨_,_,dS,⟨_,_,ch,⟨_,_,gI,lB,rfl⟩,rfl⟩,rfl⟩:=ag;obtain⟨rfl,aA⟩:=VU aa dS;obtain⟨t,rfl,rfl,a0,bY⟩:=agL h bL ad ch gI;obtain⟨ds,rfl,dE,kY⟩:=VX h bL l al lB;refine⟨⟨⟨bF.toArray⟩,t⟩::ds,rfl,.cons (c:=⟨bF,bj⟩) bY dE,λy aD=>?_⟩;rcases dW.1 aD with rfl | aD;·exact⟨aA,a0⟩
  ·exact kY y aD
def agM(h:cE Y D m I M)(bL:sv I M J){x:ao}{cs:List hq}(af:Nu Y.G m.t x=some cs)(ab:aH D x u):∃ g:eo,u=g.val/\g.ok J/\pu cs g.ds:=by
 unfold Nu at af;split at af
 ·simp only[aH,bx]at ab;obtain⟨_,⟨y,_,ab,rfl,rfl⟩,rfl⟩:=ab;obtain⟨a,n,c,l,vs,rfl,a0,bY,dE⟩:=Nv h bL ab af;obtain⟨ds,rfl,kY,k6⟩:=VX h bL l dE bY;exact⟨⟨ds,a,n,c⟩,rfl,⟨a0,k6⟩,kY⟩
 ·cases af
end
noncomputable def tN(f g:Nat)(text:List UInt8):Option (List hq×Int×IntKind×Int):=bh (wJ u' (ku u' f) g [.s text] ⟨.nil,0⟩) none λp=>match p.1 with
 | .t [x,.i .i64 a,.i k e]=>bh (Nu Hu p.2.t x) none λc=>some (c,a,k,e)
 |_=>none
def agN(bl:gg I lJ){g:Nat}{text:List UInt8}{c:List hq}{a:Int}{k:IntKind}{e:Int}(h:tN f g text=some (c,a,k,e)) :
  Spec Tryz.prog g [.string ⟨text.toArray⟩] I [] λr J jS=>jS=[]/\(∀ b o,I b=some o->J b=some o)/\∃ G:eo,r=.tuple #[G.val,.int .i64 a,.int k e]/\G.ok J/\pu c G.ds:=by
 unfold tN at h;obtain⟨⟨v,m'⟩,aa,h⟩:=bW h;refine Spec.lT (afL bl aa (us:=[.string ⟨text.toArray⟩]) (by simp[bx,aH])) ?_;rintro r J jS⟨rfl,bg,I',M',bk,ag,hm,bL⟩;refine⟨rfl,bg,?_⟩;simp only at h;split at h
 ·obtain⟨c',ad,h⟩:=bW h;cases h;simp only[aH,bx]at ag;obtain⟨_,⟨u,_,hu,⟨_,_,rfl,⟨_,_,rfl,rfl,rfl⟩,rfl⟩,rfl⟩,rfl⟩:=ag;obtain⟨G,rfl,a1,ba⟩:=agM hm bL ad hu;exact⟨G,rfl,a1,ba⟩
 ·cases h
def pt.pl(c:pt):an:=c.bX none 0 0
def tM.vd(c:tM):bw:=⟨c.ns.map pt.pl,none,c.ns.length,0,c.bm⟩
def hq.Nw(c:hq):a2:=⟨⟨c.name.toArray⟩,c.t.vd⟩
def px(cs:List hq):eo:=⟨cs.map hq.Nw,none,cs.length,0⟩
def vc.a6{cs:List pt}{ns:List an}(h:vc cs ns):ns.map an.a6=cs.map pt.pl:=by
 induction h with
 |nil=>rfl| cons a n k t aR=>rw[cc,cc,aR];rfl
def vc.len{cs:List pt}{ns:List an}(h:vc cs ns):ns.length=cs.length:=by
 induction h with
 |nil=>rfl| cons a n k t aR=>simp[aR]
def D9.a6{c:tM}(h:D9 c t)(aw:t.ok I):t.a6=c.vd:=by unfold bw.a6 tM.vd;rw[h.ns.a6,h.bm,<-aw.n,h.ns.len]
def pu.a6{cs:List hq}{ds:List a2}(h:pu cs ds)(aj:∀ d∈ds,d.ok I):ds.map a2.a6=cs.map hq.Nw:=by
 induction h with
 |nil=>rfl| cons h k aR=>rw[cc,cc,aR λd eJ=>aj d (.tail _ eJ)];congr 1;unfold a2.a6 hq.Nw;rw[h.a6 (aj _ (.head _)).t]
def pu.len{cs:List hq}{ds:List a2}(h:pu cs ds):ds.length=cs.length:=by
 induction h with
 |nil=>rfl| cons h k aR=>simp[aR]
def VY{cs:List hq}(h:pu cs g.ds)(ax:g.ok I):g.a6=px cs:=by unfold eo.a6 px;rw[h.a6 ax.ds,<-ax.n,h.len]
def agO(c:tM):Bool:=c.ns.all λn=>decide (n.ap.length<=1000)
def agP{c:tM}(h:D9 c t)(aw:t.ok I)(ae:agO c=true):rf t:=λn aJ=>by
 have aa:=(aw.ns n aJ).aT;have ad:n.a6∈c.ns.map pt.pl:=by rw[<-h.ns.a6];exact cG.2 ⟨n,aJ,rfl⟩
 obtain⟨x,ab,e⟩:=cG.1 ad;have al:=dV (fL.1 ae x ab);have aL:x.ap=n.ap:=congrArg an.ap e;rw[aL]at al;omega
def agQ{cs:List hq}{ds:List a2}(h:pu cs ds)(aj:∀ d∈ds,d.ok I)(ae:(cs.all λd=>d.t.ns.all λn=>decide (n.ap.length<=1000))=true):∀ d∈ds,rf d.t:=by
 induction h with
 |nil=>intro d aj;cases aj
 |cons h k aR=>
  simp only[tT,b']at ae;intro d hm;rcases dW.1 hm with rfl | hm;·exact agP h (aj _ (.head _)).t ae.1
  ·exact aR (λd eJ=>aj d (.tail _ eJ)) (by simpa using ae.2) d hm
def Nx(ds:List a2)(F:List aI)(i:Nat):ia (ds.map a2.a6) F i=ia ds F i:=by
 unfold ia;rw[mr,Aq];cases ds[i]? with
 |none=>rfl| some d=>show(ff (bp ds) F (d.t.ns.map an.a6) d.t.bm).2=_;rw[acD]
def agR(ds:List a2)(F:List aI)(i:Nat):nF (ds.map a2.a6) F i=nF ds F i:=by
 unfold nF;rw[mr,Aq];cases ds[i]? with
 |none=>rfl| some d=>show(m3 (bp ds) F (d.t.ns.map an.a6) d.t.bm).2=_;rw[agf]
def agS(ds:List a2)(F:List aI):nE (ds.map a2.a6) F=nE ds F:=by funext i;unfold nE;rw[bO,Nx]
def Ny(ds:List a2)(F:List aI):nG (ds.map a2.a6) F=nG ds F:=by unfold nG;rw[bO];exact BY λi _=>agR ds F i
def agT(ds:List a2)(F:List aI):za (ds.map a2.a6) F=za ds F:=by unfold za;rw[bO,agS]
def VZ{ds:List a2}{l:List aI}(h:iv (ds.map a2.a6) l):iv ds l:=by
 refine⟨by rw[h.len,bO],λi hi=>?_,λm hm au=>?_⟩
 ·have:=h.fix i (by simpa using hi);rwa [Aq,hN,Gq]at this
 ·refine h.least m (by rw[hm,bO]) λi hi=>?_;rw[Aq,hN,Gq];exact au i (by simpa using hi)
def Nz(ds:List a2)(F:List aI):Int×Int:=bif decide (0<(za ds F).length)then((((za ds F).headD 0:Nat):Int),42)else bif decide (0<(nG ds F).length)then((((nG ds F).headD 0:Nat):Int),43)else(0,0)
structure HM(cs:List hq)(F:List aI):Prop where
 may:eH lJ (px cs)=0
 Ea:iv (px cs).ds F
 Kr:(cs.all λd=>d.t.ns.all λn=>decide (n.ap.length<=1000))=true
def HM.of{cs:List hq}{F:List aI}(eB:HM cs F)(ax:g.ok I)(aX:pu cs g.ds):eH lJ g=0/\iv g.ds F/\(∀ d∈g.ds,rf d.t):=by
 have dJ:=VY aX ax;have e2:g.ds.map a2.a6=(px cs).ds:=congrArg eo.ds dJ;have hm:eH lJ g=0:=by rw[<-acq,dJ];exact eB.may
 refine⟨hm,?_,agQ aX ax.ds eB.Kr⟩;have:=eB.Ea;rw[<-e2]at this;exact VZ this
def V0{cs:List hq}{F:List aI}(eB:HM cs F)(ax:g.ok I)(aX:pu cs g.ds){r:Int×Int}(h:tL lJ g r):r=Nz (px cs).ds F:=by
 obtain⟨hm,bf,-⟩:=eB.of ax aX;have e2:g.ds.map a2.a6=(px cs).ds:=congrArg eo.ds (VY aX ax);have a3:=Gm ax.n hm;rcases h with⟨a,-⟩ | ⟨-,F',my,rfl⟩
 ·exact absurd hm a
 ·obtain rfl:=bf.unique my;rw[<-e2,Nz,agT,Ny,agu a3];by_cases aa:0<(pq g.ds F).length
  ·rw[ck aa,h6 aa,bZ]
  ·rw[ca aa,eU aa,b0];by_cases ad:0<(nG g.ds F).length
   ·rw[ck ad,h6 ad,bZ]
   ·rw[ca ad,eU ad,b0]
def Eb(ds:List a2):Nat->List aI->List aI
 |0,L=>L| k+1,L=>Eb ds k (ds.map (hh (bp ds) L))
def V1{ds:List a2}:∀ (k:Nat) {L:List aI},mV ds L->ds.map (hh (bp ds) (Eb ds k L))=Eb ds k L->iv ds (Eb ds k L)
 |0,L,aO,h=>by refine⟨aO.len,λi hi=>?_,aO.least⟩;have:=HC (f:=hh (bp ds) L) hi;have aa:ds.map (hh (bp ds) L)=L:=h;rw[aa]at this;exact this
 |k+1,L,aO,h=>V1 k aO.all.1 h
def ve(cs:List hq)(k:Nat):List aI:=Eb (px cs).ds k (List.replicate (px cs).ds.length bK)
def NA(cs:List hq)(F:List aI)(k:Nat):Bool:=decide (eH lJ (px cs)=0)&&(decide (ve cs k=F)&&(decide ((px cs).ds.map (hh (bp (px cs).ds) F)=F)&&cs.all λd=>d.t.ns.all λn=>decide (n.ap.length<=1000)))
def agU{cs:List hq}{F:List aI}{k:Nat}(h:NA cs F k=true):HM cs F:=by simp only[NA,b',hk]at h;obtain⟨aa,ad,al,aL⟩:=h;refine⟨aa,?_,by simpa using aL⟩;have:=V1 k (mV.start (px cs).ds);unfold ve at ad;rw[ad]at this;exact this al
def w8(c:List UInt8×Int×Int):Prop:=∀ {I:aM} (bl:gg I lJ),Spec Tryz.prog 56 [.string ⟨c.1.toArray⟩,.int .i64 c.2.1,.int .i64 c.2.2] I [] λv J jS=>v=.bool true/\(∀ b o,I b=some o->J b=some o)/\jS=[]
def zb{agV:Nat}{s:List UInt8}{cs:List hq}{cf:Int}(agW:tN agV 71 s=some (cs,cf,.i64,0)){F:List aI}{k:Nat}(au:NA cs F k=true){gA kp:Int}(af:Nz (px cs).ds F=(gA,kp)):w8 (s,gA,kp):=by intro I bl;have eB:=agU au;refine cp [] a4 Tryz.func56 rfl rfl rfl ?_;intro B ay;refine bd.mk [] [] _ (.refl _) (agN bl agW) ?_;rintro v iW N -⟨rfl,fC,g,rfl,ax,aX⟩;have o7:=bl.mono fC;obtain⟨hm,bf,g7⟩:=eB.of ax aX;refine bd.whole _ (agv o7 ax g7) ?_;rintro v fp N -⟨eQ,gq,r,rfl,hw⟩;obtain rfl:r=(gA,kp):=(V0 eB ax aX hw).trans af;refine cP.mk (λ_=>?_) (λh=>absurd h (by simp));refine cP.mk (λ_=>?_) (λh=>absurd h (by simp));refine cP.mk (λ_=>?_) (λh=>absurd h (by simp));refine bd.whole _ (agw (o7.mono eQ) (ax.mono eQ) g7) ?_;rintro v lU VL -⟨kw,agX,xP,rfl,Cj⟩;obtain rfl:xP=(gA,kp):=(V0 eB (ax.mono eQ) aX Cj).trans af;exact⟨_,_,.refl,by simp,λb o h=>kw _ _ (eQ _ _ (fC _ _ h)),by rw[agX,gq];rfl⟩
def V2:List hq:=[⟨[97],⟨[⟨3,0,0,0,0,[97],0,0,[]⟩,⟨2,0,0,0,0,[120],0,0,[]⟩,⟨4,0,0,0,0,[],0,0,[0,1]⟩,⟨2,0,0,0,0,[121],0,0,[]⟩,⟨5,0,0,0,0,[],0,0,[2,3]⟩],4⟩⟩]
def agY:tN 100000 71 [97,32,60,45,32,97,32,34,120,34,32,47,32,34,121,34]=some (V2,0,.i64,0):=by kernel_rfl
def agZ:w8 ([97,32,60,45,32,97,32,34,120,34,32,47,32,34,121,34],0,42):=zb agY (F:=ve V2 4) (k:=4) (by kernel_rfl) (by kernel_rfl)
def V3:List hq:=[⟨[97],⟨[⟨3,0,0,0,0,[98],0,0,[]⟩],0⟩⟩,⟨[98],⟨[⟨2,0,0,0,0,[120],0,0,[]⟩,⟨6,0,0,0,0,[],0,1,[0]⟩,⟨3,0,0,0,0,[97],0,0,[]⟩,⟨4,0,0,0,0,[],0,0,[1,2]⟩],3⟩⟩]
def ag0:tN 100000 71 [97,32,60,45,32,98,32,98,32,60,45,32,34,120,34,63,32,97]=some (V3,0,.i64,0):=by kernel_rfl
def ag1:w8 ([97,32,60,45,32,98,32,98,32,60,45,32,34,120,34,63,32,97],0,42):=zb ag0 (F:=ve V3 4) (k:=4) (by kernel_rfl) (by kernel_rfl)
def V4:List hq:=[⟨[97],⟨[⟨3,0,0,0,0,[98],0,0,[]⟩],0⟩⟩,⟨[98],⟨[⟨2,0,0,0,0,[120],0,0,[]⟩,⟨3,0,0,0,0,[97],0,0,[]⟩,⟨4,0,0,0,0,[],0,0,[0,1]⟩],2⟩⟩]
def ag2:tN 100000 71 [97,32,60,45,32,98,32,98,32,60,45,32,34,120,34,32,97]=some (V4,0,.i64,0):=by kernel_rfl
def ag3:w8 ([97,32,60,45,32,98,32,98,32,60,45,32,34,120,34,32,97],0,0):=zb ag2 (F:=ve V4 4) (k:=4) (by kernel_rfl) (by kernel_rfl)
def V5:List hq:=[⟨[97],⟨[⟨2,0,0,0,0,[120],0,0,[]⟩,⟨6,0,0,0,0,[],0,1,[0]⟩,⟨6,0,0,0,0,[],0,(-1),[1]⟩],2⟩⟩]
def ag4:tN 100000 71 [97,32,60,45,32,40,34,120,34,63,41,42]=some (V5,0,.i64,0):=by kernel_rfl
def ag5:w8 ([97,32,60,45,32,40,34,120,34,63,41,42],0,43):=zb ag4 (F:=ve V5 4) (k:=4) (by kernel_rfl) (by kernel_rfl)
def V6:List hq:=[⟨[97],⟨[⟨2,0,0,0,0,[120],0,0,[]⟩,⟨6,0,0,0,0,[],0,1,[0]⟩,⟨6,0,0,0,0,[],0,9,[1]⟩],2⟩⟩]
def ag6:tN 100000 71 [97,32,60,45,32,40,34,120,34,63,41,123,48,44,57,125]=some (V6,0,.i64,0):=by kernel_rfl
def ag7:w8 ([97,32,60,45,32,40,34,120,34,63,41,123,48,44,57,125],0,0):=zb ag6 (F:=ve V6 4) (k:=4) (by kernel_rfl) (by kernel_rfl)
def V7:List hq:=[⟨[97],⟨[⟨3,0,0,0,0,[97],0,0,[]⟩,⟨8,0,0,0,0,[],0,0,[0]⟩,⟨2,0,0,0,0,[120],0,0,[]⟩,⟨4,0,0,0,0,[],0,0,[1,2]⟩],3⟩⟩]
def ag8:tN 100000 71 [97,32,60,45,32,33,97,32,34,120,34]=some (V7,0,.i64,0):=by kernel_rfl
def ag9:w8 ([97,32,60,45,32,33,97,32,34,120,34],0,42):=zb ag8 (F:=ve V7 4) (k:=4) (by kernel_rfl) (by kernel_rfl)
def V8:List hq:=[⟨[97],⟨[⟨2,0,0,0,0,[120],0,0,[]⟩,⟨3,0,0,0,0,[97],0,0,[]⟩,⟨4,0,0,0,0,[],0,0,[0,1]⟩,⟨0,0,0,0,0,[],0,0,[]⟩,⟨5,0,0,0,0,[],0,0,[2,3]⟩],4⟩⟩]
def aha:tN 100000 71 [97,32,60,45,32,34,120,34,32,97,32,47,32,34,34]=some (V8,0,.i64,0):=by kernel_rfl
def ahb:w8 ([97,32,60,45,32,34,120,34,32,97,32,47,32,34,34],0,0):=zb aha (F:=ve V8 4) (k:=4) (by kernel_rfl) (by kernel_rfl)
def V9(bl:gg I lJ):Spec Tryz.prog 12 [] I [] λv J jS=>v=.bool true/\(∀ b o,I b=some o->J b=some o)/\jS=[]:=by refine cp [] a4 Tryz.func12 rfl rfl rfl ?_;intro B ay;refine bd.mk [] [] _ (.refl _) (agZ bl) ?_;rintro v cT M1 -⟨rfl,dg,rfl⟩;have o7:=bl.mono dg;refine cP.mk (λ_=>?_) (λh=>by cases h);refine bd.mk [] [] _ (.refl _) (ag1 o7) ?_;rintro v eE dB -⟨rfl,gd,rfl⟩;have jZ:=o7.mono gd;refine cP.mk (λ_=>?_) (λh=>by cases h);refine bd.mk [] [] _ (.refl _) (ag3 jZ) ?_;rintro v ki s9 -⟨rfl,l8,rfl⟩;have Bg:=jZ.mono l8;refine cP.mk (λ_=>?_) (λh=>by cases h);refine bd.mk [] [] _ (.refl _) (ag5 Bg) ?_;rintro v qJ pP -⟨rfl,NB,rfl⟩;have HN:=Bg.mono NB;refine cP.mk (λ_=>?_) (λh=>by cases h);refine bd.mk [] [] _ (.refl _) (ag7 HN) ?_;rintro v z7 oX -⟨rfl,NC,rfl⟩;have Bh:=HN.mono NC;refine cP.mk (λ_=>?_) (λh=>by cases h);refine bd.mk [] [] _ (.refl _) (ag9 Bh) ?_;rintro v JY JZ -⟨rfl,V',rfl⟩;have Wa:=Bh.mono V';refine cP.mk (λ_=>?_) (λh=>by cases h);refine bd.mk [] [] _ (.refl _) (ahb Wa) ?_;rintro v z8 z9 -⟨rfl,Wb,rfl⟩;have amd:=Wa.mono Wb;exact⟨_,_,.refl,rfl,λb o h=>Wb _ _ (V' _ _ (NC _ _ (NB _ _ (l8 _ _ (gd _ _ (dg _ _ h)))))),rfl⟩
section
end
section
end
def tL.get(hm:eH aF g=0){r:Int×Int}(h:tL aF g r):r.2=0 ↔ (pq g.ds (HG g.ds)).length=0/\(nG g.ds (HG g.ds)).length=0:=by
 rcases h with⟨a,-⟩ | ⟨-,F,c,rfl⟩
 ·exact absurd hm a
 ·rw[Nq c];by_cases aa:0<(pq g.ds F).length
  ·rw[ck aa];simp only;omega
  ·rw[ca aa];by_cases ad:0<(nG g.ds F).length
   ·rw[ck ad];simp only;omega
   ·rw[ca ad];exact⟨λ_=>⟨by omega,by omega⟩,λ_=>rfl⟩
def ahc(bl:gg I aF)(aw:t.ok I)(af:right t=true)(eD:t.bm=(r:Int))(eh:r<t.ns.length):Spec Tryz.prog 32 [t.val] I M0 λv I' M'=>v=(t.ns[r].cA []).val/\I'=I/\M'=M0:=by refine cp [] a4 Tryz.func32 rfl rfl rfl ?_;intro B ay;have l9:=aw.n;obtain⟨aV,bU,bB⟩:=aw.bb.row an.da (show r<t.n by omega) eh;generalize t.ns[r]=d at bB;refine bd.mk [] M0 _ (.refl _) (rQ bl.c aw) ?_;rintro v J N -⟨rfl,rfl,rfl⟩;refine a9.mk (λh=>absurd h (by simp[af])) (λ_=>?_);refine bu.mk aV r bU eD (by omega) ?_;refine aZ.mk _ (bB _) ?_;exact⟨_,_,.refl,rfl,rfl,rfl⟩
def aU.iU{J:aM}(bf:sv I M J)(h:os.ok size xs)(a3:∀ x∈os.aq e,x∈M)(ah:os.n*b<=140737488355328):dZ J (os.a.map λg=>⟨g,0,none⟩) os.n os.c size b xs:=by
 obtain⟨a,n,c,aS⟩:=os;cases a with
 |none=>obtain⟨aa,ad⟩:=h.nil rfl;exact⟨h.len,⟨by simp only at aa ad |-;omega,ah⟩,.inl aa⟩
 |some g=>obtain⟨aa,ad,al,aL⟩:=h.cap g rfl;exact⟨h.len,⟨ad,ah⟩,.inr ⟨⟨g,0,none⟩,rfl,rfl,aS.toArray,e,(0,0),bf.aT _ _ (.inr ⟨⟨g,.cells aS.toArray e (0,0)⟩,a3 _ (.head _),rfl,rfl⟩),by simpa using aL⟩⟩
def dZ.w9{c:Nat}(h:dZ I a n c size b vs)(M:List aE)(ay:0<n):∃ aV,a=some aV/\c7 I M aV (n*size) vs:=by
 rcases h.rd with aa | ⟨aV,aa,ad,cs,T,ak,al,aL⟩
 ·omega
 ·exact⟨aV,aa,ad,cs,T,ak,.inl al,aL,h.len⟩
def Ec(l:List Int):fN (l.map (.int .i64 ·))=true:=fL.2 λv ag=>by obtain⟨k,_,rfl⟩:=cG.1 ag;rfl
def HO{f:α->List Value}(h:∀ x,fN (f x)=true)(l:List α):fN (l.flatMap f)=true:=fL.2 λv ag=>by obtain⟨x,_,ab⟩:=hg.1 ag;exact fL.1 (h x) v ab
def an.one(d:an):fN d.cells=true:=rfl
def a2.one(d:a2):fN d.cells=true:=rfl
def ahd{c:Nat}(h:dZ I a n c 1 8 vs)(aa:fN vs=true):Spec Tryz.prog 117 [.slice a n c] I M0 λv I' M'=>I'=I/\∃ os:aU,os.n=n/\os.ok 1 vs/\v=os.val/\M'=os.aq 3++M0:=by
 refine cp [] a4 Tryz.func117 rfl rfl rfl ?_;intro B ay;have iN:=h.cap;refine ft.Mf a4 rfl rfl ?_;refine a9.mk (λau=>?_) (λau=>?_)
 ·have aJ:n=0:=by
   rcases h.rd with ad | ⟨aV,ad,_⟩;·exact ad
   ·rw[ad]at au;cases au
  subst aJ;have al:vs=[]:=im (by rw[h.len,vH]);subst al;exact⟨_,_,.refl,rfl,jz,rfl,ob 1,rfl,rfl⟩
 refine cJ.mk λb ah uu=>?_;refine br.Au a4 rfl (by simp) (e:=3) rfl rfl rfl ⟨some b,0,0,[]⟩ (xs:=[]) ⟨rfl,(λh=>by cases h),(λg h=>⟨rfl,cI _,dO _,rfl⟩)⟩ rfl (sa:=a) (m:=n) (c':=c) (cq:=vs) rfl h.len (h.w9 _) aa [] M0 rfl (by simp only;omega) (by show(0+n)*8<=_;omega) ?_;intro os aJ bC bo;rw[jq]at bo;exact⟨_,_,.refl,rfl,os,aJ.trans (c9 n),bo,rfl,rfl⟩
def ahe{c:Nat}(h:dZ I a n c 1 8 vs)(aa:fN vs=true):Spec Tryz.prog 117 [.slice a n c] I M0 λv I' M'=>(∀ b o,I b=some o->I' b=some o)/\M'=M0/\∃ bF c',v=.slice bF n c'/\dZ I' bF n c' 1 8 vs:=by refine Spec.lT (Spec.frame (Spec.iU (ahd (M0:=[]) h aa))) ?_;rintro v J M⟨M',rfl,-,bL,rfl,-,I',M1,⟨rfl,os,rfl,cC,rfl,rfl⟩,bf⟩;have iN:=h.cap;exact⟨bL,rfl,_,_,rfl,aU.iU bf cC (λz a'=>h2 _ a') iN.2⟩
def ahf{c:Nat}(h:dZ I a n c 9 96 vs)(aa:fN vs=true):Spec Tryz.prog 116 [.slice a n c] I M0 λv I' M'=>I'=I/\∃ os:aU,os.n=n/\os.ok 9 vs/\v=os.val/\M'=os.aq 66++M0:=by
 refine cp [] a4 Tryz.func116 rfl rfl rfl ?_;intro B ay;have iN:=h.cap;refine ft.Mf a4 rfl rfl ?_;refine a9.mk (λau=>?_) (λau=>?_)
 ·have aJ:n=0:=by
   rcases h.rd with ad | ⟨aV,ad,_⟩;·exact ad
   ·rw[ad]at au;cases au
  subst aJ;have al:vs=[]:=im (by rw[h.len,vH]);subst al;exact⟨_,_,.refl,rfl,jz,rfl,ob 9,rfl,rfl⟩
 refine cJ.mk λb ah uu=>?_;refine br.Au a4 rfl (by simp) (e:=66) rfl rfl rfl ⟨some b,0,0,[]⟩ (xs:=[]) ⟨rfl,(λh=>by cases h),(λg h=>⟨rfl,cI _,dO _,rfl⟩)⟩ rfl (sa:=a) (m:=n) (c':=c) (cq:=vs) rfl h.len (h.w9 _) aa [] M0 rfl (by simp only;omega) (by show(0+n)*96<=_;omega) ?_;intro os aJ bC bo;rw[jq]at bo;exact⟨_,_,.refl,rfl,os,aJ.trans (c9 n),bo,rfl,rfl⟩
def ahg{c:Nat}(h:dZ I a n c 3 48 vs)(aa:fN vs=true):Spec Tryz.prog 115 [.slice a n c] I M0 λv I' M'=>I'=I/\∃ os:aU,os.n=n/\os.ok 3 vs/\v=os.val/\M'=os.aq 35++M0:=by
 refine cp [] a4 Tryz.func115 rfl rfl rfl ?_;intro B ay;have iN:=h.cap;refine ft.Mf a4 rfl rfl ?_;refine a9.mk (λau=>?_) (λau=>?_)
 ·have aJ:n=0:=by
   rcases h.rd with ad | ⟨aV,ad,_⟩;·exact ad
   ·rw[ad]at au;cases au
  subst aJ;have al:vs=[]:=im (by rw[h.len,vH]);subst al;exact⟨_,_,.refl,rfl,jz,rfl,ob 3,rfl,rfl⟩
 refine cJ.mk λb ah uu=>?_;refine br.Au a4 rfl (by simp) (e:=35) rfl rfl rfl ⟨some b,0,0,[]⟩ (xs:=[]) ⟨rfl,(λh=>by cases h),(λg h=>⟨rfl,cI _,dO _,rfl⟩)⟩ rfl (sa:=a) (m:=n) (c':=c) (cq:=vs) rfl h.len (h.w9 _) aa [] M0 rfl (by simp only;omega) (by show(0+n)*48<=_;omega) ?_;intro os aJ bC bo;rw[jq]at bo;exact⟨_,_,.refl,rfl,os,aJ.trans (c9 n),bo,rfl,rfl⟩
structure ahh(I:aM)(t:bw)(os0:aU)(x:Nat×aU×List an×aM):Prop where
 i:x.1<=t.n
 ok:x.2.1.ok 9 (x.2.2.1.flatMap an.cells)
 a6:x.2.2.1.map an.a6=t.ns.map an.a6
 ns:∀ d∈x.2.2.1,d.ok x.2.2.2
 le:∀ b o,I b=some o->x.2.2.2 b=some o
 a:x.2.1.a=os0.a
 v:x.2.1.val=os0.val
def ahi{i:Nat}(hi:i<L.length){d:an}(h:d.a6=L[i].a6):(L.set i d).map an.a6=L.map an.a6:=by
 rw[ug,h];refine vT λj=>?_;rw[kl];split
 ·rename_i e;subst e;rw[bO,ck hi,mr,dX hi];rfl
 ·rfl
def vf{bD:aU}(h:os.val=bD.val):os.n=bD.n/\os.c=bD.c:=by
 unfold aU.val at h;injection h with aa ad al
 exact⟨ad,al⟩
def ahj(aw:t.ok I):Spec Tryz.prog 64 [t.val] I [] λv I' M'=>(∀ b o,I b=some o->I' b=some o)/\∃ (os:aU) (L:List an),v=.agg #[os.val,.int .i64 t.bm]/\os.n=t.n/\os.ok 9 (L.flatMap an.cells)/\M'=os.aq 66/\L.map an.a6=t.ns.map an.a6/\∀ d∈L,d.ok I':=by
 refine cp [] a4 Tryz.func64 rfl rfl rfl ?_;intro B ay;have l9:=aw.n;have iN:=aw.bb.cap;refine bd.whole _ (ahf aw.bb (HO an.one _)) ?_;rintro v J N -⟨rfl,os0,ahk,xb,rfl,gq⟩;subst N;refine dI.inv (ι:=Nat×aU×List an×aM) (λx=>{ bn:=[(1,.ref 1 0),(2,.ref 2 0),(10,.val os0.val),(11,.val (.int .i64 os0.n)),(12,.val (.int .i64 x.1))],cl:=[(1,[os0.val,.int .i64 t.bm]),(2,[.slice none 0 0,.int .i64 0])],c2:=x.2.2.2,dx:=x.2.1.aq 66++[] }) (λx=>ahh J t os0 x) (λx=>t.n-x.1) ?_ ?_
 ·exact⟨(0,os0,t.ns,J),⟨dO _,xb,rfl,aw.ns,λ_ _ h=>h,rfl,rfl⟩,.refl,iJ,.cons rfl (.cons rfl (.nil))⟩
 rintro⟨i,os,L,K⟩⟨hi,cC,dJ,l1,bg,mg,j8⟩;simp only at hi cC dJ l1 bg mg j8;have ND:L.length=t.ns.length:=by simpa using congrArg List.length dJ
 obtain⟨h9,Wc⟩:=vf j8;refine a9.mk (λh=>?_) (λh=>?_)
 rotate_left
 ·exact⟨_,_,.refl,bg,os,L,by rw[j8];rfl,by omega,cC,by rw[ee],dJ,l1⟩
 have aW:i<t.n:=by have:(i:Int)<(os0.n:Int):=dV h;omega
 have j4:i<L.length:=by omega
 obtain⟨aV,bU,bB⟩:=aU.ok.row (I:=K) (M:=os.aq 66++[]) (e:=66) an.da (by decide) cC (λz a'=>h2 _ a') j4;have gZ:=l1 _ (b9 j4);have qk:=bU;rw[mg]at qk;refine bu.mk aV i qk rfl (by omega) ?_;refine aZ.mk _ bB ?_;refine dh.draw a4 rfl rfl rfl ?_;refine fv.whole _ (ahe gZ.bb (Ec _)) (λv I' M' h x ab=>by rw[h.2.1];exact ab) ?_;rintro v xd N -⟨vg,gq,bF,c',rfl,eu⟩;subst N;refine bu.mk aV i qk rfl (by omega) ?_;have eZ:({ L[i]with cW:=bF,c5:=c' }:an).ok xd:={ gZ.mono vg with bb:=eu };have NE:({ L[i]with cW:=bF,c5:=c' }:an).a6=L[i].a6:=rfl;have fR:=ahi j4 NE;refine aU.AT (e:=66) an.cells 9 an.da cC j4 8 (vs:=[.slice bF L[i].aT c']) (bH rfl) rfl { L[i]with cW:=bF,c5:=c' } rfl [] [] (by simp) bU ?_;intro hE kd lV lR hc;refine bi.mk _ (de (i:=i) (by omega)) ?_;refine⟨(i+1,hE,L.set i { L[i]with cW:=bF,c5:=c' },xd),⟨⟨aW,hc,fR.trans dJ,λd aj=>?_,λb o h=>vg _ _ (bg _ _ h),lV.trans mg,kd.trans j8⟩,by simp only;omega⟩,.refl,iJ,.cons rfl (.cons rfl (.nil))⟩;rcases w4 aj with aj | rfl
 ·exact(l1 _ aj).mono vg
 ·exact eZ
def Wd(aw:t.ok I):Spec Tryz.prog 64 [t.val] I M0 λv I' M'=>(∀ b o,I b=some o->I' b=some o)/\M'=M0/\∃ bj:bw,v=bj.val/\bj.ok I'/\bj.a6=t.a6:=by refine Spec.lT (Spec.frame (Spec.iU (ahj aw))) ?_;rintro v J M⟨M',rfl,-,bL,rfl,-,I',M1,⟨aa,os,L,rfl,aJ,cC,rfl,dJ,l1⟩,bf⟩;have iN:=aw.bb.cap;refine⟨bL,rfl,⟨L,os.a.map λg=>⟨g,0,none⟩,os.n,os.c,t.bm⟩,rfl,⟨aU.iU bf cC (λ_ h=>h) (by omega),λd aj=>(l1 d aj).mono bf.le,aw.bm⟩,?_⟩;unfold bw.a6;rw[dJ,aJ]
structure ahl(I:aM)(g:eo)(os0:aU)(x:Nat×aU×List a2×aM):Prop where
 i:x.1<=g.n
 ok:x.2.1.ok 3 (x.2.2.1.flatMap a2.cells)
 a6:x.2.2.1.map a2.a6=g.ds.map a2.a6
 ds:∀ d∈x.2.2.1,d.ok x.2.2.2
 le:∀ b o,I b=some o->x.2.2.2 b=some o
 a:x.2.1.a=os0.a
 v:x.2.1.val=os0.val
def ahm{L:List a2}{i:Nat}(hi:i<L.length){d:a2}(h:d.a6=L[i].a6):(L.set i d).map a2.a6=L.map a2.a6:=by
 rw[ug,h];refine vT λj=>?_;rw[kl];split
 ·rename_i e;subst e;rw[bO,ck hi,mr,dX hi];rfl
 ·rfl
def ahn(ax:g.ok I):Spec Tryz.prog 63 [g.val] I [] λv I' M'=>(∀ b o,I b=some o->I' b=some o)/\∃ (os:aU) (L:List a2),v=.agg #[os.val]/\os.n=g.n/\os.ok 3 (L.flatMap a2.cells)/\M'=os.aq 35/\L.map a2.a6=g.ds.map a2.a6/\∀ d∈L,d.ok I':=by
 refine cp [] a4 Tryz.func63 rfl rfl rfl ?_;intro B ay;have jw:=ax.n;have iN:=ax.bb.cap;refine bd.whole _ (ahg ax.bb (HO a2.one _)) ?_;rintro v J N -⟨rfl,os0,ahk,xb,rfl,gq⟩;subst N;refine dI.inv (ι:=Nat×aU×List a2×aM) (λx=>{ bn:=[(1,.ref 1 0),(2,.ref 2 0),(10,.val os0.val),(11,.val (.int .i64 os0.n)),(12,.val (.int .i64 x.1))],cl:=[(1,[os0.val]),(2,[.slice none 0 0])],c2:=x.2.2.2,dx:=x.2.1.aq 35++[] }) (λx=>ahl J g os0 x) (λx=>g.n-x.1) ?_ ?_
 ·exact⟨(0,os0,g.ds,J),⟨dO _,xb,rfl,ax.ds,λ_ _ h=>h,rfl,rfl⟩,.refl,iJ,.cons rfl (.cons rfl (.nil))⟩
 rintro⟨i,os,L,K⟩⟨hi,cC,dJ,e2,bg,mg,j8⟩;simp only at hi cC dJ e2 bg mg j8;have ND:L.length=g.ds.length:=by simpa using congrArg List.length dJ
 obtain⟨h9,Wc⟩:=vf j8;refine a9.mk (λh=>?_) (λh=>?_)
 rotate_left
 ·exact⟨_,_,.refl,bg,os,L,by rw[j8];rfl,by omega,cC,by rw[ee],dJ,e2⟩
 have aW:i<g.n:=by have:(i:Int)<(os0.n:Int):=dV h;omega
 have j4:i<L.length:=by omega
 obtain⟨aV,bU,bB⟩:=aU.ok.row (I:=K) (M:=os.aq 35++[]) (e:=35) a2.da (by decide) cC (λz a'=>h2 _ a') j4;have gZ:=e2 _ (b9 j4);have qk:=bU;rw[mg]at qk;refine bu.mk aV i qk rfl (by omega) ?_;refine aZ.mk _ bB ?_;refine dh.draw a4 rfl rfl rfl ?_;refine fv.whole _ (Wd gZ.t) (λv I' M' h x ab=>by rw[h.2.1];exact ab) ?_;rintro v xd N -⟨vg,gq,bj,rfl,hU,NF⟩;subst N;refine bu.mk aV i qk rfl (by omega) ?_;have eZ:(⟨L[i].name,bj⟩:a2).ok xd:=⟨gZ.name,hU⟩;have NE:(⟨L[i].name,bj⟩:a2).a6=L[i].a6:=by unfold a2.a6;rw[NF]
 have fR:=ahm j4 NE;refine aU.AT (e:=35) a2.cells 3 a2.da cC j4 1 (vs:=[.slice bj.a bj.n bj.c,.int .i64 bj.bm]) (bH rfl) rfl ⟨L[i].name,bj⟩ rfl [] [] (by simp) bU ?_;intro hE kd lV lR hc;refine bi.mk _ (de (i:=i) (by omega)) ?_;refine⟨(i+1,hE,L.set i ⟨L[i].name,bj⟩,xd),⟨⟨aW,hc,fR.trans dJ,λd aj=>?_,λb o h=>vg _ _ (bg _ _ h),lV.trans mg,kd.trans j8⟩,by simp only;omega⟩,.refl,iJ,.cons rfl (.cons rfl (.nil))⟩;rcases w4 aj with aj | rfl
 ·exact(e2 _ aj).mono vg
 ·exact eZ
def aho(ax:g.ok I):Spec Tryz.prog 63 [g.val] I M0 λv I' M'=>(∀ b o,I b=some o->I' b=some o)/\∃ (os:aU) (L:List a2),v=.agg #[os.val]/\os.n=g.n/\os.ok 3 (L.flatMap a2.cells)/\M'=os.aq 35++M0/\L.map a2.a6=g.ds.map a2.a6/\∀ d∈L,d.ok I':=by refine Spec.lT (Spec.frame (ahn ax)) ?_;rintro v J M⟨M',rfl,-,bL,aa,os,L,rfl,aJ,cC,rfl,dJ,e2⟩;exact⟨bL,os,L,rfl,aJ,cC,rfl,dJ,e2⟩
def ahp(f:α->List Value)(size:Nat)(az:∀ x,(f x).length=size)(l:List α)(j:Nat):(l.drop j).flatMap f=(l.flatMap f).drop (j*size):=by
 by_cases h:j<=l.length
 ·have e:l.flatMap f=(l.take j).flatMap f++(l.drop j).flatMap f:=by rw[<-gK,qM]
  have ad:((l.take j).flatMap f).length=j*size:=by rw[hM f size az,Gx h]
  rw[e,<-ad,K3]
 ·have aa:l.length<=j:=by omega
  rw[qe aa,qe (by rw[hM f size az];exact mq _ aa)];rfl
def ahq(ax:g.ok I){u:Nat}(hu:u<g.ds.length)(aJ:g.n<=1000000)(aw:t.ok I):Spec Tryz.prog 16 [g.val,.int .i64 u,t.val] I [] λv I' M'=>(∀ b o,I b=some o->I' b=some o)/\∃ (os:aU) (L:List a2),v=.tuple #[.agg #[os.val],.bool true]/\os.n=g.n/\os.ok 3 (L.flatMap a2.cells)/\M'=os.aq 35/\L.map a2.a6=(g.ds.set u ⟨g.ds[u].name,t⟩).map a2.a6/\∀ d∈L,d.ok I':=by
 refine cp [] a4 Tryz.func16 rfl rfl rfl ?_;intro B ay;have jw:=ax.n;refine cP.mk (λ_=>?_) (λh=>absurd h (by simp));refine a9.mk (λh=>?_) (λ_=>?_)
 ·have:(g.n:Int)<=(u:Int):=dV h;omega
 refine bd.whole _ (aho ax) ?_;rintro v J N -⟨bL,os,L,rfl,h9,cC,gq,dJ,e2⟩;subst N;have ND:L.length=g.ds.length:=by simpa using congrArg List.length dJ
 have HP:u<L.length:=by omega
 refine dh.draw a4 rfl rfl rfl ?_;refine fv.whole _ (Wd (aw.mono bL)) (λv I' M' h x ab=>by rw[h.2.1];exact ab) ?_;rintro v xd N -⟨vg,gq,bj,rfl,hU,NF⟩;subst N;obtain⟨aV,bU,bB⟩:=aU.ok.row (I:=xd) (M:=os.aq 35++[]) (e:=35) a2.da (by decide) cC (λz a'=>h2 _ a') HP;have mG:L[u].a6=g.ds[u].a6:=by
  have aa:(L.map a2.a6)[u]?=(g.ds.map a2.a6)[u]?:=by rw[dJ]
  rw[mr,mr,dX HP,dX hu]at aa;exact gO aa
 have nN:L[u].name=g.ds[u].name:=by have aa:L[u].a6.name=g.ds[u].a6.name:=congrArg a2.name mG;exact aa
 have eZ:(⟨L[u].name,bj⟩:a2).ok xd:=⟨(e2 _ (b9 HP)).name,hU⟩;refine bu.mk aV u bU rfl (show u<os.n by omega) ?_;refine aU.AT (e:=35) a2.cells 3 a2.da cC HP 1 (vs:=[.slice bj.a bj.n bj.c,.int .i64 bj.bm]) (bH rfl) rfl ⟨L[u].name,bj⟩ rfl [] [] (by simp) bU ?_;intro hE kd lV lR hc;refine⟨_,_,.refl,λb o h=>vg _ _ (bL _ _ h),hE,L.set u ⟨L[u].name,bj⟩,by rw[kd];rfl,by omega,hc,by simp,?_,λd aj=>?_⟩
 ·rw[ug,ug,dJ];congr 1;unfold a2.a6;rw[NF,nN]
 ·rcases w4 aj with aj | rfl
  ·exact(e2 _ aj).mono vg
  ·exact eZ
def ahr(ax:g.ok I){u:Nat}(hu:u<g.ds.length)(aJ:g.n<=1000000)(aw:t.ok I):Spec Tryz.prog 16 [g.val,.int .i64 u,t.val] I M0 λv I' M'=>(∀ b o,I b=some o->I' b=some o)/\M'=M0/\∃ h:eo,v=.tuple #[h.val,.bool true]/\h.ok I'/\h.n=g.n/\h.ds.map a2.a6=(g.ds.set u ⟨g.ds[u].name,t⟩).map a2.a6:=by refine Spec.lT (Spec.frame (Spec.iU (ahq ax hu aJ aw))) ?_;rintro v J M⟨M',rfl,-,bL,rfl,-,I',M1,⟨aa,os,L,rfl,h9,cC,rfl,dJ,e2⟩,bf⟩;exact⟨bL,rfl,⟨L,os.a.map λg=>⟨g,0,none⟩,os.n,os.c⟩,rfl,⟨aU.iU bf cC (λ_ h=>h) (by omega),λd aj=>(e2 d aj).mono bf.le⟩,h9,dJ⟩
def jD(z:Int):List Value:=[.int .i64 z]
def py:∀ l:List Int,l.flatMap jD=l.map (.int .i64 ·)
 |[]=>rfl| z::l=>by rw[jO,py l];rfl
structure ahs(eL:List Int)(I:aM)(os0:aU)(x:Nat×aU×List Int):Prop where
 i:2*x.1<=eL.length+1
 ok:x.2.1.ok 1 (x.2.2.flatMap jD)
 len:x.2.2.length=eL.length
 ec:∀ k,k<eL.length->x.2.2[k]?=if k<x.1\/eL.length<=k+x.1 then eL[eL.length-1-k]? else eL[k]?
 a:x.2.1.a=os0.a
 v:x.2.1.val=os0.val
def We{os0:aU}{eL:List Int}(xb:os0.ok 1 (eL.map (.int .i64 ·)))(ah:os0.n<=1099511627776):Spec Tryz.prog 114 [os0.val] I (os0.aq 3++M0) λv I' M'=>I'=I/\∃ bD:aU,bD.val=os0.val/\bD.ok 1 (eL.reverse.map (.int .i64 ·))/\M'=bD.aq 3++M0:=by
 refine cp [] a4 Tryz.func114 rfl rfl rfl ?_;intro B ay;have qc:=xb.oc;refine bi.mk ((eL.length:Int)-1) (by show IntKind.i64.wrap ((os0.n:Int)-1)=_;rw[wrap_i64 ⟨by omega,by omega⟩,qc]) ?_;refine dI.inv (ι:=Nat×aU×List Int) (λx=>{ bn:=[(0,.val os0.val),(2,.val (.int .i64 x.1)),(3,.val (.int .i64 ((eL.length:Int)-1-x.1)))],cl:=[],c2:=I,dx:=x.2.1.aq 3++M0 }) (λx=>ahs eL I os0 x) (λx=>eL.length-x.1) ?_ ?_
 ·refine⟨(0,os0,eL),⟨by simp,by rw[py];exact xb,rfl,λk ae=>?_,rfl,rfl⟩,.refl,.cons .refl (.cons .refl (.cons ?_ .nil)),.nil⟩
  ·simp only;rw[ca (by omega)]
  ·simp only[Int.ofNat_zero,Int.sub_zero];exact .refl
 rintro⟨i,os,l⟩⟨hi,cC,cu,lG,mg,j8⟩;simp only at hi cC cu lG mg j8;obtain⟨h9,Wc⟩:=vf j8;refine a9.mk (λh=>?_) (λh=>?_)
 rotate_left
 ·have cV:¬ (i:Int)<(eL.length:Int)-1-i:=eO h;refine⟨_,_,.refl,rfl,os,j8,?_,rfl⟩;have e:l=eL.reverse:=by
   refine vT λk=>?_;by_cases ae:k<eL.length
   ·rw[lG k ae,List.getElem?_reverse ae];split
    ·rfl
    ·congr 1;omega
   ·rw[pN (by omega),pN (by rw[y'];omega)]
  rw[<-e,<-py];exact cC
 have aW:(i:Int)<(eL.length:Int)-1-i:=dV h;obtain⟨j,ai⟩:∃ j:Nat,(eL.length:Int)-1-i=(j:Int):=⟨eL.length-1-i,by omega⟩;have ev:i<l.length:=by omega
 have fx:j<l.length:=by omega
 obtain⟨aV,bU,aht⟩:=aU.ok.row (I:=I) (M:=os.aq 3++M0) (e:=3) (f:=jD) (size:=1) (λ_=>rfl) (by decide) cC (λz a'=>h2 _ a') fx;obtain⟨Py,ahu,Ed⟩:=aU.ok.row (I:=I) (M:=os.aq 3++M0) (e:=3) (f:=jD) (size:=1) (λ_=>rfl) (by decide) cC (λz a'=>h2 _ a') ev;obtain rfl:aV=Py:=gO (bU.symm.trans ahu);have qk:=bU;rw[mg]at qk;have ame:l.length=os0.n:=by omega
 refine dh.draw a4 rfl rfl rfl ?_;refine bu.mk aV j qk ai (by omega) ?_;refine aZ.mk _ aht ?_;refine bu.mk aV i qk rfl (by omega) ?_;refine aZ.mk _ Ed ?_;refine bu.mk aV i qk rfl (by omega) ?_;refine aU.Dx jD 1 (λ_=>rfl) (e:=3) cC ev l[j] rfl [] M0 rfl bU ?_;intro hE kd lV lR hc;refine bu.mk aV j qk ai (by omega) ?_;refine aU.Dx jD 1 (λ_=>rfl) (e:=3) hc (show j<(l.set i l[j]).length by rw[uJ];exact fx) l[i] rfl [] M0 rfl (by rw[lV];exact bU) ?_;intro HQ CU NG ahv zM;refine bi.mk _ (de (i:=i) (by omega)) ?_;refine bi.mk ((eL.length:Int)-1-((i+1:Nat):Int)) (by rw[wrap_i64 ⟨by omega,by omega⟩];omega) ?_;refine⟨(i+1,HQ,(l.set i l[j]).set j l[i]),⟨⟨by simp only;omega,zM,by simp only[uJ];exact cu,λk ae=>?_,(NG.trans lV).trans mg,(CU.trans kd).trans j8⟩,by simp only;omega⟩,.refl,g1,.nil⟩;have ny:=lG i (by omega);have D4:=lG j (by omega);rw[ca (by omega),dX ev]at ny;rw[ca (by omega),dX fx]at D4;simp only;rw[kl,kl,uJ];by_cases aA:j=k
 ·subst aA;rw[ck rfl,ck fx,ck (by omega),ny];congr 1;omega
 ·rw[ca aA];by_cases a0:i=k
  ·subst a0;rw[ck rfl,ck ev,ck (by omega),D4];congr 1;omega
  ·rw[ca a0,lG k ae];by_cases bY:k<i\/eL.length<=k+i
   ·rw[ck bY,ck (by omega)]
   ·rw[ca bY,ca (by omega)]
def ahw(aw:t.ok I)(af:right t=true)(aJ:t.n<=1099511627776)(HR:node<t.n) :
  Spec Tryz.prog 135 [t.val,.int .i64 node] I M0 λv I' M'=>I'=I/\∃ os:aU,os.ok 1 ((yy t.ns node).reverse.map (.int .i64 ·))/\v=os.val/\os.n<=t.n/\valid t.ns.length (yy t.ns node).reverse/\M'=os.aq 3++M0:=by
 refine cp [] a4 Tryz.func135 rfl rfl rfl ?_;intro B ay;have l9:=aw.n;have amf:je t.ns node<=t.ns.length:=yx af t.ns.length node (by omega) (by omega);refine cJ.mk λb1 mH KH=>?_;refine dI.inv (ι:=aU×List Int×aU×List Int×Nat) (λx=>{ bn:=[(2,.ref 2 0),(5,.val x.2.2.1.val),(6,.val x.1.val)],cl:=[(2,t.cells)],c2:=I,dx:=x.2.2.1.aq 3++(x.1.aq 3++M0) }) (abF t node) (λx=>fz (je t.ns) x.2.1) ?_ ?_
 ·refine⟨(⟨some b1,1,1,[.int .i64 node]⟩,[(node:Int)],jz,[],t.ns.length+1),⟨⟨rfl,(λh=>by cases h),λcN jn=>⟨rfl,cI _,by simp[maxLen],rfl⟩⟩,ob 1,λk ae=>?_,(λk ae=>by cases ae),?_,?_,rfl⟩,.refl,g1,.cons rfl (.nil)⟩
  ·simp only[eK]at ae;omega
  ·simp[fz]
  ·simp only[fz,cc,h3,jb,zV];omega
 rintro⟨todo,NH,back,fA,f⟩⟨Bi,ri,HS,Bj,tO,NI,x'⟩;simp only at Bi ri HS Bj tO NI x';have l2:=ri.oc;have wa:=Bi.oc;refine a9.mk (λh=>?_) (λh=>?_)
 ·have Wf:0<todo.n:=by have:(0:Int)<(todo.n:Int):=dV h;omega
  obtain⟨m4,m,rfl⟩:∃ m4 m,NH=m4++[m]:=by
   rcases x5 NH with aa | ⟨r,p,aa⟩;·subst aa;simp at wa;omega
   ·exact⟨r,p,by simpa using aa⟩
  have hm:=HS m (by simp);obtain⟨m,rfl⟩:=eN hm.1;have kk:m<t.n:=by omega
  have o2:m<t.ns.length:=by omega
  have amg:todo.n=m4.length+1:=by simpa using wa
  have Wg:=wu af o2;rw[CZ]at tO NI;have fc:fz (je t.ns) [(m:Int)]=je t.ns m:=by simp[fz]
  rw[fc,Wg]at tO NI;have amh:m4.length<=fz (je t.ns) m4:=Gh af λk ae=>HS k (by simp[ae]);have ami:t.ns[m].ap.length<=fz (je t.ns) t.ns[m].ap:=Gh af λk ae=>by have:=jX af m o2 k ae;omega
  have NJ:m4.length+t.ns[m].ap.length<=t.ns.length:=by omega
  obtain⟨aV,bU,bB⟩:=aU.CV (I:=I) (e:=3) (M:=back.aq 3++(todo.aq 3++M0)) Bi (λx ab=>by simp[ab]) (j:=m4.length) (by simp);rw[List.getElem_concat_length rfl]at bB;have mi:=Bi;rw[dc]at mi;have mi:=aU.pop mi;have he:todo.n-1=m4.length:=by omega
  rw[he]at mi;have Ee:m4.length<=todo.c:=by
   cases xe:todo.a with
   |none=>have:=(Bi.nil xe).1;omega| some Ef=>have:=(Bi.cap Ef xe).2.1;omega
  obtain⟨qY,r5,kE⟩:=aw.bb.row an.da kk o2;have aj:=aw.ns _ (b9 o2);have e':=aj.aT;have q1:=aj.bb.cap;have gW:=jX af m o2;refine bi.mk ((m4.length:Nat):Int) (by show IntKind.i64.wrap ((todo.n:Int)-1)=_;rw[wrap_i64 ⟨by omega,by omega⟩];omega) ?_;refine bu.mk aV m4.length bU rfl (show m4.length<todo.n by omega) ?_;refine aZ.mk _ bB ?_;refine dh.draw a4 rfl rfl rfl ?_;refine bi.mk ((m4.length:Nat):Int) (by show IntKind.i64.wrap ((todo.n:Int)-1)=_;rw[wrap_i64 ⟨by omega,by omega⟩];omega) ?_;refine kA.mk 0 m4.length rfl rfl (dO _) Ee ?_;refine bu.mk qY m r5 rfl kk ?_;refine aZ.mk _ ((kE _).part (k:=8) (m:=1) (by decide)) ?_;have ahx:∀ M,0<t.ns[m].aT->∃ aV,t.ns[m].cW=some aV/\c7 I M aV (t.ns[m].aT*1) (t.ns[m].ap.map (.int .i64 ·)):=λM ay=>aj.bb.w9 M ay;refine br.Au a4 rfl (by simp) (e:=3) rfl rfl rfl ⟨todo.a,m4.length,todo.c,todo.aS⟩ mi rfl (sa:=t.ns[m].cW) (m:=t.ns[m].aT) (c':=t.ns[m].c5) (cq:=t.ns[m].ap.map (.int .i64 ·)) rfl (by rw[bO,e'];show _=t.ns[m].aT*1;omega) (ahx _) (Ec _) (back.aq 3) M0 rfl (by simp only;omega) (by show(m4.length+t.ns[m].aT)*8<=_;omega) ?_;intro sy ahy ahz lz;rw[<-dc]at lz;refine cJ.mk λcd iG Kd=>?_;refine br.lN a4 rfl (by simp) (e:=3) rfl rfl rfl back ri rfl (cs:=[.int .i64 m]) rfl rfl rfl [] (sy.aq 3++M0) rfl (by omega) (by show(back.n+1)*8<=_;omega) ?_;intro Wh amj amk NK;have NK:Wh.ok 1 ((fA++[(m:Int)]).map (.int .i64 ·)):=by rw[dc];exact NK
  refine⟨(sy,m4++t.ns[m].ap,Wh,fA++[(m:Int)],f-1),⟨⟨lz,NK,λk ae=>?_,λk ae=>?_,?_,?_,?_⟩,?_⟩,.refl,g1,.cons rfl (.nil)⟩
  ·rcases cO.1 ae with ae | ae
   ·exact HS k (by simp[ae])
   ·have:=gW k ae;omega
  ·rcases cO.1 ae with ae | ae
   ·exact Bj k ae
   ·simp only[eK]at ae;omega
  ·simp only[CZ,cL,ea,gL];omega
  ·simp only[CZ];omega
  ·obtain⟨n4,rfl⟩:∃ n4,f=n4+1:=⟨f-1,by omega⟩;rw[x',RG,kx,gf o2];rfl
  ·simp only;rw[CZ,CZ,fc,Wg];omega
 have ahA:NH=[]:=by have:¬ (0:Int)<(todo.n:Int):=eO h;exact im (by omega)
 subst ahA;rw[RF]at x';simp only[fz,h3,zV,c9]at tO;refine bd.whole _ (We (os0:=back) ri (by omega)) ?_;rintro v J N -⟨rfl,os,j8,cC,gq⟩;subst N;refine⟨_,os.aq 3++M0,.sub (.append (.refl _) (lr _ _)) .refl,rfl,os,by rw[x'];exact cC,j8.symm,?_,λk ae=>Bj k (by rw[x']at ae;exact Nb.1 ae),rfl⟩;have:=(vf j8).1;omega
section
variable{X:cB}{β:Nat->Nat}{F:Fr}{C:dp}{I:aM}{M:List aE}{o:Oper}{K:fD}
def br.NL(aG:cw X.P X.E){x y:Operand}{t:Nat}(aC:o.op=.call { callee:=.builtin .copy,args:=#[x,y],argTypes:=#[t,t] })(aj:∀ d,o.dst=some d->d<X.n)
 {c8 aB:dt} (aw:X.E t=some c8) (dQ:c8.bE=.slice e) (he:X.E e=some aB)
 {g c:Nat} {aS:List Value} (ab:bt F x=.val (.slice (some ⟨g,0,none⟩) n c)) (au:n*aB.size<=aS.length)
  {sa:Option Addr} {c':Nat} (aD:bt F y=.val (.slice sa n c')) {cq:List Value} (av:cq.length=n*aB.size) (aJ:0<n->∃ aV,sa=some aV/\c7 I M aV (n*aB.size) cq) (aa:fN cq=true)
  (a5 post:List aE) (a3:M=a5++⟨g,.cells aS.toArray e (0,0)⟩::post)
  (k:K (put o.dst (.val (.int .i64 n)) F) C I (a5++⟨g,.cells (bQ aS 0 cq).toArray e (0,0)⟩::post)):br X o F C I M K:=by
 refine⟨λa w Q ⟨β,aX⟩=>?_⟩;have hu:=Me aG aw dQ;obtain⟨inf,z,hi,fq,h0,ik,kC⟩:=(aG _ _ he).inf;have ax:w.heap[g]?=some (.cells aS.toArray e (0,0)):=aX.holds.m ⟨g,.cells aS.toArray e (0,0)⟩ (by rw[a3];simp);have hL:=run_storeCells_at X.P g 0 e cq 0 aS.toArray w ax (by rw[av];simpa using au) (xA aa);simp only[ms]at hL;have az:(Builtin.firstCells aB.size n (.slice sa n c')).run X.P w=.ok cq.toArray w:=by
  by_cases ay:0<n
  ·obtain⟨aV,rfl,cZ,cs,T,ak,e',ag,av⟩:=aJ ay;refine run_firstCells_some (P:=X.P) w aB.size n aV n c' cq av λj v ai=>?_;rw[dY _ cZ,sP (e'.heap aX.holds)];rw[<-ag,j']at ai;split at ai
   ·rw[na]at ai;simpa using ai
   ·cases ai
  ·have ad:n=0:=by omega
   subst ad;have al:cq=[]:=im (by rw[av,vH]);subst al;cases sa with
   |none=>simp[Builtin.firstCells]| some aV=>exact run_firstCells_some (P:=X.P) w aB.size 0 aV 0 c' [] (by simp) λj v ai=>by simp at ai
 have ex:=cS aX.ak ab;have mJ:=cS aX.ak aD;refine iE (by rw[aC];simp) (v:=.int .i64 n) (w':=w.setRow g (bQ aS 0 cq).toArray) ?_ ⟨_,_,_,_,⟨β,cg.put (x:=.val (.int .i64 n)) ?_ aj rfl⟩,k⟩
 ·have eT:(Builtin.copy_ #[t,t] o.type #[.slice (some ⟨g,0,none⟩) n c,.slice sa n c']).run X.P w=.ok (.int .i64 n) (w.setRow g (bQ aS 0 cq).toArray):=by rw[<-fq]at az;simp[Builtin.copy_,run_underlying hu,Builtin.lenOf,sizeOf,typeInfo,hi,az,hL,bQ,goInt]
  unfold execOp;simp only[aC,resolve,invoke,builtin,bV,cH,bN,sV,cc,h3,ex,mJ,eT]
 ·exact aX.vu a3
end
structure Wi(d:an)(dC:List Int)(y:Nat×aU×List Int):Prop where
 k:y.1<=d.aT
 ok:y.2.1.ok 1 (y.2.2.flatMap jD)
 n:y.2.1.n=d.aT
 eq:y.2.2=(d.ap.take y.1).map (λk=>dC.getD k.toNat 0)++d.ap.drop y.1
def ahB(aw:t.ok I)(af:right t=true)(aJ:t.n<=1099511627776)(HR:node<t.n) :
  Spec Tryz.prog 81 [t.val,.int .i64 node] I [] λv I' M'=>(∀ b o,I b=some o->I' b=some o)/\M'=[]/\∃ bj:bw,v=bj.val/\bj.ok I'/\sb t node bj:=by
 refine zz [] a4 Tryz.func81 rfl rfl rfl ?_;intro B ay;have l9:=aw.n;have iN:=aw.bb.cap;refine bd.mk [] [] _ (.refl _) (ahw (M0:=[]) aw af aJ HR) ?_;rintro v Eg N -⟨zx,back,ri,rfl,BP,Bj,rfl⟩;subst Eg;obtain⟨rb,la⟩:∃ rb,(yy t.ns node).reverse=rb:=⟨_,rfl⟩;rw[la]at ri Bj;have l2:=ri.oc;refine oB.mk t.n t.n rfl rfl (cI _) (by show 8*t.n<=_;omega) (by omega) ?_;refine cJ.mk λcz qW yl=>?_;refine oB.mk 0 back.n rfl rfl (dO _) (by show 96*back.n<=_;omega) (by omega) ?_;refine cJ.mk λb7 yB Gp=>?_;have tC:(rowOf [Value.int .i64 0] (t.n*1))=(List.replicate t.n (0:Int)).map (Value.int .i64):=by rw[Ck,BX,gV]
 refine dI.xO (ι:=Nat×List Int×aU×List an×aM) (λx=>{ bn:=[(2,.ref 2 0),(4,.ref 4 0),(5,.val back.val),(6,.val (.slice (some ⟨cz,0,none⟩) t.n t.n)),(7,.val x.2.2.1.val),(24,.val back.val),(25,.val (.int .i64 back.n)),(26,.val (.int .i64 x.1))],cl:=[(2,t.cells),(4,[.slice none 0 0,.int .i64 0])],c2:=x.2.2.2.2,dx:=du cz x.2.1::(x.2.2.1.aq 66++(back.aq 3++[])) }) (RH I t rb) (λx=>rb.length-x.1) ?_ ?_
 ·intro _;refine⟨(0,List.replicate t.n 0,⟨some b7,0,back.n,rowOf [.int .u8 0,.int .u64 0,.int .u64 0,.int .u64 0,.int .u64 0,.string ⟨#[]⟩,.int .i64 0,.int .i64 0,.slice none 0 0] (back.n*9)⟩,[],I),⟨dO _,by simp[l9],⟨rfl,(λh=>by cases h),λcN jn=>⟨by simp[qv,madeCells],dO _,by unfold maxLen;simp only;omega,by simp⟩⟩,rfl,(by rw[l9];rfl),(λd aj=>by cases aj),λ_ _ h=>h,(λc au=>by have:=J6 au;omega),(λd aj=>by cases aj)⟩,.perm (List.Perm.swap _ _ _) (.tn (by rw[tC];simp only[ee];rfl)),h1,.cons rfl (.cons rfl (.nil))⟩
 rintro⟨j,P,out,gr,J⟩⟨ai,xf,pz,h9,rj,xg,bL,Eh,g7⟩;simp only at ai xf pz h9 rj xg bL Eh g7;have sA:out.n=j:=by have:=pz.len;rw[hM _ 9 an.da,h9]at this;omega
 subst sA;refine a9.mk (λh=>?_) (λh=>?_)
 ·have vh:out.n<rb.length:=by have:(out.n:Int)<(back.n:Int):=dV h;omega
  have hm:=Bj _ (b9 vh);obtain⟨m,vi⟩:=eN hm.1;rw[vi]at hm;have kk:m<t.n:=by omega
  have o2:m<t.ns.length:=by omega
  obtain⟨aV,bU,Ei⟩:=aU.CV (I:=J) (e:=3) (M:=du cz P::(out.aq 66++(back.aq 3++[]))) ri (λx ab=>by simp[ab]) vh;rw[vi]at Ei;obtain⟨qY,r5,kE⟩:=(aw.bb.mono bL).row an.da kk o2;have aj:=(aw.ns _ (b9 o2)).mono bL;have e':=aj.aT;have q1:=aj.bb.cap;have gW:=jX af m o2;have m5:nodeAt t.ns m=t.ns[m]:=gf o2;generalize eF:t.ns[m]=d at aj e' q1 gW kE m5;have fR:=o4 P m (by omega) (out.n:Int);generalize q9:P.set m (out.n:Int)=dC at fR;have HT:dC.length=t.ns.length:=by rw[<-q9];simpa using xf
  have zc:∀ c∈dC,0<=c/\c<=rb.length:=λc au=>by
   rw[<-q9]at au;rcases w4 au with au | rfl;·exact Eh c au
   ·omega
  refine bu.mk aV out.n bU rfl (show _<back.n by omega) ?_;refine aZ.mk _ Ei ?_;refine bu.mk ⟨cz,0,none⟩ m rfl rfl kk ?_;refine cn.iM [] (out.aq 66++(back.aq 3++[])) (P.map (Value.int .i64)) 3 rfl (by rw[nv,bO];show 0+m*1+1<=_;omega) rfl (dC.map (Value.int .i64)) (by rw[c9,gV];exact fR) ?_;refine bu.mk qY m r5 rfl kk ?_;refine aZ.mk _ (kE _) ?_;have uu:(out.n+1)*96<=140737488355328:=by omega
  refine a9.mk (λaa=>?_) (λaa=>?_)
  ·have jV:0<d.aT:=by have:(0:Int)<(d.aT:Int):=dV aa;omega
   refine oB.mk d.aT d.aT rfl rfl (cI _) (by show 8*d.aT<=_;omega) (by omega) ?_;refine cJ.mk λWj aml amm=>?_;have a':(rowOf [Value.int .i64 0] (d.aT*1)).length=d.aT:=by simp[qv,madeCells]
   have cZ:bQ (rowOf [Value.int .i64 0] (d.aT*1)) 0 (d.ap.map (.int .i64 ·))=d.ap.map (.int .i64 ·):=by unfold bQ;rw[nS,jq,c9,qe (by rw[a',bO];omega),ee]
   refine br.NL a4 rfl (by simp) (e:=3) rfl rfl rfl (g:=Wj) (n:=d.aT) (c:=d.aT) (aS:=rowOf [Value.int .i64 0] (d.aT*1)) rfl (by rw[a'];show d.aT*1<=_;omega) (sa:=d.cW) (c':=d.c5) rfl (cq:=d.ap.map (.int .i64 ·)) (by rw[bO];show _=d.aT*1;omega) (λay=>aj.bb.w9 _ ay) (Ec _) [] (du cz dC::(out.aq 66++(back.aq 3++[]))) rfl ?_;rw[cZ];refine dI.inv (ι:=Nat×aU×List Int) (λy=>{ bn:=[(2,.ref 2 0),(4,.ref 4 0),(5,.val back.val),(6,.val (.slice (some ⟨cz,0,none⟩) t.n t.n)),(7,.val out.val),(8,.val (.int .i64 out.n)),(9,.val (.int .i64 m)),(10,.ref 10 0),(11,.val y.2.1.val),(24,.val back.val),(25,.val (.int .i64 back.n)),(26,.val (.int .i64 out.n)),(52,.val y.2.1.val),(53,.val (.int .i64 d.aT)),(54,.val (.int .i64 y.1))],cl:=[(2,t.cells),(4,[.slice none 0 0,.int .i64 0]),(10,d.cells)],c2:=J,dx:=y.2.1.aq 3++(du cz dC::(out.aq 66++(back.aq 3++[]))) }) (λy=>Wi d dC y) (λy=>d.aT-y.1) ?_ ?_;·exact⟨(0,⟨some Wj,d.aT,d.aT,d.ap.map (.int .i64 ·)⟩,d.ap),⟨dO _,⟨by rw[py,bO];simp only;omega,(λh=>by cases h),λcN jn=>⟨by simp only[bO];omega,cI _,by unfold maxLen;simp only;omega,by rw[py];exact fT (by rw[bO];simp only;omega)⟩⟩,rfl,by simp⟩,.refl,YK,.cons rfl (.cons rfl (.cons rfl (.nil)))⟩
   rintro⟨k,dq,eC⟩⟨ae,hR,Bk,c0⟩;simp only at ae hR Bk c0;have NM:∀ x∈dq.aq 3,x∈dq.aq 3++(du cz dC::(out.aq 66++(back.aq 3++[]))):=λx ab=>h2 _ ab;have NN:du cz dC∈dq.aq 3++(du cz dC::(out.aq 66++(back.aq 3++[]))):=by simp
   have Ak:eC.length=d.ap.length:=by rw[c0,cL,bO,fu,rF];omega
   refine a9.mk (λad=>?_) (λad=>?_)
   ·have ei:k<d.aT:=by have:(k:Int)<(d.aT:Int):=dV ad;omega
    have hG:k<d.ap.length:=by omega
    have sB:k<eC.length:=by omega
    have ag:=gW _ (b9 hG);have sC:d.ap[k].toNat<dC.length:=by omega
    have zd:dC.getD d.ap[k].toNat 0=dC[d.ap[k].toNat]:=by simp[cv,sC]
    have Ej:eC[k]=d.ap[k]:=by
     have al:eC[k]?=d.ap[k]?:=by rw[c0,jW (by rw[bO,fu];omega),bO,fu,oA (by omega),kn,na,ms]
     rw[dX sB,dX hG]at al;exact gO al
    obtain⟨gp,fe,e1⟩:=aU.ok.row (I:=J) (M:=dq.aq 3++(du cz dC::(out.aq 66++(back.aq 3++[])))) (e:=3) (f:=jD) (size:=1) (λ_=>rfl) (by decide) hR NM sB;rw[Ej]at e1;refine bu.mk gp k fe rfl (show k<dq.n by omega) ?_;refine aZ.mk _ e1 ?_;refine bu.mk ⟨cz,0,none⟩ d.ap[k].toNat rfl (by omega) (by omega) ?_;refine aZ.mk _ (Cn NN sC) ?_;refine bu.mk gp k fe rfl (show k<dq.n by omega) ?_;refine aU.Dx jD 1 (λ_=>rfl) (e:=3) hR sB dC[d.ap[k].toNat] rfl [] (du cz dC::(out.aq 66++(back.aq 3++[]))) rfl fe ?_;intro mU kd lV lR hc;refine bi.mk _ (de (i:=k) (by omega)) ?_;refine⟨(k+1,mU,eC.set k dC[d.ap[k].toNat]),⟨⟨ei,hc,lR.trans Bk,?_⟩,by simp only;omega⟩,.refl,.cons .refl (.cons .refl (.cons .refl (.cons .refl (.cons .refl (.cons .refl (.cons .refl (.cons .refl (.cons ?_ (.cons .refl (.cons .refl (.cons .refl (.cons ?_ (uf))))))))))))),.cons rfl (.cons rfl (.cons rfl (.nil)))⟩;·simp only;rw[c0,gD hG,dc,cc,h3,zd,yn _ _ (by rw[bO,fu];omega),bO,fu,oA (by omega),kn,e6 hG,yo,fi];rfl
    ·simp only;rw[kd];exact .refl
    ·simp only;rw[kd];exact .refl
   have cV:k=d.aT:=by have:¬ (k:Int)<(d.aT:Int):=eO ad;omega
   subst cV;rw[fT (by omega),qe (by omega),ee]at c0;rw[py]at hR;refine cJ.mk λWk Wl Wm=>?_;have bJ:∃ bX:an,bX=⟨d.k,d.b3,d.s1,d.s2,d.cm,d.t,d.lo,d.hi,dq.a.map λg=>⟨g,0,none⟩,dq.n,dq.c,eC⟩:=⟨_,rfl⟩;obtain⟨bX,bJ⟩:=bJ;have Ek:bX.cells=[.int .u8 d.k,.int .u64 d.b3,.int .u64 d.s1,.int .u64 d.s2,.int .u64 d.cm,.string d.t,.int .i64 d.lo,.int .i64 d.hi,.slice (dq.a.map λg=>⟨g,0,none⟩) dq.n dq.c]:=by rw[bJ];rfl
   refine br.lN a4 rfl (by simp) (e:=66) rfl rfl rfl out pz rfl (cs:=[.int .u8 d.k,.int .u64 d.b3,.int .u64 d.s1,.int .u64 d.s2,.int .u64 d.cm,.string d.t,.int .i64 d.lo,.int .i64 d.hi,.slice (dq.a.map λg=>⟨g,0,none⟩) dq.n dq.c]) rfl rfl rfl (dq.aq 3++[du cz dC]) (back.aq 3++[]) (by simp;rfl) (by omega) (by show(out.n+1)*96<=_;omega) ?_;intro lb NO Wn xh;refine bi.mk _ (de (i:=out.n) (by omega)) ?_;have xi:∀ c∈eC,0<=c/\c<=rb.length:=λc au=>by
    rw[c0]at au;obtain⟨q,aK,rfl⟩:=cG.1 au;have k3:=gW q aK;have El:q.toNat<dC.length:=by omega
    exact zc (dC.getD q.toNat 0) (by simp only[cv,dX El,jG];exact b9 _)
   intro e8;obtain⟨kL,hw,bg,eu⟩:=aU.Ac (I:=J) (b:=8) (e:=3) hR (by omega) (λg ax=>e8.d ⟨g,.cells dq.aS.toArray 3 (0,0)⟩ (by simp[aU.aq,ax])) (du cz dC::(lb.aq 66++(back.aq 3++[])));refine⟨(out.n+1,dC,lb,gr++[bX],kL),⟨⟨by simp only;omega,HT,?_,by simp[h9],?_,?_,λb o h=>bg _ _ (bL _ _ h),zc,?_⟩,by simp only;omega⟩,?_,h1,.cons rfl (.cons rfl (.nil))⟩
   ·simp only;rw[gK];have:([bX].flatMap an.cells)=bX.cells:=by simp
    rw[this,Ek];exact xh
   ·simp only;rw[gD vh,q0,rj,iY,CN,vi];show(P.set m ((gr.map an.a6).length:Int),gr.map an.a6++[(nodeAt t.ns m).cA ((nodeAt t.ns m).ap.map λk=>(P.set m ((gr.map an.a6).length:Int)).getD k.toNat 0)])=_;rw[bO,h9,q9,m5,<-c0,dc,bJ];rfl
   ·simp only;intro x ab;rcases cO.1 ab with ab | ab
    ·exact(xg x ab).mono bg
    ·simp only[eK]at ab;rw[ab,bJ];refine⟨aj.k,aj.b3,aj.s1,aj.s2,aj.cm,aj.t,aj.lo,aj.hi,eu,λc au=>?_⟩;have:=xi c au;exact⟨by omega,by omega⟩
   ·simp only;intro x ab;rcases cO.1 ab with ab | ab
    ·exact g7 x ab
    ·simp only[eK]at ab;rw[ab,bJ];exact xi
   ·simp only;refine .perm (M1:=dq.aq 3++(du cz dC::(lb.aq 66++(back.aq 3++[])))) ?_ hw;simp
  ·have jV:d.aT=0:=by have:¬ (0:Int)<(d.aT:Int):=eO aa;omega
   have ahC:d.ap=[]:=im (by omega);refine dI.inv (ι:=Nat×aU×List Int) (λy=>{ bn:=[(2,.ref 2 0),(4,.ref 4 0),(5,.val back.val),(6,.val (.slice (some ⟨cz,0,none⟩) t.n t.n)),(7,.val out.val),(8,.val (.int .i64 out.n)),(9,.val (.int .i64 m)),(10,.ref 10 0),(11,.val y.2.1.val),(24,.val back.val),(25,.val (.int .i64 back.n)),(26,.val (.int .i64 out.n)),(52,.val y.2.1.val),(53,.val (.int .i64 d.aT)),(54,.val (.int .i64 y.1))],cl:=[(2,t.cells),(4,[.slice none 0 0,.int .i64 0]),(10,d.cells)],c2:=J,dx:=y.2.1.aq 3++(du cz dC::(out.aq 66++(back.aq 3++[]))) }) (λy=>Wi d dC y) (λy=>d.aT-y.1) ?_ ?_;·refine⟨(0,jz,d.ap),⟨dO _,by rw[ahC];exact ob 1,jV.symm,by simp⟩,.refl,.cons .refl (.cons .refl (.cons .refl (.cons .refl (.cons .refl (.cons .refl (.cons .refl (.cons .refl (.cons .refl (.cons .refl (.cons .refl (.cons .refl (.cons .refl (.cons ?_ (.cons .refl .nil)))))))))))))),.cons rfl (.cons rfl (.cons rfl (.nil)))⟩;simp only;rw[jV];exact .refl
   rintro⟨k,dq,eC⟩⟨ae,hR,Bk,c0⟩;simp only at ae hR Bk c0;have NM:∀ x∈dq.aq 3,x∈dq.aq 3++(du cz dC::(out.aq 66++(back.aq 3++[]))):=λx ab=>h2 _ ab;have NN:du cz dC∈dq.aq 3++(du cz dC::(out.aq 66++(back.aq 3++[]))):=by simp
   have Ak:eC.length=d.ap.length:=by rw[c0,cL,bO,fu,rF];omega
   refine a9.mk (λad=>?_) (λad=>?_)
   ·have ei:k<d.aT:=by have:(k:Int)<(d.aT:Int):=dV ad;omega
    have hG:k<d.ap.length:=by omega
    have sB:k<eC.length:=by omega
    have ag:=gW _ (b9 hG);have sC:d.ap[k].toNat<dC.length:=by omega
    have zd:dC.getD d.ap[k].toNat 0=dC[d.ap[k].toNat]:=by simp[cv,sC]
    have Ej:eC[k]=d.ap[k]:=by
     have al:eC[k]?=d.ap[k]?:=by rw[c0,jW (by rw[bO,fu];omega),bO,fu,oA (by omega),kn,na,ms]
     rw[dX sB,dX hG]at al;exact gO al
    obtain⟨gp,fe,e1⟩:=aU.ok.row (I:=J) (M:=dq.aq 3++(du cz dC::(out.aq 66++(back.aq 3++[])))) (e:=3) (f:=jD) (size:=1) (λ_=>rfl) (by decide) hR NM sB;rw[Ej]at e1;refine bu.mk gp k fe rfl (show k<dq.n by omega) ?_;refine aZ.mk _ e1 ?_;refine bu.mk ⟨cz,0,none⟩ d.ap[k].toNat rfl (by omega) (by omega) ?_;refine aZ.mk _ (Cn NN sC) ?_;refine bu.mk gp k fe rfl (show k<dq.n by omega) ?_;refine aU.Dx jD 1 (λ_=>rfl) (e:=3) hR sB dC[d.ap[k].toNat] rfl [] (du cz dC::(out.aq 66++(back.aq 3++[]))) rfl fe ?_;intro mU kd lV lR hc;refine bi.mk _ (de (i:=k) (by omega)) ?_;refine⟨(k+1,mU,eC.set k dC[d.ap[k].toNat]),⟨⟨ei,hc,lR.trans Bk,?_⟩,by simp only;omega⟩,.refl,.cons .refl (.cons .refl (.cons .refl (.cons .refl (.cons .refl (.cons .refl (.cons .refl (.cons .refl (.cons ?_ (.cons .refl (.cons .refl (.cons .refl (.cons ?_ (uf))))))))))))),.cons rfl (.cons rfl (.cons rfl (.nil)))⟩;·simp only;rw[c0,gD hG,dc,cc,h3,zd,yn _ _ (by rw[bO,fu];omega),bO,fu,oA (by omega),kn,e6 hG,yo,fi];rfl
    ·simp only;rw[kd];exact .refl
    ·simp only;rw[kd];exact .refl
   have cV:k=d.aT:=by have:¬ (k:Int)<(d.aT:Int):=eO ad;omega
   subst cV;rw[fT (by omega),qe (by omega),ee]at c0;rw[py]at hR;refine cJ.mk λWk Wl Wm=>?_;have bJ:∃ bX:an,bX=⟨d.k,d.b3,d.s1,d.s2,d.cm,d.t,d.lo,d.hi,dq.a.map λg=>⟨g,0,none⟩,dq.n,dq.c,eC⟩:=⟨_,rfl⟩;obtain⟨bX,bJ⟩:=bJ;have Ek:bX.cells=[.int .u8 d.k,.int .u64 d.b3,.int .u64 d.s1,.int .u64 d.s2,.int .u64 d.cm,.string d.t,.int .i64 d.lo,.int .i64 d.hi,.slice (dq.a.map λg=>⟨g,0,none⟩) dq.n dq.c]:=by rw[bJ];rfl
   refine br.lN a4 rfl (by simp) (e:=66) rfl rfl rfl out pz rfl (cs:=[.int .u8 d.k,.int .u64 d.b3,.int .u64 d.s1,.int .u64 d.s2,.int .u64 d.cm,.string d.t,.int .i64 d.lo,.int .i64 d.hi,.slice (dq.a.map λg=>⟨g,0,none⟩) dq.n dq.c]) rfl rfl rfl (dq.aq 3++[du cz dC]) (back.aq 3++[]) (by simp;rfl) (by omega) (by show(out.n+1)*96<=_;omega) ?_;intro lb NO Wn xh;refine bi.mk _ (de (i:=out.n) (by omega)) ?_;have xi:∀ c∈eC,0<=c/\c<=rb.length:=λc au=>by
    rw[c0]at au;obtain⟨q,aK,rfl⟩:=cG.1 au;have k3:=gW q aK;have El:q.toNat<dC.length:=by omega
    exact zc (dC.getD q.toNat 0) (by simp only[cv,dX El,jG];exact b9 _)
   intro e8;obtain⟨kL,hw,bg,eu⟩:=aU.Ac (I:=J) (b:=8) (e:=3) hR (by omega) (λg ax=>e8.d ⟨g,.cells dq.aS.toArray 3 (0,0)⟩ (by simp[aU.aq,ax])) (du cz dC::(lb.aq 66++(back.aq 3++[])));refine⟨(out.n+1,dC,lb,gr++[bX],kL),⟨⟨by simp only;omega,HT,?_,by simp[h9],?_,?_,λb o h=>bg _ _ (bL _ _ h),zc,?_⟩,by simp only;omega⟩,?_,h1,.cons rfl (.cons rfl (.nil))⟩
   ·simp only;rw[gK];have:([bX].flatMap an.cells)=bX.cells:=by simp
    rw[this,Ek];exact xh
   ·simp only;rw[gD vh,q0,rj,iY,CN,vi];show(P.set m ((gr.map an.a6).length:Int),gr.map an.a6++[(nodeAt t.ns m).cA ((nodeAt t.ns m).ap.map λk=>(P.set m ((gr.map an.a6).length:Int)).getD k.toNat 0)])=_;rw[bO,h9,q9,m5,<-c0,dc,bJ];rfl
   ·simp only;intro x ab;rcases cO.1 ab with ab | ab
    ·exact(xg x ab).mono bg
    ·simp only[eK]at ab;rw[ab,bJ];refine⟨aj.k,aj.b3,aj.s1,aj.s2,aj.cm,aj.t,aj.lo,aj.hi,eu,λc au=>?_⟩;have:=xi c au;exact⟨by omega,by omega⟩
   ·simp only;intro x ab;rcases cO.1 ab with ab | ab
    ·exact g7 x ab
    ·simp only[eK]at ab;rw[ab,bJ];exact xi
   ·simp only;refine .perm (M1:=dq.aq 3++(du cz dC::(lb.aq 66++(back.aq 3++[])))) ?_ hw;simp
 have cV:out.n=rb.length:=by have:¬ (out.n:Int)<(back.n:Int):=eO h;omega
 refine bi.mk ((gr.length:Int)-1) (by show IntKind.i64.wrap ((out.n:Int)-1)=_;rw[wrap_i64 ⟨by omega,by omega⟩,h9]) ?_;intro e8;obtain⟨kL,hw,bg,eu⟩:=aU.Ac (I:=J) (b:=96) (e:=66) pz (by omega) (λg ax=>e8.d ⟨g,.cells out.aS.toArray 66 (0,0)⟩ (by simp[aU.aq,ax])) [];refine⟨kL,[],.sub (M1:=out.aq 66++[]) (by rw[ee];exact .cons _ (y9 _ _)) hw,λb o h=>bg _ _ (bL _ _ h),rfl,⟨gr,out.a.map λg=>⟨g,0,none⟩,out.n,out.c,(gr.length:Int)-1⟩,rfl,⟨eu,λd aj=>(xg d aj).mono bg,⟨by simp only;omega,by simp only;omega⟩⟩,⟨?_,rfl⟩⟩;rw[fT (by omega)]at rj;rw[qa,la,<-l9]at *;rw[rj]
def Wo(aw:t.ok I)(af:right t=true)(aJ:t.n<=1099511627776)(HR:node<t.n) :
  Spec Tryz.prog 81 [t.val,.int .i64 node] I M0 λv I' M'=>(∀ b o,I b=some o->I' b=some o)/\M'=M0/\∃ bj:bw,v=bj.val/\bj.ok I'/\sb t node bj:=by
 refine Spec.lT (Spec.frame (ahB aw af aJ HR)) ?_;rintro v J M⟨M',rfl,-,-,aa,rfl,bj,rfl,ad,al⟩;exact⟨aa,rfl,bj,rfl,ad,al⟩
def ahD(bl:gg I aF)(aw:t.ok I)(af:right t=true)(aJ:t.n<=1099511627776)(eD:t.bm=(r:Int)) :
  Spec Tryz.prog 107 [t.val] I M0 λv I' M'=>(∀ b o,I b=some o->I' b=some o)/\M'=M0/\∃ bj:bw,v=bj.val/\bj.ok I'/\sb t r bj:=by
 refine cp [] a4 Tryz.func107 rfl rfl rfl ?_;intro B ay;have l9:=aw.n;obtain⟨ib,gA⟩:=kG af;refine bd.mk [] M0 _ (.refl _) (rQ bl.c aw) ?_;rintro v J N -⟨rfl,bL,rfl⟩;subst J;refine a9.mk (λh=>absurd h (by simp[af])) (λ_=>?_);have cZ:=Wo (M0:=M0) aw af aJ (node:=r) (by omega);rw[<-eD]at cZ;refine bd.whole _ cZ ?_;rintro v J N -⟨bL,gq,bj,rfl,hU,ar⟩;subst N;rw[eD]at ar;exact⟨_,_,.refl,bL,rfl,bj,rfl,hU,ar⟩
def ic(gj:Int)(d:an):an:=d.cA (d.ap.map (·+gj))
structure ahE(I:aM)(ds:List an)(gj:Int)(os0:aU)(x:Nat×aU×List an×aM):Prop where
 i:x.1<=ds.length
 ok:x.2.1.ok 9 (x.2.2.1.flatMap an.cells)
 a6:x.2.2.1.map an.a6=(ds.take x.1).map (ic gj)++(ds.drop x.1).map an.a6
 ns:∀ d∈x.2.2.1,d.ok x.2.2.2
 le:∀ b o,I b=some o->x.2.2.2 b=some o
 a:x.2.1.a=os0.a
 v:x.2.1.val=os0.val
structure ahF(d:an)(gj:Int)(os0:aU)(y:Nat×aU×List Int):Prop where
 k:y.1<=d.aT
 ok:y.2.1.ok 1 (y.2.2.flatMap jD)
 eq:y.2.2=(d.ap.take y.1).map (·+gj)++d.ap.drop y.1
 a:y.2.1.a=os0.a
 v:y.2.1.val=os0.val
def ahG{ds:List an}{gj:Int}{i:Nat}(hi:i<ds.length)(dJ:L.map an.a6=(ds.take i).map (ic gj)++(ds.drop i).map an.a6){d:an}(aj:d.a6=ic gj ds[i]):(L.set i d).map an.a6=(ds.take (i+1)).map (ic gj)++(ds.drop (i+1)).map an.a6:=by rw[ug,dJ,gD hi,dc,e6 hi,cc,aj,yn _ _ (by rw[bO,fu];omega),bO,fu,oA (by omega),kn,yo,fi];rfl
def ahH{ds:List an}{gj:Int}{i:Nat}(hi:i<ds.length)(j4:i<L.length)(dJ:L.map an.a6=(ds.take i).map (ic gj)++(ds.drop i).map an.a6):L[i].a6=ds[i].a6:=by
 have aa:(L.map an.a6)[i]?=some ds[i].a6:=by rw[dJ,jW (by rw[bO,fu];omega),bO,fu,oA (by omega),kn,e6 hi,cc];rfl
 rw[mr,dX j4]at aa;exact gO aa
def Wp{c:Nat}{ds:List an}(h:dZ I a n c 9 96 (ds.flatMap an.cells))(e2:∀ d∈ds,d.ok I)(gj:Int)(Em:∀ d∈ds,∀ k∈d.ap,gy (k+gj)) :
  Spec Tryz.prog 108 [.slice a n c,.int .i64 gj] I [] λv I' M'=>(∀ b o,I b=some o->I' b=some o)/\∃ (os:aU) (L:List an),v=os.val/\os.n=n/\os.ok 9 (L.flatMap an.cells)/\M'=os.aq 66/\L.map an.a6=ds.map (ic gj)/\∀ d∈L,d.ok I':=by
 refine zz [] a4 Tryz.func108 rfl rfl rfl ?_;intro B ay;have iN:=h.cap;have cu:=h.len;rw[hM _ 9 an.da]at cu;have aJ:ds.length=n:=by omega
 refine oB.mk n n rfl rfl (cI _) (by show 96*n<=_;omega) (by omega) ?_;refine cJ.mk λey F5 F6=>?_;have a':∀ z:List Value,z.length=9->(rowOf z (n*9)).length=n*9:=λz _=>by simp[qv,madeCells]
 refine br.NL a4 rfl (by simp) (e:=66) rfl rfl rfl (g:=ey) (n:=n) (c:=n) rfl (by rw[a' _ rfl];exact cI _) (sa:=a) (c':=c) rfl (cq:=ds.flatMap an.cells) h.len (λay=>h.w9 _ ay) (HO an.one _) [] [] rfl ?_;have cZ:∀ z:List Value,z.length=9->bQ (rowOf z (n*9)) 0 (ds.flatMap an.cells)=ds.flatMap an.cells:=λz gv=>by unfold bQ;rw[nS,jq,c9,qe (by rw[a' z gv,h.len];exact cI _),ee]
 have k2:(ds.flatMap an.cells).length=n*9:=h.len;obtain⟨os0,En⟩:∃ os0:aU,os0=⟨some ey,n,n,bQ (rowOf [.int .u8 0,.int .u64 0,.int .u64 0,.int .u64 0,.int .u64 0,.string ⟨#[]⟩,.int .i64 0,.int .i64 0,.slice none 0 0] (n*9)) 0 (ds.flatMap an.cells)⟩:=⟨_,rfl⟩;have xb:os0.ok 9 (ds.flatMap an.cells):=by
  rw[En];refine⟨k2,(λh=>by cases h),λcN jn=>⟨?_,cI _,by unfold maxLen;simp only;omega,?_⟩⟩;·simp only;rw[cZ _ rfl,k2]
  ·simp only;rw[cZ _ rfl];exact fT (by rw[k2];exact cI _)
 have D3:os0.val=.slice (some ⟨ey,0,none⟩) n n:=by rw[En];rfl
 have ahI:os0.a=some ey:=by rw[En]
 have pR:os0.n=n:=by rw[En]
 refine dI.xO (ι:=Nat×aU×List an×aM) (λx=>{ bn:=[(1,.val (.int .i64 gj)),(5,.val (.slice (some ⟨ey,0,none⟩) n n)),(16,.val (.slice (some ⟨ey,0,none⟩) n n)),(17,.val (.int .i64 n)),(18,.val (.int .i64 x.1))],cl:=[],c2:=x.2.2.2,dx:=x.2.1.aq 66++[] }) (λx=>ahE I ds gj os0 x) (λx=>n-x.1) ?_ ?_
 ·intro _;refine⟨(0,os0,ds,I),⟨dO _,xb,by simp,e2,λ_ _ h=>h,rfl,rfl⟩,.tn (by rw[En];rfl),iJ,.nil⟩
 rintro⟨i,os,L,J⟩⟨hi,cC,dJ,l1,bg,mg,j8⟩;simp only at hi cC dJ l1 bg mg j8;have ND:L.length=ds.length:=by have:=congrArg List.length dJ;rw[bO,cL,bO,bO,fu,rF]at this;omega
 have ahJ:os.a=some ey:=mg.trans ahI;refine a9.mk (λad=>?_) (λad=>?_)
 rotate_left
 ·have cV:i=n:=by have:¬ (i:Int)<(n:Int):=eO ad;omega
  intro e8;refine⟨_,_,.refl,bg,os,L,by rw[j8,D3],by rw[(vf j8).1,pR],cC,by rw[ee],?_,l1⟩;rw[dJ,fT (by omega),qe (by omega),h3,ee]
 have aW:i<n:=by have:(i:Int)<(n:Int):=dV ad;omega
 have iT:i<ds.length:=by omega
 have j4:i<L.length:=by omega
 have HU:=ahH iT j4 dJ;have gZ:=l1 _ (b9 j4);have fS:L[i].ap=ds[i].ap:=by have:L[i].a6.ap=ds[i].a6.ap:=congrArg an.ap HU;exact this
 have Wq:=Em _ (b9 iT);obtain⟨aV,bU,bB⟩:=aU.ok.row (I:=J) (M:=os.aq 66++[]) (e:=66) an.da (by decide) cC (λz a'=>h2 _ a') j4;obtain rfl:aV=⟨ey,0,none⟩:=by rw[ahJ]at bU;exact(gO bU).symm
 have hx:∀ d:an,d.a6=ic gj ds[i]->(L.set i d).map an.a6=(ds.take (i+1)).map (ic gj)++(ds.drop (i+1)).map an.a6:=λd aj=>ahG iT dJ aj;have eF:∃ d,L[i]=d:=⟨_,rfl⟩;obtain⟨d,aj⟩:=eF;have e':=gZ.aT;refine bu.mk ⟨ey,0,none⟩ i rfl rfl aW ?_;refine aZ.mk _ bB ?_;refine bu.mk ⟨ey,0,none⟩ i rfl rfl aW ?_;refine aU.AT (e:=66) an.cells 9 an.da cC j4 8 (vs:=[.slice none 0 0]) (bH rfl) rfl (L[i].cA []) rfl [] [] (by simp) bU ?_;intro hE kd lV lR hc;rw[aj]at HU gZ fS e';refine a9.mk (λal=>?_) (λal=>?_)
 ·have jV:d.aT=0:=by have:((L[i].aT:Nat):Int)=0:=dV al;rw[aj]at this;omega
  have lx:d.ap=[]:=im (by omega);refine bi.mk _ (de (i:=i) (by omega)) ?_;intro e8;refine⟨(i+1,hE,L.set i (L[i].cA []),J),⟨⟨by simp only;omega,hc,hx _ ?_,λx ab=>?_,bg,lV.trans mg,kd.trans j8⟩,by simp only;omega⟩,.refl,iJ,.nil⟩;·rw[aj];show d.a6.cA []=ic gj ds[i];rw[HU,ic,<-fS,lx];rfl
  ·rcases w4 ab with ab | rfl
   ·exact l1 _ ab
   ·rw[aj];exact⟨gZ.k,gZ.b3,gZ.s1,gZ.s2,gZ.cm,gZ.t,gZ.lo,gZ.hi,⟨rfl,⟨cI _,(show 0*8<=140737488355328 by decide)⟩,.inl rfl⟩,λk ae=>by cases ae⟩
 ·have jV:0<d.aT:=by have:¬ ((L[i].aT:Nat):Int)=0:=eO al;rw[aj]at this;omega
  have q1:=gZ.bb.cap;have ahK:=gZ.bb;have x2:L[i].cW=d.cW/\L[i].aT=d.aT/\L[i].c5=d.c5:=by rw[aj];exact⟨rfl,rfl,rfl⟩
  refine oB.mk d.aT d.aT (by rw[x2.2.1]) (by rw[x2.2.1]) (cI _) (by show 8*d.aT<=_;omega) (by omega) ?_;refine cJ.mk λfI abX abY=>?_;have Wr:(rowOf [Value.int .i64 0] (d.aT*1)).length=d.aT:=by simp[qv,madeCells]
  have ahL:bQ (rowOf [Value.int .i64 0] (d.aT*1)) 0 (d.ap.map (.int .i64 ·))=d.ap.map (.int .i64 ·):=by unfold bQ;rw[nS,jq,c9,qe (by rw[Wr,bO];omega),ee]
  refine br.NL a4 rfl (by simp) (e:=3) rfl rfl rfl (g:=fI) (n:=d.aT) (c:=d.aT) (aS:=rowOf [Value.int .i64 0] (d.aT*1)) rfl (by rw[Wr];show d.aT*1<=_;omega) (sa:=d.cW) (c':=d.c5) (by rw[<-x2.1,<-x2.2.1,<-x2.2.2];rfl) (cq:=d.ap.map (.int .i64 ·)) (by rw[bO];show _=d.aT*1;omega) (λay=>ahK.w9 _ ay) (Ec _) [] (hE.aq 66++[]) rfl ?_;obtain⟨vj,Bl⟩:∃ vj:aU,vj=⟨some fI,d.aT,d.aT,bQ (rowOf [Value.int .i64 0] (d.aT*1)) 0 (d.ap.map (.int .i64 ·))⟩:=⟨_,rfl⟩;have ahM:vj.ok 1 (d.ap.flatMap jD):=by rw[Bl,py,ahL];refine⟨by rw[bO];simp only;omega,(λh=>by cases h),λcN jn=>⟨by simp only[bO];omega,cI _,by unfold maxLen;simp only;omega,fT (by rw[bO];simp only;omega)⟩⟩
  have amn:vj.val=.slice (some ⟨fI,0,none⟩) d.aT d.aT:=by rw[Bl];rfl
  have ahN:vj.a=some fI:=by rw[Bl]
  have Ws:vj.n=d.aT:=by rw[Bl]
  refine dI.inv (ι:=Nat×aU×List Int) (λy=>{ bn:=[(1,.val (.int .i64 gj)),(5,.val (.slice (some ⟨ey,0,none⟩) n n)),(6,.val (.int .i64 i)),(7,.ref 7 0),(8,.val (.slice (some ⟨fI,0,none⟩) d.aT d.aT)),(16,.val (.slice (some ⟨ey,0,none⟩) n n)),(17,.val (.int .i64 n)),(18,.val (.int .i64 i)),(39,.val (.slice (some ⟨fI,0,none⟩) d.aT d.aT)),(40,.val (.int .i64 d.aT)),(41,.val (.int .i64 y.1))],cl:=[],c2:=J,dx:=y.2.1.aq 3++(hE.aq 66++[]) }) (λy=>ahF d gj vj y) (λy=>d.aT-y.1) ?_ ?_;·exact⟨(0,vj,d.ap),⟨dO _,ahM,by simp,rfl,rfl⟩,.tn (by rw[Bl];rfl),Pe,.nil⟩
  rintro⟨k,dq,eC⟩⟨ae,hR,c0,Bm,gW⟩;simp only at ae hR c0 Bm gW;have Wt:dq.a=some fI:=Bm.trans ahN;have Ak:eC.length=d.ap.length:=by rw[c0,cL,bO,fu,rF];omega
  refine a9.mk (λaL=>?_) (λaL=>?_)
  ·have ei:k<d.aT:=by have:(k:Int)<(d.aT:Int):=dV aL;omega
   have hG:k<d.ap.length:=by omega
   have sB:k<eC.length:=by omega
   have Ej:eC[k]=d.ap[k]:=by
    have al:eC[k]?=d.ap[k]?:=by rw[c0,jW (by rw[bO,fu];omega),bO,fu,oA (by omega),kn,na,ms]
    rw[dX sB,dX hG]at al;exact gO al
   obtain⟨gp,fe,e1⟩:=aU.ok.row (I:=J) (M:=dq.aq 3++(hE.aq 66++[])) (e:=3) (f:=jD) (size:=1) (λ_=>rfl) (by decide) hR (λz a'=>h2 _ a') sB;obtain rfl:gp=⟨fI,0,none⟩:=by rw[Wt]at fe;exact(gO fe).symm
   rw[Ej]at e1;have fG:gy (d.ap[k]+gj):=Wq _ (by rw[<-fS];exact b9 hG);refine bu.mk ⟨fI,0,none⟩ k rfl rfl ei ?_;refine aZ.mk _ e1 ?_;refine bi.mk (d.ap[k]+gj) (wrap_i64 fG) ?_;refine bu.mk ⟨fI,0,none⟩ k rfl rfl ei ?_;refine aU.Dx jD 1 (λ_=>rfl) (e:=3) hR sB (d.ap[k]+gj) rfl [] (hE.aq 66++[]) rfl fe ?_;intro mU ahO ahP amo ahQ;refine bi.mk _ (de (i:=k) (by omega)) ?_;refine⟨(k+1,mU,eC.set k (d.ap[k]+gj)),⟨⟨ei,ahQ,?_,ahP.trans Bm,ahO.trans gW⟩,by simp only;omega⟩,.refl,Pe,.nil⟩;simp only;rw[c0,gD hG,dc,cc,h3,yn _ _ (by rw[bO,fu];omega),bO,fu,oA (by omega),kn,e6 hG,yo,fi];rfl
  have cV:k=d.aT:=by have:¬ (k:Int)<(d.aT:Int):=eO aL;omega
  rw[fT (by omega),qe (by omega),ee]at c0;rw[py]at hR;refine bu.mk ⟨ey,0,none⟩ i rfl rfl aW ?_;have h0:i<(L.set i (L[i].cA [])).length:=by rw[uJ];exact j4
  have km:(L.set i (L[i].cA []))[i]=d.cA []:=by rw[List.getElem_set_self,aj]
  have bJ:∃ bX:an,bX=⟨d.k,d.b3,d.s1,d.s2,d.cm,d.t,d.lo,d.hi,some ⟨fI,0,none⟩,d.aT,d.aT,eC⟩:=⟨_,rfl⟩;obtain⟨bX,bJ⟩:=bJ;refine aU.AT (e:=66) an.cells 9 an.da hc h0 8 (vs:=[.slice (some ⟨fI,0,none⟩) d.aT d.aT]) (bH rfl) rfl bX (by rw[km,bJ];rfl) (dq.aq 3) [] rfl (by rw[lV];exact bU) ?_;intro HQ CU NG ahv zM;rw[Cm]at zM;refine bi.mk _ (de (i:=i) (by omega)) ?_;intro e8;obtain⟨kL,hw,pI,eu⟩:=aU.Ac (I:=J) (b:=8) (e:=3) hR (by rw[(vf gW).1,Ws];omega) (λg ax=>e8.d ⟨g,.cells dq.aS.toArray 3 (0,0)⟩ (by simp[aU.aq,ax])) (HQ.aq 66++[]);refine⟨(i+1,HQ,L.set i bX,kL),⟨⟨by simp only;omega,zM,hx _ ?_,λx ab=>?_,λb o h=>pI _ _ (bg _ _ h),(NG.trans lV).trans mg,(CU.trans kd).trans j8⟩,by simp only;omega⟩,hw,iJ,.nil⟩;·rw[bJ,c0];show d.a6.cA (d.ap.map (·+gj))=ic gj ds[i];rw[HU,ic,fS];rfl
  ·rcases w4 ab with ab | rfl
   ·exact(l1 _ ab).mono pI
   ·rw[Wt,(vf gW).1,(vf gW).2,Ws]at eu;have vP:vj.c=d.aT:=by rw[Bl]
    rw[vP]at eu;rw[bJ];refine⟨gZ.k,gZ.b3,gZ.s1,gZ.s2,gZ.cm,gZ.t,gZ.lo,gZ.hi,eu,λq aK=>?_⟩;have aK:q∈eC:=aK;rw[c0]at aK;obtain⟨z,a',rfl⟩:=cG.1 aK;exact Wq z (by rw[<-fS];exact a')
def aU.ahR(h:os.ok size xs)(a3:∀ x∈os.aq e,x∈M)(ay:0<os.n):∃ aV,os.a.map (λg=>(⟨g,0,none⟩:Addr))=some aV/\c7 I M aV (os.n*size) xs:=by
 obtain⟨a,n,c,aS⟩:=os;cases a with
 |none=>have:=(h.nil rfl).1;simp only at this ay;omega| some g=>obtain⟨aa,ad,al,aL⟩:=h.cap g rfl;exact⟨_,rfl,rfl,aS.toArray,e,(0,0),.inr ⟨⟨g,.cells aS.toArray e (0,0)⟩,a3 _ (.head _),rfl,rfl⟩,by simpa using aL,h.len⟩
def ahS{c:Nat}{ds:List an}(h:dZ I a n c 9 96 (ds.flatMap an.cells))(e2:∀ d∈ds,d.ok I)(gj:Int)(Em:∀ d∈ds,∀ k∈d.ap,gy (k+gj)) :
  Spec Tryz.prog 108 [.slice a n c,.int .i64 gj] I M0 λv I' M'=>(∀ b o,I b=some o->I' b=some o)/\∃ (os:aU) (L:List an),v=os.val/\os.n=n/\os.ok 9 (L.flatMap an.cells)/\M'=os.aq 66++M0/\L.map an.a6=ds.map (ic gj)/\∀ d∈L,d.ok I':=by
 refine Spec.lT (Spec.frame (Wp h e2 gj Em)) ?_;rintro v J M⟨M',rfl,-,-,aa,os,L,rfl,ad,al,rfl,aL,bG⟩;exact⟨aa,os,L,rfl,ad,al,rfl,aL,bG⟩
def ahT(n:Nat)(l:List an):l.map (ic (n:Int))=l.map λx=>x.cA (x.ap.map λk=>(n:Int)+k):=fy λx _=>by unfold ic;congr 1;exact fy λk _=>Int.add_comm _ _
def Wu(z:Int)(ds:List an):(ds.map an.a6).map (ic z)=ds.map (ic z):=by rw[gz];rfl
def ahU(bl:gg I aF){d:an}(aj:d.ok I){L:List bw}(bB:dZ I cW L.length D5 2 32 (L.flatMap bw.cells))(ek:∀ t∈L,t.ok I/\right t=true)(aJ:(L.map (·.n)).sum<=1099511627776)(av:L.length<=1099511627776)(az:fits d L.length=true) :
  Spec Tryz.prog 59 [d.val,.slice cW L.length D5] I [] λv I' M'=>(∀ b o,I b=some o->I' b=some o) /\
   ∃ (os b2:aU) (gr:List an) (bX:an),v=.tuple #[.agg #[os.val,.int .i64 ((gr.length:Nat):Int)],.bool true]/\os.n=gr.length+1/\os.n<=1099511627777/\os.ok 9 ((gr++[bX]).flatMap an.cells)/\M'=os.aq 66++(b2.aq 3++[])/\(∀ x∈gr,x.ok I') /\
    b2.ok 1 (bX.ap.map (.int .i64 ·))/\b2.n<=1099511627776/\bX.cW=b2.a.map (λg=>(⟨g,0,none⟩:Addr))/\bX.aT=b2.n/\bX.c5=b2.c/\bX.a6=d.cA bX.ap/\(∀ k∈bX.ap,gy k)/\(gr++[bX]).map an.a6=pf d (L.map kq):=by
 refine cp [] a4 Tryz.func59 rfl rfl rfl ?_;intro B ay;refine bd.mk [] [] _ (.refl _) (Js bl.c aj L.length) ?_;rintro v Eg N -⟨rfl,zx,rfl⟩;subst Eg;refine a9.mk (λh=>absurd h (by simp[az])) (λ_=>?_);refine dI.inv (ι:=Nat×aU×List an×aU×List Int×aM) (λx=>{ bn:=[(2,.ref 2 0),(4,.ref 4 0),(6,.val x.2.1.val),(7,.val x.2.2.2.1.val),(16,.val (.slice cW L.length D5)),(17,.val (.int .i64 L.length)),(18,.val (.int .i64 x.1))],cl:=[(2,d.cells),(4,[.slice none 0 0,.int .i64 0])],c2:=x.2.2.2.2.2,dx:=x.2.1.aq 66++(x.2.2.2.1.aq 3++[]) }) (abS I L) (λx=>L.length-x.1) ?_ ?_
 ·exact⟨(0,jz,[],jz,[],I),⟨dO _,ob 9,ob 1,rfl,rfl,(λd aj=>by cases aj),λ_ _ h=>h,dO _,(λk ae=>by cases ae)⟩,.refl,qB,.cons rfl (.cons rfl (.nil))⟩
 rintro⟨i,out,gr,b2,NP,J⟩⟨hi,pz,ir,c0,rj,bo,bL,h9,g7⟩;simp only at hi pz ir c0 rj bo bL h9 g7;have dQ:=RM L i;have sA:out.n=gr.length:=by have:=pz.len;rw[hM _ 9 an.da]at this;omega
 have amp:=ir.oc;refine a9.mk (λh=>?_) (λh=>?_)
 ·have aW:i<L.length:=by have:(i:Int)<(L.length:Int):=dV h;omega
  obtain⟨aV,bU,Wv⟩:=(bB.mono bL).row (f:=bw.cells) (λ_=>rfl) aW aW;obtain⟨NQ,rk⟩:=ek _ (b9 aW);have NR:=NQ.mono bL;have Ww:=RM L (i+1);rw[RN L i aW]at Ww;have Wx:(L.take (i+1)).map kq=(L.take i).map kq++[kq L[i]]:=by rw[gD aW,dc];rfl
  have ahV:=RN L i aW;generalize amq:L[i]=t at NQ rk NR Wv Ww Wx ahV;obtain⟨ib,gA⟩:=kG rk;obtain⟨r,eD⟩:=eN ib;have l9:=NQ.n;refine bu.mk aV i bU rfl aW ?_;refine aZ.mk _ (Wv _) ?_;refine bd.mk [] (out.aq 66++(b2.aq 3++[])) _ (.refl _) (rQ (bl.mono bL).c NR) ?_;rintro v Eg N -⟨rfl,zx,rfl⟩;subst Eg;refine a9.mk (λh=>absurd h (by simp[rk])) (λ_=>?_);have Wy:=Wo (M0:=out.aq 66++(b2.aq 3++[])) NR rk (by omega) (node:=r) (by omega);rw[<-eD]at Wy;refine bd.whole _ Wy ?_;rintro v iW N -⟨fC,gq,t1,rfl,nt,ar⟩;subst N;have mz:=ar;rw[eD]at mz;have gH:=KS rk (show r<t.ns.length by omega) mz;have s':=KT rk (show r<t.ns.length by omega) mz;have cx:=yx rk t.ns.length r (by omega) (by omega);have NS:=nt.n;have ez:kq t=t1.ns.map an.a6:=ar.a6.symm;refine bd.whole _ (ahS (M0:=out.aq 66++(b2.aq 3++[])) nt.bb nt.ns out.n λx ab k ae=>?_) ?_;·obtain⟨q,aK,rfl⟩:=hz ab;have:=jX gH q aK k ae;exact⟨by omega,by omega⟩
  rintro v fp N -⟨eQ,xI,NT,rfl,DM,Wz,gq,WA,ahW⟩;subst N;have amr:NT.length=t1.n:=by have:=congrArg List.length WA;rw[bO,bO]at this;omega
  refine br.Au a4 rfl (by simp) (e:=66) rfl rfl rfl out pz rfl (sa:=xI.a.map λg=>⟨g,0,none⟩) (m:=xI.n) (c':=xI.c) (cq:=NT.flatMap an.cells) rfl Wz.len (λay=>aU.ahR Wz (λz a'=>h2 _ a') ay) (HO an.one _) (xI.aq 66) (b2.aq 3++[]) rfl (by omega) (by show(out.n+xI.n)*96<=_;omega) ?_;intro lb NO ams hc;refine bi.mk ((lb.n:Int)-1) (by show IntKind.i64.wrap ((lb.n:Int)-1)=_;rw[wrap_i64 ⟨by omega,by omega⟩]) ?_;refine cJ.mk λl' TI ado=>?_;refine br.lN a4 rfl (by simp) (e:=3) rfl rfl rfl b2 ir rfl (cs:=[.int .i64 ((lb.n:Int)-1)]) rfl rfl rfl (xI.aq 66++lb.aq 66) [] (by rw[fi];rfl) (by omega) (by show(b2.n+1)*8<=_;omega) ?_;intro ahX Bk amt ahY;refine bi.mk _ (de (i:=i) (by omega)) ?_;have ahZ:(kq t).length=t1.n:=by rw[ez,bO];exact NS
  refine⟨(i+1,lb,gr++NT,ahX,NP++[(lb.n:Int)-1],fp),⟨⟨aW,?_,?_,by simp only[cL,ea,gL];omega,?_,λx ab=>?_,λb o h=>eQ _ _ (fC _ _ (bL _ _ h)),?_,λk ae=>?_⟩,by simp only;omega⟩,.sub (by rw[fi];exact lr _ _) .refl,qB,.cons rfl (.cons rfl (.nil))⟩;·simp only;rw[gK];exact hc
  ·simp only;rw[dc];exact ahY
  ·simp only;rw[Wx,q0,rj,iY,CN];show(gr.map an.a6++(kq t).map (λx=>x.cA (x.ap.map λk=>((gr.map an.a6).length:Int)+k)),NP++[(((gr.map an.a6).length+(kq t).length:Nat):Int)-1])=_;rw[dc,WA,bO,ahZ,ez,<-Wu,<-sA,ahT];congr 3;omega
  ·rcases cO.1 ab with ab | ab
   ·exact(bo x ab).mono λb o h=>eQ _ _ (fC _ _ h)
   ·exact ahW x ab
  ·simp only[cL];omega
  ·simp only at ae |-;rcases cO.1 ae with ae | ae
   ·have:=g7 k ae;omega
   ·rw[eK]at ae;omega
 have cV:i=L.length:=by have:¬ (i:Int)<(L.length:Int):=eO h;omega
 subst cV;rw[fT (cI _)]at rj h9 g7;refine cJ.mk λamu amv amw=>?_;refine br.lN a4 rfl (by simp) (e:=66) rfl rfl rfl out pz rfl (cs:=[.int .u8 d.k,.int .u64 d.b3,.int .u64 d.s1,.int .u64 d.s2,.int .u64 d.cm,.string d.t,.int .i64 d.lo,.int .i64 d.hi,b2.val]) rfl rfl rfl [] (b2.aq 3++[]) rfl (by omega) (by show(out.n+1)*96<=_;omega) ?_;intro os ah0 amx ah1;refine bi.mk ((gr.length:Nat):Int) (by show IntKind.i64.wrap ((os.n:Int)-1)=_;rw[wrap_i64 ⟨by omega,by omega⟩];omega) ?_;refine⟨_,_,.refl,bL,os,b2,gr,⟨d.k,d.b3,d.s1,d.s2,d.cm,d.t,d.lo,d.hi,b2.a.map λg=>⟨g,0,none⟩,b2.n,b2.c,NP⟩,rfl,by omega,by omega,?_,rfl,bo,ir,by omega,rfl,rfl,rfl,rfl,λk ae=>?_,?_⟩
 ·rw[gK];exact ah1
 ·have:=g7 k ae;exact⟨by omega,by omega⟩
 ·rw[pf,rj,dc];rfl
def WB(bl:gg I aF){d:an}(aj:d.ok I){L:List bw}(bB:dZ I cW L.length D5 2 32 (L.flatMap bw.cells))(ek:∀ t∈L,t.ok I/\right t=true)(aJ:(L.map (·.n)).sum<=1099511627776)(av:L.length<=1099511627776)(az:fits d L.length=true) :
  Spec Tryz.prog 59 [d.val,.slice cW L.length D5] I M0 λv I' M'=>(∀ b o,I b=some o->I' b=some o)/\M'=M0 /\
   ∃ bj:bw,v=.tuple #[bj.val,.bool true]/\bj.ok I'/\bj.bm=(bj.ns.length:Int)-1/\bj.ns.map an.a6=pf d (L.map kq):=by
 refine Spec.lT (Spec.frame (Spec.iU (ahU bl aj bB ek aJ av az))) ?_;rintro v J M⟨M',rfl,-,bL,rfl,-,I',M1,⟨aa,os,b2,gr,bX,rfl,h9,Hb,cC,rfl,bo,ir,g7,aA,a0,bY,dE,ny,dJ⟩,bf⟩;have e1:=aU.iU (b:=8) bf ir (λz a'=>nQ _ (h2 _ a')) (by omega);have f:∀ {α:Type} (p:an->α),p bX.a6=p (d.cA bX.ap):=λp=>by rw[dE]
 refine⟨bL,rfl,⟨gr++[bX],os.a.map λg=>⟨g,0,none⟩,os.n,os.c,(gr.length:Nat)⟩,rfl,⟨aU.iU bf cC (λz a'=>h2 _ a') (by omega),λx ab=>?_,⟨by simp only;omega,by simp only;omega⟩⟩,by simp,dJ⟩;rcases cO.1 ab with ab | ab
 ·exact(bo x ab).mono bf.le
 ·rw[eK]at ab;subst ab;have tP:=aj.mono bL;refine⟨?_,?_,?_,?_,?_,?_,?_,?_,by rw[aA,a0,bY];exact e1,ny⟩
  ·have:x.k=d.k:=f an.k;rw[this];exact tP.k
  ·have:x.b3=d.b3:=f an.b3;rw[this];exact tP.b3
  ·have:x.s1=d.s1:=f an.s1;rw[this];exact tP.s1
  ·have:x.s2=d.s2:=f an.s2;rw[this];exact tP.s2
  ·have:x.cm=d.cm:=f an.cm;rw[this];exact tP.cm
  ·have:x.t=d.t:=f an.t;rw[this];exact tP.t
  ·have:x.lo=d.lo:=f an.lo;rw[this];exact tP.lo
  ·have:x.hi=d.hi:=f an.hi;rw[this];exact tP.hi
def NU{A K B:List Int}(aj:gR (A++(K++B)))(ab:x∈K):iR (A++(K++B)) x=iR K x+(A.length:Int):=by have dk:x ∉ A:=λh=>(pc.1 aj).2.2 x h x (h2 _ ab) rfl;unfold iR;rw[Na,ca dk,Na,ck ab];omega
def WC{HV:List Int}{k:Int}(aj:gR (HV++[k])):iR (HV++[k]) k=(HV.length:Int):=by have dk:k ∉ HV:=λh=>(pc.1 aj).2.2 k h k (.head _) rfl;unfold iR;rw[Na,ca dk,List.idxOf_cons_self];omega
section
variable{t:bw}(af:hj t)
include af
theorem NV{j:Nat}(ai:j<t.ns.length){a5 post:List Int}{k:Int}(ae:(nodeAt t.ns j).ap=a5++k::post):dv t.ns j=a5.flatMap (dv t.ns)++(dv t.ns k++(post.flatMap (dv t.ns)++[(j:Int)])):=by rw[lM af ai,ae,gK,jO,fi,fi]
theorem ah2{j:Nat}(ai:j<t.ns.length){a5 post:List Int}{k:Int}(ae:(nodeAt t.ns j).ap=a5++k::post):iR (dv t.ns j) k=((a5.flatMap (dv t.ns)).length:Int)+(dv t.ns k).length-1:=by
 have NW:k∈(nodeAt t.ns j).ap:=by rw[ae];simp
 obtain⟨ay,aa⟩:=af.node ai NW;obtain⟨q,rfl⟩:=eN ay;have aK:q<t.ns.length:=by omega
 have aj:=At af j ai;rw[NV af ai ae]at aj |-;rw[NU aj (Sp af aK)];have fS:=At af q aK;have e:=lM af aK;rw[e]at fS |-;rw[WC fS,cL,ea,gL];omega
theorem ah3{j:Nat}(ai:j<t.ns.length){a5 post:List Int}{k:Int}(ae:(nodeAt t.ns j).ap=a5++k::post) :
  (((qa t.ns j).drop (a5.flatMap (dv t.ns)).length).take (dv t.ns k).length).map (ic (-((a5.flatMap (dv t.ns)).length:Int)))=qa t.ns k:=by
 have NW:k∈(nodeAt t.ns j).ap:=by rw[ae];simp
 obtain⟨ay,aa⟩:=af.node ai NW;obtain⟨q,rfl⟩:=eN ay;have aK:q<t.ns.length:=by omega
 have aj:=At af j ai;have aO:=Gs af q aK;have ar:=NV af ai ae;rw[yD af ai,yD af aK];rw[ar]at aj;have aA:(((dv t.ns j).map (kr t.ns (dv t.ns j))).drop (a5.flatMap (dv t.ns)).length).take (dv t.ns q).length=(dv t.ns q).map (kr t.ns (dv t.ns j)):=by rw[<-List.map_drop,<-List.map_take];congr 1;rw[ar,K3,vG]
 rw[aA,gz];refine fy λb ah=>?_;show ic _ (kr t.ns (dv t.ns j) b)=kr t.ns (dv t.ns q) b;show(nodeAt t.ns b.toNat).cA (((nodeAt t.ns b.toNat).ap.map (iR (dv t.ns j))).map _)=(nodeAt t.ns b.toNat).cA _;congr 1;rw[gz];refine fy λx ab=>?_;obtain⟨i,hi,rfl⟩:=hz ah;have ah4:x∈dv t.ns q:=zR (aO i hi x ab);show iR (dv t.ns j) x+_=_;rw[ar,NU aj ah4];omega
end
def ah5{c:Nat}{ds:List an}(h:dZ I a n c 9 96 (ds.flatMap an.cells))(e2:∀ d∈ds,d.ok I)(gj:Int)(Em:∀ d∈ds,∀ k∈d.ap,gy (k+gj)) :
  Spec Tryz.prog 108 [.slice a n c,.int .i64 gj] I M0 λv I' M'=>(∀ b o,I b=some o->I' b=some o)/\M'=M0/\∃ (bF:Option Addr) (c':Nat) (L:List an),v=.slice bF n c'/\dZ I' bF n c' 9 96 (L.flatMap an.cells)/\L.map an.a6=ds.map (ic gj)/\∀ d∈L,d.ok I':=by
 refine Spec.lT (Spec.frame (Spec.iU (Wp h e2 gj Em))) ?_;rintro v J M⟨M',rfl,-,bL,rfl,-,I',M1,⟨aa,os,L,rfl,rfl,bo,rfl,dJ,l1⟩,bf⟩;exact⟨bL,rfl,_,_,L,rfl,aU.iU bf bo (λ_ h=>h) h.cap.2,dJ,λd aj=>(l1 d aj).mono bf.le⟩
def dZ.ah6{c:Nat}{f:α->List Value}(az:∀ x,(f x).length=size){l:List α}(h:dZ I a n c size b (l.flatMap f)){lo hi:Nat}(aa:lo<=hi)(ad:hi<=n)(av:l.length=n) :
  dZ I (if c=lo then a else a.map (·.add (lo*size))) (hi-lo) (c-lo) size b (((l.drop lo).take (hi-lo)).flatMap f):=by
 have cu:(((l.drop lo).take (hi-lo)).flatMap f).length=(hi-lo)*size:=by rw[hM f size az,fu,rF,av,oA (by omega)]
 have iN:=h.cap;refine⟨cu,⟨by omega,lj (mq b (show hi-lo<=n by omega)) iN.2⟩,?_⟩;by_cases ay:hi-lo=0
 ·exact .inl ay
 ·right
  rcases h.rd with aJ | ⟨aV,rfl,cZ,cs,T,ak,bC,ag⟩;·omega
  ·have bs:¬ c=lo:=by omega
   rw[ca bs];refine⟨aV.add (lo*size),rfl,?_,cs,T,ak,?_,?_⟩;·rw[dY _ cZ]
   ·rw[dY _ cZ];exact bC
   ·rw[dY _ cZ];have aA:((l.drop lo).take (hi-lo)).flatMap f=((l.flatMap f).drop (lo*size)).take ((hi-lo)*size):=by
     have aw:∀ (l:List α) (k:Nat),(l.take k).flatMap f=(l.flatMap f).take (k*size):=λl k=>by
      by_cases ae:k<=l.length
      ·have e:l.flatMap f=(l.take k).flatMap f++(l.drop k).flatMap f:=by rw[<-gK,qM]
       have ad:((l.take k).flatMap f).length=k*size:=by rw[hM f size az,Gx ae]
       rw[e,<-ad,vG]
      ·rw[fT (by omega),fT (by rw[hM f size az];exact mq _ (by omega))]
     rw[aw,ahp f size az]
    rw[aA,<-ag,zB,Ff,xU];congr 1;have:(hi-lo)*size<=n*size-lo*size:=by rw[<-Nat.sub_mul];exact mq _ (by omega)
    omega
structure ah7(I:aM)(t:bw)(ks:List Int)(x:Nat×aU×List bw×aM):Prop where
 i:x.1<=ks.length
 os:x.2.1.ok 2 (x.2.2.1.flatMap bw.cells)
 len:x.2.2.1.length=x.1
 le:∀ b o,I b=some o->x.2.2.2 b=some o
 all:∀ q (h:q<x.2.2.1.length),(x.2.2.1[q]).ok x.2.2.2/\sb t (ks.getD q 0) x.2.2.1[q]
def WD(bl:gg I aF)(aw:t.ok I)(af:right t=true)(aJ:t.n<=1099511627776)(eD:t.bm=(r:Int)) : Spec Tryz.prog 58 [t.val] I M0 λv I' M'=>(∀ b o,I b=some o->I' b=some o)/\∃ (os:aU) (L:List bw),os.ok 2 (L.flatMap bw.cells)/\v=os.val/\M'=os.aq 31++M0 /\
  L.length=(nodeAt t.ns r).ap.length/\∀ q (h:q<L.length),(L[q]).ok I'/\sb t ((nodeAt t.ns r).ap.getD q 0) L[q]:=by
 refine cp [] a4 Tryz.func58 rfl rfl rfl ?_;intro B ay;have aX:=iQ.1 af;have l9:=aw.n;obtain⟨ib,gA⟩:=kG af;have eh:r<t.ns.length:=by omega
 refine bd.whole _ (ahD bl aw af aJ eD) ?_;rintro v J N -⟨bL,gq,t1,rfl,nt,ar⟩;subst N;have s':=KT af eh ar;have cx:=yx af t.ns.length r eh (by omega);have NS:=nt.n;have l0:=yD aX eh;have qU:=Gt aX r eh;have ah8:t1.ns.length=(dv t.ns r).length:=by have:=congrArg List.length ar.a6;rw[bO,l0,bO]at this;exact this
 have y1:=lM aX eh;have hy:0<(dv t.ns r).length:=by rw[y1];simp
 obtain⟨ks,fl⟩:∃ ks,(nodeAt t.ns r).ap=ks:=⟨_,rfl⟩;have wz:(t1.ns[t1.ns.length-1]'(by omega)).ap=ks.map (iR (dv t.ns r)):=by
  have aa:(t1.ns.map an.a6)[t1.ns.length-1]?=some (kr t.ns (dv t.ns r) r):=by
   rw[ar.a6,l0,mr];have:(dv t.ns r)[t1.ns.length-1]?=some (r:Int):=by rw[ah8,<-J5];exact KQ aX eh
   rw[this];rfl
  rw[mr,dX (by omega)]at aa;have ad:(t1.ns[t1.ns.length-1]'(by omega)).a6.ap=(kr t.ns (dv t.ns r) r).ap:=congrArg an.ap (gO aa);rw[<-fl];exact ad
 refine a9.mk (λh=>?_) (λ_=>?_)
 ·have:(t1.n:Int)=0:=dV h;omega
 have mN:t1.bm=((t1.ns.length-1:Nat):Int):=by rw[ar.bm];omega
 obtain⟨qY,r5,kE⟩:=nt.bb.row an.da (show t1.ns.length-1<t1.n by omega) (show t1.ns.length-1<t1.ns.length by omega);have gZ:=nt.ns _ (b9 (show t1.ns.length-1<t1.ns.length by omega));generalize t1.ns[t1.ns.length-1]'(by omega)=d at wz kE gZ;have e':=gZ.aT;have c0:ks.length=d.aT:=by have:=congrArg List.length wz;rw[bO]at this;omega
 have q1:=gZ.bb.cap;have g7:ks.length<=t.ns.length:=by
  have aA:=wu af eh;have a0:t.ns[r].ap=ks:=by rw[<-fl,gf eh]
  have bY:ks.length<=fz (je t.ns) ks:=Gh af λk ae=>by have:=aX.node eh (k:=k) (by rw[fl];exact ae);omega
  rw[a0]at aA;omega
 refine bu.mk qY (t1.ns.length-1) r5 mN (by omega) ?_;refine aZ.mk _ ((kE _).part (k:=8) (m:=1) (by decide)) ?_;refine dI.inv (ι:=Nat×aU×List bw×aM) (λx=>{ bn:=[(1,.ref 1 0),(3,.val x.2.1.val),(4,.val (.int .i64 ((ks.take x.1).flatMap (dv t.ns)).length)),(19,.val (.slice d.cW d.aT d.c5)),(20,.val (.int .i64 d.aT)),(21,.val (.int .i64 x.1))],cl:=[(1,t1.cells)],c2:=x.2.2.2,dx:=x.2.1.aq 31++M0 }) (λx=>ah7 J t ks x) (λx=>ks.length-x.1) ?_ ?_
 ·exact⟨(0,jz,[],J),⟨dO _,ob 2,rfl,λ_ _ h=>h,λq h=>absurd h (ot _)⟩,.refl,xQ,.cons rfl (.nil)⟩
 rintro⟨i,os,F7,fp⟩⟨hi,cC,k8,eQ,dN⟩;simp only at hi cC k8 eQ dN;have ah0:os.n=i:=by have:=cC.len;rw[hM _ 2 (λ_=>rfl),k8]at this;omega
 refine a9.mk (λh=>?_) (λh=>?_)
 rotate_left
 ·have cV:i=d.aT:=by have:¬ (i:Int)<(d.aT:Int):=eO h;omega
  exact⟨_,_,.refl,λb o h=>eQ _ _ (bL _ _ h),os,F7,cC,rfl,rfl,by rw[fl];omega,by rw[fl];exact dN⟩
 have aW:i<d.aT:=by have:(i:Int)<(d.aT:Int):=dV h;omega
 have Bn:i<ks.length:=by omega
 have NX:(nodeAt t.ns r).ap=ks.take i++ks[i]::ks.drop (i+1):=by rw[fl,<-e6 Bn,qM]
 have ah9:=ah2 aX eh NX;have NY:=ah3 aX eh NX;have gE:ks[i]∈(nodeAt t.ns r).ap:=by rw[fl];exact b9 Bn
 have aia:=aX.node eh gE;have lp:0<(dv t.ns ks[i]).length:=by obtain⟨q,aK⟩:=eN aia.1;have:=lM aX (j:=q) (by omega);rw[aK,this];simp
 have WE:((ks.take i).flatMap (dv t.ns)).length+(dv t.ns ks[i]).length<=t1.n:=by have:=congrArg List.length (NV aX eh NX);simp only[cL,ea,gL]at this;omega
 have ny:(ks.map (iR (dv t.ns r)))[i]'(by rw[bO];exact Bn)=((ks.take i).flatMap (dv t.ns)).length+(dv t.ns ks[i]).length-1:=by rw[hN];exact ah9
 obtain⟨gp,fe,e1⟩:=(gZ.mono eQ).bb.one aW (show i<d.ap.length by omega);have aib:d.ap[i]'(by omega)=(((ks.take i).flatMap (dv t.ns)).length:Int)+(dv t.ns ks[i]).length-1:=by simp only[wz];exact ny
 rw[aib]at e1;have NZ:((ks.take (i+1)).flatMap (dv t.ns)).length=((ks.take i).flatMap (dv t.ns)).length+(dv t.ns ks[i]).length:=by rw[gD Bn,gK,cL];simp
 have aic:ks.getD i 0=ks[i]:=by simp[cv,Bn]
 have N0:=nt.mono eQ;generalize((ks.take i).flatMap (dv t.ns)).length=A at NY WE e1 NZ;generalize amy:(dv t.ns ks[i]).length=nH at NY WE e1 NZ lp;have eu:=dZ.ah6 an.da N0.bb (lo:=A) (hi:=A+nH) (by omega) (by omega) NS;have gH:=KS af eh ar;refine bu.mk gp i fe rfl aW ?_;refine aZ.mk _ (e1 _) ?_;refine bi.mk ((A+nH:Nat):Int) (by rw[wrap_i64 ⟨by omega,by omega⟩];omega) ?_;refine kA.mk A (A+nH) rfl rfl (by omega) (by have:=N0.bb.cap.1;omega) ?_;refine bi.mk (-(A:Int)) (by first | exact wrap_i64 ⟨by omega,by omega⟩ | (rw[wrap_i64 ⟨by omega,by omega⟩];omega)) ?_;refine bd.whole _ (ah5 (M0:=os.aq 31++M0) eu (λx ab=>N0.ns x (List.mem_of_mem_drop (zR ab))) (-(A:Int)) λx ab k ae=>?_) ?_
 ·obtain⟨q,aK,rfl⟩:=hz (List.mem_of_mem_drop (zR ab));have:=jX gH q aK k ae;exact⟨by omega,by omega⟩
 rintro v lU N -⟨kw,gq,bF,c',HW,rfl,WG,aid,aie⟩;subst N;have aif:HW.length=nH:=by have:=WG.len;rw[hM _ 9 an.da]at this;omega
 refine bi.mk ((nH:Int)-1) (by rw[wrap_i64 ⟨by omega,by omega⟩];omega) ?_;refine cJ.mk λamz amA amB=>?_;refine br.lN a4 rfl (by simp) (e:=31) rfl rfl rfl os cC rfl (cs:=[.slice bF (A+nH-A) c',.int .i64 ((nH:Int)-1)]) rfl rfl rfl [] M0 rfl (by omega) (by show(os.n+1)*32<=_;omega) ?_;intro hE lR gd hc;refine bi.mk ((A+nH:Nat):Int) (by rw[wrap_i64 ⟨by omega,by omega⟩];omega) ?_;refine bi.mk _ (de (i:=i) (by omega)) ?_;have eZ:bw.ok lU ⟨HW,bF,A+nH-A,c',(nH:Int)-1⟩:=⟨WG,aie,⟨by simp only;omega,by simp only;omega⟩⟩;have jc:sb t ks[i] ⟨HW,bF,A+nH-A,c',(nH:Int)-1⟩:=by refine⟨?_,by simp only[aif]⟩;simp only;rw[aid,<-NY,<-Wu,List.map_take,List.map_drop,ar.a6,show A+nH-A=nH by omega]
 refine⟨(i+1,hE,F7++[⟨HW,bF,A+nH-A,c',(nH:Int)-1⟩],lU),⟨⟨Bn,?_,by simp[k8],λb o h=>kw _ _ (eQ _ _ h),λq aK=>?_⟩,by simp only;omega⟩,.refl,.cons .refl (.cons .refl (.cons ?_ (g1))),.cons rfl (.nil)⟩
 ·simp only;rw[gK];exact hc
 ·simp only at aK |-;by_cases e:q<F7.length
  ·rw[r7 e];exact⟨(dN q e).1.mono kw,(dN q e).2⟩
  ·have:q=i:=by simp at aK;omega
   subst this;rw[uG (by omega)];simp only[k8,kn,oM];rw[aic];exact⟨eZ,jc⟩
 ·simp only;rw[NZ];exact .refl
def aih{ds:List a2}{q:Nat}(h:d' nm ds 0=(q:Int)):dz nm (bp ds)=some (q:Int):=by rw[Vh,h,eU (by omega),b0]
section
end
section
end
open Classical in
def WH{ds:List a2}{F:List aI}{i:Nat}:i∈pq ds F ↔ i<ds.length/\iV (ia ds F) i i:=by unfold pq;rw[nR,kb,decide_eq_true_iff]
def N1:eH aF g=0 ↔ g.n≠0/\nw g.ds=true/\n' aF g=false/\(∀ i,i<g.ds.length->ov g.ds i=true)/\∀ d∈g.ds,∀ n∈d.t.ns,n.k=3->0<=d' n.t g.ds 0:=by
 rw[<-afY];have dN:(g.ds.all λd=>d.t.ns.all (A' g.ds))=true ↔ ∀ d∈g.ds,∀ n∈d.t.ns,n.k=3->0<=d' n.t g.ds 0:=by
  simp only[fL,A',jP,qC,pM,hk];constructor
  ·intro h d aj n aJ al;rcases h d aj n aJ with h | h
   ·exact absurd al h
   ·exact h
  ·intro h d aj n aJ;by_cases al:n.k=3
   ·exact .inr (h d aj n aJ al)
   ·exact .inl al
 have az:(List.range g.ds.length).all (ov g.ds)=true ↔ ∀ i,i<g.ds.length->ov g.ds i=true:=by simp[fL]
 rw[<-dN,<-az];unfold M4;by_cases aa:g.n=0
 ·rw[h6 (by omega),bZ];exact⟨(λh=>by cases h),(λh=>absurd aa h.1)⟩
 ·rw[eU (by omega),b0];cases nw g.ds with
  |false=>exact⟨(λh=>by cases h),(λh=>by cases h.2.1)⟩| true=>
  cases n' aF g with
  |true=>exact⟨(λh=>by cases h),(λh=>by cases h.2.2.1)⟩| false=>
  cases(List.range g.ds.length).all (ov g.ds)with
  |false=>exact⟨(λh=>by cases h),(λh=>by cases h.2.2.2.1)⟩| true=>
  cases(g.ds.all λd=>d.t.ns.all (A' g.ds))with
  |false=>exact⟨(λh=>by cases h),(λh=>by cases h.2.2.2.2)⟩| true=>exact⟨λ_=>⟨aa,rfl,rfl,rfl,rfl⟩,λ_=>rfl⟩
section
variable{α:Type}{z:α}{F:an->List α->α}
def N2{f:an->(Int->α)->α}:∀ (a b:List an) (aP:List α),fb z f (a++b) aP=fb z f b (fb z f a aP)
 |[],b,aP=>rfl| d::a,b,aP=>by rw[qO,fb,fb,N2 a b]
variable(bf:∀ d l,F (d.cA l)=F d)
include bf
theorem WI{n:Nat}{aP:List α}(aJ:aP.length=n):∀ (l:List an) (p:List α),(∀ d∈l,∀ k∈d.ap,0<=k)->fb z (λd g=>F d (d.ap.map g)) (l.map λx=>x.cA (x.ap.map λk=>(n:Int)+k)) (aP++p)=aP++fb z (λd g=>F d (d.ap.map g)) l p
 |[],p,_=>rfl
 |d::l,p,h=>by
  have e:F (d.cA (d.ap.map λk=>(n:Int)+k)) ((d.ap.map λk=>(n:Int)+k).map λk=>(aP++p).getD k.toNat z)=F d (d.ap.map λk=>p.getD k.toNat z):=by rw[bf,gz];congr 1;refine fy λk ae=>?_;have ay:=h d (.head _) k ae;show(aP++p).getD ((n:Int)+k).toNat z=_;rw[cv,jW (by omega),cv];congr 2;omega
  rw[cc,fb,fb];show fb z _ _ (aP++p++[F (d.cA (d.ap.map λk=>(n:Int)+k)) ((d.ap.map λk=>(n:Int)+k).map λk=>(aP++p).getD k.toNat z)])=_;rw[e,fi];exact WI aJ l _ λx ab=>h x (.tail _ ab)
def pA(z:α)(F:an->List α->α)(l:List an):α:=gM z (λd g=>F d (d.ap.map g)) l ((l.length:Int)-1)
theorem WJ:∀ (e3:List (List an)) (aN:List an×List Int) (vs:List α),(∀ l∈e3,0<l.length/\∀ d∈l,∀ k∈d.ap,0<=k) -> (aN.2.map λk=>(fb z (λd g=>F d (d.ap.map g)) aN.1 []).getD k.toNat z)=vs->(∀ k∈aN.2,0<=k/\k<aN.1.length) -> ((e3.foldl hQ aN).2.map λk=>(fb z (λd g=>F d (d.ap.map g)) (e3.foldl hQ aN).1 []).getD k.toNat z)=vs++e3.map (pA z F)
 |[],aN,vs,_,h,_=>by simpa using h
 |l::e3,aN,vs,av,h,ae=>by
  obtain⟨xF,kg⟩:=av l (.head _);have cu:(fb z (λd g=>F d (d.ap.map g)) aN.1 []).length=aN.1.length:=by rw[Jy];simp
  have bl:fb z (λd g=>F d (d.ap.map g)) (hQ aN l).1 []=fb z (λd g=>F d (d.ap.map g)) aN.1 []++fb z (λd g=>F d (d.ap.map g)) l []:=by show fb z _ (aN.1++l.map λx=>x.cA (x.ap.map λk=>(aN.1.length:Int)+k)) []=_;rw[N2];have:=WI bf (z:=z) cu l [] kg;rwa [ee]at this
  rw[iY];have:=WJ e3 (hQ aN l) (vs++[pA z F l]) (λx ab=>av x (.tail _ ab)) ?_ ?_;·rw[this,cc,fi];rfl
  ·rw[bl];show(aN.2++[((aN.1.length+l.length:Nat):Int)-1]).map _=_;rw[dc,<-h,cc,h3];congr 1
   ·refine fy λk hA=>?_;have:=ae k hA;rw[cv,oL (by rw[cu];omega),cv]
   ·congr 1;rw[cv,jW (by rw[cu];omega),cu];unfold pA gM;rw[cv];congr 2;omega
  ·intro k hA;rcases cO.1 (show k∈aN.2++[((aN.1.length+l.length:Nat):Int)-1]from hA)with hA | hA
   ·have:=ae k hA;show 0<=k/\k<((aN.1++l.map λx=>x.cA (x.ap.map λk=>(aN.1.length:Int)+k)).length:Nat);rw[cL];omega
   ·rw[eK]at hA;show 0<=k/\k<((aN.1++l.map λx=>x.cA (x.ap.map λk=>(aN.1.length:Int)+k)).length:Nat);rw[cL,bO];omega
theorem WK{d:an}(av:∀ l∈e3,0<l.length/\∀ d∈l,∀ k∈d.ap,0<=k):pA z F (pf d e3)=F d (e3.map (pA z F)):=by
 have h:=WJ bf (z:=z) e3 ([],[]) [] av rfl (λk ae=>by cases ae);rw[jq]at h;have cu:(fb z (λd g=>F d (d.ap.map g)) (e3.foldl hQ ([],[])).1 []).length=(e3.foldl hQ ([],[])).1.length:=by rw[Jy];simp
 unfold pA gM pf;rw[N2,fb,fb];show(_++[F (d.cA (e3.foldl hQ ([],[])).2) ((e3.foldl hQ ([],[])).2.map λk=>(fb z (λd g=>F d (d.ap.map g)) (e3.foldl hQ ([],[])).1 []).getD k.toNat z)]).getD _ z=_;rw[h,bf,cv,jW (by rw[cu];simp)];have c1:((((e3.foldl hQ ([],[])).1++[d.cA (e3.foldl hQ ([],[])).2]).length:Int)-1).toNat-(fb z (λd g=>F d (d.ap.map g)) (e3.foldl hQ ([],[])).1 []).length=0:=by rw[cu];simp
 rw[c1];rfl
end
def ld{α:Type}(z:α)(F:an->List α->α)(t:bw):α:=gM z (λd g=>F d (d.ap.map g)) t.ns t.bm
open Classical in
noncomputable def vk{α:Type}(nm:ByteArray)(b:α)(F:an->List α->α):an->List α->α:=λd xs=>if d.k=3/\d.t=nm then b else F d xs
structure xj(nm:ByteArray)(body t bj:bw):Prop where
 right:right bj=true
 bt:∀ {α:Type} (z:α) (F:an->List α->α),(∀ d l,F (d.cA l)=F d)->ld z F bj=ld z (vk nm (ld z F body) F) t
def aii{b:α}{F:an->List α->α}(bf:∀ d l,F (d.cA l)=F d)(d:an)(l:List Int):vk nm b F (d.cA l)=vk nm b F d:=by funext xs;unfold vk;rw[bf];rfl
def WL{z:α}{F:an->List α->α}(af:right t=true)(eD:t.bm=(r:Int))(eh:r<t.ns.length):ld z F t=F t.ns[r] (t.ns[r].ap.map (gM z (λd g=>F d (d.ap.map g)) t.ns)):=by unfold ld;rw[eD];exact ux (λd g cN h=>by rw[fy h]) af eh
def WM{z:α}{F:an->List α->α}(bf:∀ d l,F (d.cA l)=F d)(ns:List an)(k:Int):gM z (λd g=>F d (d.ap.map g)) (ns.map an.a6) k=gM z (λd g=>F d (d.ap.map g)) ns k:=by
 unfold gM;rw[Ap (f:=λd g=>F d (d.ap.map g)) (g:=λd g=>F d (d.ap.map g)) (λd q=>by
  have:F d.a6=F d:=bf d d.ap;show F d.a6 (d.ap.map q)=_;rw[this])]
def aij{z:α}{F:an->List α->α}(bf:∀ d l,F (d.cA l)=F d)(af:right t=true){j:Nat}(ai:j<t.ns.length){bj:bw}(h:sb t j bj):ld z F bj=gM z (λd g=>F d (d.ap.map g)) t.ns j:=by have av:=congrArg List.length h.a6;rw[bO]at av;unfold ld;rw[<-WM bf,h.a6,h.bm,av];exact Ss (iQ.1 af) (F:=F) bf ai
def aik{z:α}{F:an->List α->α}(bf:∀ d l,F (d.cA l)=F d)(rk:t.bm=(t.ns.length:Int)-1):pA z F (t.ns.map an.a6)=ld z F t:=by unfold pA ld;rw[WM bf,bO,rk]
def ail(af:right t=true)(eD:t.bm=(r:Int)):hj (hS (kq t))/\0<(kq t).length:=by obtain⟨ib,gA⟩:=kG af;unfold kq;rw[eD];exact⟨KR (iQ.1 af) (by omega),(Sr (iQ.1 af) (by omega)).1⟩
def aim{z:α}{F:an->List α->α}(bf:∀ d l,F (d.cA l)=F d)(af:right t=true):pA z F (kq t)=ld z F t:=by obtain⟨ib,gA⟩:=kG af;obtain⟨r,eD⟩:=eN ib;unfold kq pA ld;rw[eD];exact Ss (iQ.1 af) (F:=F) bf (by omega)
def Bo(d:an)(l:List Int)(n:Int):fits (d.cA l) n=fits d n:=rfl
structure xk(aN:List an×List Int):Prop where
 fits:∀ d∈aN.1,fits d d.ap.length=true
 ap:∀ j (h:j<aN.1.length),∀ k∈aN.1[j].ap,0<=k/\k<j
 diff:gR (dU aN.1)
 all:∀ j:Nat,j<aN.1.length->((j:Int)∈dU aN.1 ↔ (j:Int) ∉ aN.2)
 b2:gR aN.2
 Eo:∀ k∈aN.2,0<=k/\k<aN.1.length
def HX{l:List an}(h:∀ j (h:j<l.length),∀ k∈l[j].ap,0<=k/\k<j):∀ k∈dU l,0<=k/\k<l.length:=λk ae=>by obtain⟨d,aj,ir⟩:=hg.1 ae;obtain⟨j,ai,rfl⟩:=hz aj;have:=h j ai k ir;omega
def ain(n:Int)(l:List an):dU (l.map λx=>x.cA (x.ap.map λk=>n+k))=(dU l).map λk=>n+k:=by unfold dU;rw[wj,w5];rfl
def xk.step{aN:List an×List Int}(h:xk aN){l:List an}(av:hj (hS l)):xk (hQ aN l):=by
 have mN:=av.bm;have kg:=HX (l:=l) av.ap;have Bp:=HX h.ap;have dN:dU (hQ aN l).1=dU aN.1++(dU l).map λk=>(aN.1.length:Int)+k:=by show dU (aN.1++_)=_;rw[<-ain];unfold dU;rw[gK]
 have cu:(hQ aN l).1.length=aN.1.length+l.length:=by show(aN.1++_).length=_;rw[cL,bO]
 have ir:(hQ aN l).2=aN.2++[((aN.1.length+l.length:Nat):Int)-1]:=rfl;have nZ:(hS l).bm=(l.length:Int)-1:=rfl;have pQ:(hS l).ns=l:=rfl;rw[nZ,pQ]at mN;refine⟨λd aj=>?_,λj ai k ae=>?_,?_,λj ai=>?_,?_,λk ae=>?_⟩
 ·rcases cO.1 (show d∈aN.1++l.map (λx=>x.cA (x.ap.map λk=>(aN.1.length:Int)+k))from aj)with aj | aj
  ·exact h.fits d aj
  ·obtain⟨x,ab,rfl⟩:=cG.1 aj;obtain⟨j,ai,rfl⟩:=hz ab;have:=av.fits j ai;rw[Bo];show Go.V.fits l[j] (((l[j].ap.map λk=>(aN.1.length:Int)+k).length:Nat):Int)=true;rw[bO];exact this
 ·have ai:j<(aN.1++l.map (λx=>x.cA (x.ap.map λk=>(aN.1.length:Int)+k))).length:=ai;have hA:k∈((aN.1++l.map (λx=>x.cA (x.ap.map λk=>(aN.1.length:Int)+k)))[j]'ai).ap:=ae;have lf:j<aN.1.length+l.length:=by rw[<-cu];exact ai
  by_cases fx:j<aN.1.length;·rw[r7 fx]at hA;exact h.ap j fx k hA
  ·rw[uG (by omega),hN]at hA;obtain⟨q,aK,rfl⟩:=cG.1 (show k∈(l[j-aN.1.length]'(by omega)).ap.map (λk=>(aN.1.length:Int)+k)from hA);have:=av.ap (j-aN.1.length) (by show _<l.length;omega) q aK;omega
 ·rw[dN];refine pc.2 ⟨h.diff,yp.2 ((show gR (dU l)from av.diff).imp λbs e=>bs (by omega)),λx ab y aD e=>?_⟩;obtain⟨q,aK,rfl⟩:=cG.1 aD;have aa:=Bp x ab;have ad:=kg q aK;omega
 ·rw[dN,ir,cO,cO,eK,cG];rw[cu]at ai;by_cases fx:j<aN.1.length
  ·have aY:=h.all j fx;constructor
   ·rintro(aa | ⟨q,aK,e⟩)
    ·rintro(ad | ad)
     ·exact aY.1 aa ad
     ·omega
    ·have:=kg q aK;omega
   ·intro aa;exact .inl (aY.2 λad=>aa (.inl ad))
  ·have aY:=av.all (j-aN.1.length) (by show _<l.length;omega);rw[nZ,pQ]at aY;constructor
   ·rintro(aa | ⟨q,aK,e⟩)
    ·have:=Bp _ aa;omega
    ·rintro(ad | ad)
     ·have:=h.Eo _ ad;omega
     ·have a0:q=((j-aN.1.length:Nat):Int):=by omega
      rw[a0]at aK;exact aY.1 aK (by omega)
   ·intro aa;refine .inr ⟨((j-aN.1.length:Nat):Int),aY.2 λe=>aa (.inr (by omega)),by omega⟩
 ·rw[ir];refine pc.2 ⟨h.b2,by simp,λx ab y aD e=>?_⟩;rw[eK]at aD;have:=h.Eo x ab;omega
 ·rw[ir]at ae;rw[cu];rcases cO.1 ae with ae | ae
  ·have:=h.Eo k ae;omega
  ·rw[eK]at ae;omega
def xk.WN:∀ (e3:List (List an)) (aN:List an×List Int),xk aN->(∀ l∈e3,hj (hS l))->xk (e3.foldl hQ aN)/\(e3.foldl hQ aN).2.length=aN.2.length+e3.length
 |[],aN,h,_=>⟨h,rfl⟩| l::e3,aN,h,av=>by obtain⟨aa,ad⟩:=xk.WN e3 (hQ aN l) (h.step (av l (.head _))) λx ab=>av x (.tail _ ab);refine⟨aa,?_⟩;rw[iY,ad];show(aN.2++[_]).length+_=_;simp;omega
def WO{d:an}(av:∀ l∈e3,hj (hS l))(az:fits d e3.length=true):hj (hS (pf d e3)):=by
 obtain⟨h,c0⟩:=xk.WN e3 ([],[]) ⟨(λd aj=>by cases aj),(λj h=>absurd h (ot _)),.nil,(λj h=>absurd h (ot _)),.nil,(λk ae=>by cases ae)⟩ av;have Bp:=HX h.ap;unfold pf;generalize e3.foldl hQ ([],[])=aN at h c0 Bp;have dN:dU (aN.1++[d.cA aN.2])=dU aN.1++aN.2:=by unfold dU;rw[gK];simp[an.cA]
 have cu:(aN.1++[d.cA aN.2]).length=aN.1.length+1:=by simp
 refine⟨?_,λj ai=>?_,λj ai k ae=>?_,?_,λj ai=>?_⟩
 ·show 0<=(((aN.1++[d.cA aN.2]).length:Nat):Int)-1/\(((aN.1++[d.cA aN.2]).length:Nat):Int)-1<((aN.1++[d.cA aN.2]).length:Nat);omega
 ·have ai:j<(aN.1++[d.cA aN.2]).length:=ai;show fits ((aN.1++[d.cA aN.2])[j]'ai) ((((aN.1++[d.cA aN.2])[j]'ai).ap.length:Nat):Int)=true;rcases cO.1 (b9 ai)with hm | hm
  ·exact h.fits _ hm
  ·rw[eK.1 hm,Bo];show fits d (aN.2.length:Nat)=true;rw[c0];simpa using az
 ·have ai:j<(aN.1++[d.cA aN.2]).length:=ai;have ae:k∈((aN.1++[d.cA aN.2])[j]'ai).ap:=ae;by_cases fx:j<aN.1.length
  ·rw[r7 fx]at ae;exact h.ap j fx k ae
  ·have jL:j<(aN.1++[d.cA aN.2]).length:=ai;have e:j=aN.1.length:=by omega
   subst e;rw[uG (by omega)]at ae;have ae:k∈aN.2:=by simpa[an.cA]using ae
   have:=h.Eo k ae;omega
 ·show gR (dU (aN.1++[d.cA aN.2]));rw[dN];refine pc.2 ⟨h.diff,h.b2,λx ab y aD e=>?_⟩;subst e;have aa:=Bp x ab;obtain⟨q,rfl⟩:=eN aa.1;exact(h.all q (by omega)).1 ab aD
 ·show(j:Int)∈dU (aN.1++[d.cA aN.2]) ↔ (j:Int)≠(((aN.1++[d.cA aN.2]).length:Nat):Int)-1;have ai:j<(aN.1++[d.cA aN.2]).length:=ai;rw[dN,cO,cu];by_cases fx:j<aN.1.length
  ·have aY:=h.all j fx;constructor
   ·intro _;omega
   ·intro _;by_cases hm:(j:Int)∈aN.2
    ·exact .inr hm
    ·exact .inl (aY.2 hm)
  ·constructor
   ·rintro(aa | aa)
    ·have:=Bp _ aa;omega
    ·have:=h.Eo _ aa;omega
   ·intro bs;omega
end Go.V
